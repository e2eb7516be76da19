/- code.Decode: what it answers at every row of bytes and every place, as a plain function; nothing that was there turns. -/
import Derived.Test.YtcfpiamdkdedlaaDecodeC
import Derived.Test.YtcfpiamdkdedlaaPCodePatchesx1
namespace Go.Proofs.Ytcfpiamdkdedlaa.DecodeC
open Go.RowKit Go.Proofs.YtcfpiamdkdedlaaW.PrintWords Go.Proofs.YtcfpiamdkdedlaaW.PrintLast Go.Proofs.YtcfpiamdkdedlaaW.PrintMore Go.Proofs.Ytcfpiamdkdedlaa.PCodePatches Go.Proofs.Ytcfpiamdkdedlaa.Spec
set_option linter.unusedVariables false

theorem size5 : ∀ n : Fin 256, code_Size.f 5 (n.val : Int) = some (sizeS (n.val : Int)) := by decide +kernel
theorem widths5 : ∀ n : Fin 256, code_widths.f 5 (n.val : Int) = some ((wA (n.val : Int) : Int), (wB (n.val : Int) : Int)) := by decide +kernel
theorem fin_of {op : Int} (h0 : 0 ≤ op) (h1 : op ≤ 255) : ∃ n : Fin 256, op = (n.val : Int) := ⟨⟨op.toNat, by omega⟩, by simp; omega⟩
theorem size_any (op : Int) (h0 : 0 ≤ op) (h1 : op ≤ 255) (w : World) : Calls Try.prog 13 #[.int .u8 op] w fun e w' => e = .returned (.int .i64 (sizeS op)) ∧ Drawn0 w w' := by
  obtain ⟨n, rfl⟩ := fin_of h0 h1
  exact code_Size.calls 5 _ _ w (size5 n)
theorem widths_any (op : Int) (h0 : 0 ≤ op) (h1 : op ≤ 255) (w : World) : Calls Try.prog 40 #[.int .u8 op] w fun e w' => e = .returned (.tuple #[.int .i64 (wA op), .int .i64 (wB op)]) ∧ Drawn0 w w' := by
  obtain ⟨n, rfl⟩ := fin_of h0 h1
  exact code_widths.calls 5 _ _ _ w (widths5 n)

/-- A draw changes no block: it may stand outermost. -/
theorem drewN_set (w : World) (n : Nat) (a : Addr) (v : Value) : (w.drewN n).setCell a v = (w.setCell a v).drewN n := by
  unfold World.drewN World.setCell
  split <;> rfl
theorem drewN_new (w : World) (n : Nat) (o : Obj) : (w.drewN n).alloc o = (w.alloc o).drewN n := rfl
attribute [local go_sem] drewN_set drewN_new

def DecPost (r : (Int × Int × Int × Int) × Int) (w : World) (e : Ending) (w' : World) : Prop :=
  e = .returned (.tuple #[.agg #[.int .i64 r.1.1, .int .u8 r.1.2.1, .int .i64 r.1.2.2.1, .int .i64 r.1.2.2.2], .int .i64 r.2]) ∧ Below w.heap.size w w'

set_option maxHeartbeats 1000000 in
set_option maxRecDepth 100000 in
theorem decode_out (A : Option Addr) (c : Nat) (l : List Int) (a : Int) (w : World) (hl : l.length ≤ 140737488355328) (ha : a < 0 ∨ a > l.length) :
    Calls Try.prog 25 #[.slice A l.length c, .int .i64 a] w (DecPost ((0, 0, 0, 0), 1) w) := by
  rcases ha with ha | ha
  · go_enter Try.func25, Try.ntmps25
    go_wp2
    exact bodyPost_ret (v := .tuple #[.agg #[.int .i64 0, .int .u8 0, .int .i64 0, .int .i64 0], .int .i64 1]) (by simp [results, Try.results25, go_sem]) rfl ⟨rfl, (by repeat (first | exact Below.refl _ _ | apply below_alloc | apply pw_below_drewN | apply below_drew | refine below_set ?_ (by simp; omega)))⟩
  · have hn : ¬ a < 0 := by omega
    go_enter Try.func25, Try.ntmps25
    go_wp2
    exact bodyPost_ret (v := .tuple #[.agg #[.int .i64 0, .int .u8 0, .int .i64 0, .int .i64 0], .int .i64 1]) (by simp [results, Try.results25, go_sem]) rfl ⟨rfl, (by repeat (first | exact Below.refl _ _ | apply below_alloc | apply pw_below_drewN | apply below_drew | refine below_set ?_ (by simp; omega)))⟩

set_option maxHeartbeats 1000000 in
set_option maxRecDepth 100000 in
theorem decode_end (A : Option Addr) (c : Nat) (l : List Int) (w : World) (hl : l.length ≤ 140737488355328) :
    Calls Try.prog 25 #[.slice A l.length c, .int .i64 (l.length : Int)] w (DecPost ((0, 0, 0, 0), 2) w) := by
  go_enter Try.func25, Try.ntmps25
  go_wp2
  exact bodyPost_ret (v := .tuple #[.agg #[.int .i64 0, .int .u8 0, .int .i64 0, .int .i64 0], .int .i64 2]) (by simp [results, Try.results25, go_sem]) rfl ⟨rfl, (by repeat (first | exact Below.refl _ _ | apply below_alloc | apply pw_below_drewN | apply below_drew | refine below_set ?_ (by simp; omega)))⟩

set_option maxHeartbeats 1000000 in
set_option maxRecDepth 100000 in
theorem decode_none (A : Option Addr) (c : Nat) (l : List Int) (k : Nat) (w : World) (hl : l.length ≤ 140737488355328) (hr : Kd.C (Kd.int .u8) w A l.length l) (hb : ∀ x ∈ l, 0 ≤ x ∧ x ≤ 255) (hk : k < l.length) (hs : sizeS (rd l k) = 0) :
    Calls Try.prog 25 #[.slice A l.length c, .int .i64 (k : Int)] w (DecPost ((0, 0, 0, 0), 40) w) := by
  obtain ⟨ad, e, hx⟩ := Kd.at_int hr (k : Int) (by omega) (by omega)
  rw [Int.toNat_natCast] at hx
  cases e
  have hb0 := block_lt_of_cell hx
  have hb1 : (ad.add k).block < w.heap.size + 1 := by omega
  have hb2 : (ad.add k).block < w.heap.size + 2 := by omega
  have hb3 : (ad.add k).block < w.heap.size + 3 := by omega
  have hxr := rd_range l hb k hk
  have hs' := Lib.hid hs
  have hsb : (sizeS (rd l k) == 0) = true := by rw [hs]; rfl
  have hne : ((k : Int) == (l.length : Int)) = false := by simp; omega
  have hne2 : (k == l.length) = false := by simp; omega
  clear hr hb hs
  go_enter Try.func25, Try.ntmps25
  go_wp2_with (go_at_call 13; refine (size_any _ (by omega) (by omega) _).mono ?_; rintro e w1 ⟨rfl, ⟨⟨n1, rfl⟩⟩⟩)
  exact bodyPost_ret (v := .tuple #[.agg #[.int .i64 0, .int .u8 0, .int .i64 0, .int .i64 0], .int .i64 40]) (by simp [results, Try.results25, go_sem]) rfl ⟨rfl, (by repeat (first | exact Below.refl _ _ | apply below_alloc | apply pw_below_drewN | apply below_drew | refine below_set ?_ (by simp; omega)))⟩

set_option maxHeartbeats 1000000 in
set_option maxRecDepth 100000 in
theorem decode_short (A : Option Addr) (c : Nat) (l : List Int) (k : Nat) (w : World) (hl : l.length ≤ 140737488355328) (hr : Kd.C (Kd.int .u8) w A l.length l) (hb : ∀ x ∈ l, 0 ≤ x ∧ x ≤ 255) (hk : k < l.length) (hs : sizeS (rd l k) ≠ 0)
    (ht : (l.length : Int) - k < sizeS (rd l k)) :
    Calls Try.prog 25 #[.slice A l.length c, .int .i64 (k : Int)] w (DecPost ((0, 0, 0, 0), 2) w) := by
  obtain ⟨ad, e, hx⟩ := Kd.at_int hr (k : Int) (by omega) (by omega)
  rw [Int.toNat_natCast] at hx
  cases e
  have hb0 := block_lt_of_cell hx
  have hb1 : (ad.add k).block < w.heap.size + 1 := by omega
  have hb2 : (ad.add k).block < w.heap.size + 2 := by omega
  have hb3 : (ad.add k).block < w.heap.size + 3 := by omega
  have hxr := rd_range l hb k hk
  have hsb : (sizeS (rd l k) == 0) = false := by simpa using hs
  have hne : ((k : Int) == (l.length : Int)) = false := by simp; omega
  have hne2 : (k == l.length) = false := by simp; omega
  clear hr hb hs
  go_enter Try.func25, Try.ntmps25
  go_wp2_with (go_at_call 13; refine (size_any _ (by omega) (by omega) _).mono ?_; rintro e w1 ⟨rfl, ⟨⟨n1, rfl⟩⟩⟩)
  exact bodyPost_ret (v := .tuple #[.agg #[.int .i64 0, .int .u8 0, .int .i64 0, .int .i64 0], .int .i64 2]) (by simp [results, Try.results25, go_sem]) rfl ⟨rfl, (by repeat (first | exact Below.refl _ _ | apply below_alloc | apply pw_below_drewN | apply below_drew | refine below_set ?_ (by simp; omega)))⟩
end Go.Proofs.Ytcfpiamdkdedlaa.DecodeC
