/- code.Decode: what it answers at every row of bytes and every place, as a plain function; nothing that was there turns. -/
import Derived.Test.YtcfpiamdkdedlaaSpec
import Derived.Test.YtcfpiamdkdedlaaPCodePatchesx0
import Derived.Lib.SliceRun
import Derived.Lib.Hide
namespace Go.Proofs.Ytcfpiamdkdedlaa.DecodeC
open Go.RowKit Go.Proofs.YtcfpiamdkdedlaaW.PrintWords Go.Proofs.YtcfpiamdkdedlaaW.PrintLast Go.Proofs.YtcfpiamdkdedlaaW.PrintMore Go.Proofs.Ytcfpiamdkdedlaa.PCodePatches Go.Proofs.Ytcfpiamdkdedlaa.Spec
set_option linter.unusedVariables false

theorem or8 (x y : Int) (h0 : 0 ≤ x) (h1 : x < 1099511627776) (hx : x % 256 = 0) (hy : 0 ≤ y) (hy1 : y < 256) : bits .or .i64 x y = x + y :=
  bits_join .i64 40 (by decide) (fun n h0 h1 => by rw [IntKind.wrap_i64]; omega) 8 x y h0 hx h1 hy (by omega) (by omega)

/-- A row of bytes, cut at its begin. -/
theorem cut_row (A : Option Addr) (c : Nat) (l : List Int) (m : Nat) (hm : m ≤ l.length) (hc : l.length ≤ c) :
    ∃ A' : Option Addr, (∀ W : World, (Instr.slice 30 (.slice A l.length c) (some (.int .i64 (m : Int))) none none).run Try.prog W = .ok (.slice A' (l.length - m) (c - m)) W) ∧
      (∀ W : World, Kd.C (Kd.int .u8) W A l.length l → Kd.C (Kd.int .u8) W A' (l.drop m).length (l.drop m)) := by
  obtain ⟨i0, hi, hz0, hz1, hz2⟩ := info_parts info5
  refine ⟨if c = m then A else A.map (·.add (m * 1)), ?_, ?_⟩
  · have := cut_from (P := Try.prog) 30 5 .i64 Try.underlying30 hi 1 hz1 A l.length c (m : Int) (by omega) (by omega)
    simpa using this
  · intro W h
    exact Kd.C_drop h hm hc

theorem rd_take (l : List Int) (k : Nat) (hk : k < l.length) : beVal (l.take (k + 1)) = beVal (l.take k) * 256 + rd l (k : Int) := by
  rw [List.take_succ_eq_append_getElem hk, beVal_snoc]
  simp [rd, List.getD_eq_getElem?_getD, List.getElem?_eq_getElem hk]
theorem rd_range (l : List Int) (hb : ∀ x ∈ l, 0 ≤ x ∧ x ≤ 255) (k : Nat) (hk : k < l.length) : 0 ≤ rd l (k : Int) ∧ rd l (k : Int) ≤ 255 := by
  have := hb l[k] (List.getElem_mem hk)
  simpa [rd, List.getD_eq_getElem?_getD, List.getElem?_eq_getElem hk] using this

def TakePost (g : Nat) (A : Option Addr) (c : Nat) (l : List Int) (wd : Nat) (w : World) (e : Ending) (w' : World) : Prop :=
  ∃ A' : Option Addr, e = .returned (.int .i64 (takeV l wd)) ∧ w' = w.setCell ⟨g, 0, none⟩ (.slice A' (l.length - wd) (c - wd)) ∧
    (∀ W : World, Kd.C (Kd.int .u8) W A l.length l → Kd.C (Kd.int .u8) W A' (l.drop wd).length (l.drop wd))

theorem take4 (v : Int) (h0 : 0 ≤ v) (h1 : v < 4294967296) : wrap64 (wrap32 v) = if v ≥ 2147483648 then v - 4294967296 else v := by
  unfold wrap64 wrap32
  split <;> omega

set_option maxHeartbeats 1000000 in
set_option maxRecDepth 100000 in
theorem take_any (g : Nat) (A : Option Addr) (c : Nat) (l : List Int) (wd : Nat) (w : World) (hr : Kd.C (Kd.int .u8) w A l.length l) (hc : l.length ≤ c) (hl : l.length ≤ 140737488355328)
    (hb : ∀ x ∈ l, 0 ≤ x ∧ x ≤ 255) (hwd : wd ≤ 4) (hle : wd ≤ l.length)
    (hcell : w.cell? ⟨g, 0, none⟩ = some (.slice A l.length c)) (hfr : w.frozen? ⟨g, 0, none⟩ = false) :
    Calls Try.prog 46 #[.int .i64 (wd : Int), .pointer (some ⟨g, 0, none⟩)] w (TakePost g A c l wd w) := by
  obtain ⟨A', hcut, hrow⟩ := cut_row A c l wd hle hc
  obtain ⟨i0, hi, hz0, hz1, hz2⟩ := info_parts info5
  have hto := cut_to (P := Try.prog) 30 5 .i64 Try.underlying30 hi A l.length c (wd : Int) (by omega) (by omega) hc
  rw [Int.toNat_natCast] at hto
  have HR := Lib.hid hr
  have HB := Lib.hid hb
  have HW := Lib.hid hrow
  clear hr hb hrow hi hz0 hz1 hz2
  go_enter Try.func46, Try.ntmps46
  go_wp2
  go_loop [4, 6, 11] (fun n x i => ∃ k : Nat, k ≤ wd ∧ n = .int .i64 (beVal (l.take k)) ∧ i = .int .i64 (k : Int)) (fun _ _ i => wd - (intOf i).toNat)
  case atStart => exact ⟨0, by omega, rfl, rfl⟩
  case round =>
    obtain ⟨k, hk, rfl, rfl⟩ := hrel
    have hv := beVal_range k l HB.out
    have hv2 : beVal (l.take k) < 4294967296 := by
      have : k = 0 ∨ k = 1 ∨ k = 2 ∨ k = 3 ∨ k = 4 := by omega
      rcases this with rfl | rfl | rfl | rfl | rfl <;> omega
    have hv1 := hv.1
    clear hv
    by_cases hlt : k < wd
    · obtain ⟨ad, e, hx⟩ := Kd.at_int HR.out (k : Int) (by omega) (by omega)
      rw [Int.toNat_natCast] at hx
      cases e
      have hxr := rd_range l HB.out k (by omega)
      have hor := Lib.hid (or8 (beVal (l.take k) * 256) (rd l (k : Int)) (by omega) (by omega) (by omega) (by omega) (by omega))
      have hst := Lib.hid (rd_take l k (by omega))
      go_wp2
      go_round
      case rel => exact ⟨k + 1, by omega, by rw [hst.out, ← hor.out], by go_num⟩
      case measure => simp [intOf]; omega
    · have hke := Lib.hid (show k = wd by omega)
      have HT := Lib.hid (take4 (beVal (l.take k)) (by omega) (by omega))
      by_cases h4 : wd = 4
      · have H4 := Lib.hid h4
        have h4b : ((wd : Int) == 4) = true := by rw [h4]; rfl
        clear h4
        go_wp2
        go_ret
        refine ⟨A', ?_, rfl, HW.out⟩
        rw [takeV, ← hke.out]
        have e4 : k = 4 := by rw [hke.out]; exact H4.out
        simp only [e4, true_and]
        have := HT.out
        rw [e4] at this
        rw [← this]
        rfl
      · have H4 := Lib.hid h4
        have h4b : ((wd : Int) == 4) = false := by simp; omega
        clear h4
        go_wp2
        go_ret
        refine ⟨A', ?_, rfl, HW.out⟩
        rw [takeV, if_neg (fun h => H4.out h.1), ← hke.out]
        rfl
end Go.Proofs.Ytcfpiamdkdedlaa.DecodeC
