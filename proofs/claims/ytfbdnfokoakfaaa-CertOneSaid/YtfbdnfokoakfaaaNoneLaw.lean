/- Locals, Count, At, Open: their walks; Next of a reader that no call made. provisolaw06.CertNone: its walk. -/
import Derived.Test.YtfbdnfokoakfaaaNextC
namespace Go.Proofs.Ytfbdnfokoakfaaa.Ct
open Go.RowKit Go.Proofs.YtfbdnfokoakfaaaW.PrintWords Go.Proofs.YtfbdnfokoakfaaaW.PrintLast Go.Proofs.YtfbdnfokoakfaaaW.PrintMore
set_option linter.unusedVariables false
set_option linter.unusedSimpArgs false

set_option maxHeartbeats 2000000 in
set_option maxRecDepth 100000 in
theorem locals_c (g : Nat) (A : Option Addr) (c : Nat) (b : List Int) (n : Nat) (r : RdS) (w : World) (h : RdB w g A c b n r) : Calls Try.prog 21 #[.pointer (some ⟨g, 0, none⟩)] w fun e w' => e = .returned (.int .i64 (gB b 3)) ∧ Below w.heap.size w w' := by
  have hl48 := h.y.l
  have hsix := h.six
  obtain ⟨k0, k1, k2, k3, k4, k5, k6, k7⟩ := h.cells (Below.refl _ _)
  obtain ⟨ad, rfl, hx⟩ := h.y.cell 3 (by omega)
  have r3 := gB_range b h.y.y 3
  obtain ⟨L, hL⟩ : ∃ L, L = gB b 3 := ⟨_, rfl⟩
  rw [← hL] at hx r3 ⊢
  simp only [Addr.add, show ¬ (3 : Nat) = 0 by decide, if_false] at hx
  have d9 : decide ((3 : Int) < (b.length : Int)) = true := decide_eq_true (by omega)
  clear h hL k1 k2 k3 k4 k5 k6
  go_enter Try.func21, Try.ntmps21
  go_wp2
  go_ret
  exact ⟨rfl, Below.refl _ _⟩
set_option maxHeartbeats 2000000 in
set_option maxRecDepth 100000 in
theorem count_c (g : Nat) (A : Option Addr) (c : Nat) (b : List Int) (n : Nat) (r : RdS) (w : World) (h : RdB w g A c b n r) : Calls Try.prog 22 #[.pointer (some ⟨g, 0, none⟩)] w fun e w' => e = .returned (.int .i64 (n : Int)) ∧ Below w.heap.size w w' := by
  obtain ⟨k0, k1, k2, k3, k4, k5, k6, k7⟩ := h.cells (Below.refl _ _)
  clear h k0 k1 k2 k3 k5 k6 k7
  go_enter Try.func22, Try.ntmps22
  go_wp2
  go_ret
  exact ⟨rfl, Below.refl _ _⟩
set_option maxHeartbeats 2000000 in
set_option maxRecDepth 100000 in
theorem at_c (g : Nat) (A : Option Addr) (c : Nat) (b : List Int) (n : Nat) (r : RdS) (w : World) (h : RdB w g A c b n r) : Calls Try.prog 23 #[.pointer (some ⟨g, 0, none⟩)] w fun e w' => e = .returned (.int .i64 (r.at_ : Int)) ∧ Below w.heap.size w w' := by
  obtain ⟨k0, k1, k2, k3, k4, k5, k6, k7⟩ := h.cells (Below.refl _ _)
  clear h k0 k2 k3 k4 k5 k6 k7
  go_enter Try.func23, Try.ntmps23
  go_wp2
  go_ret
  exact ⟨rfl, Below.refl _ _⟩

/-- A reader that no call made: none, or one of zeroes. -/
def zrC : Array Value := #[.slice none 0 0, .int .i64 0, .int .i64 0, .int .i64 0, .int .i64 0, .int .i64 0, .int .i64 0, .bool false]
set_option maxHeartbeats 2000000 in
set_option maxRecDepth 100000 in
theorem locals_nil (w : World) : Calls Try.prog 21 #[.pointer none] w fun e w' => e = .returned (.int .i64 0) ∧ Below w.heap.size w w' := by
  go_enter Try.func21, Try.ntmps21
  go_wp2
  go_ret
  exact ⟨rfl, Below.refl _ _⟩
set_option maxHeartbeats 2000000 in
set_option maxRecDepth 100000 in
theorem count_nil (w : World) : Calls Try.prog 22 #[.pointer none] w fun e w' => e = .returned (.int .i64 0) ∧ Below w.heap.size w w' := by
  go_enter Try.func22, Try.ntmps22
  go_wp2
  go_ret
  exact ⟨rfl, Below.refl _ _⟩
set_option maxHeartbeats 2000000 in
set_option maxRecDepth 100000 in
theorem at_nil (w : World) : Calls Try.prog 23 #[.pointer none] w fun e w' => e = .returned (.int .i64 0) ∧ Below w.heap.size w w' := by
  go_enter Try.func23, Try.ntmps23
  go_wp2
  go_ret
  exact ⟨rfl, Below.refl _ _⟩
set_option maxHeartbeats 2000000 in
set_option maxRecDepth 100000 in
theorem locals_zero (g : Nat) (w : World) (h : w.heap[g]? = some (.cells zrC 37 (0, 0))) : Calls Try.prog 21 #[.pointer (some ⟨g, 0, none⟩)] w fun e w' => e = .returned (.int .i64 0) ∧ Below w.heap.size w w' := by
  have k7 : w.cell? ⟨g, 7, none⟩ = some (.bool false) := blk_cell h 7
  clear h
  go_enter Try.func21, Try.ntmps21
  go_wp2
  go_ret
  exact ⟨rfl, Below.refl _ _⟩
set_option maxHeartbeats 2000000 in
set_option maxRecDepth 100000 in
theorem count_zero (g : Nat) (w : World) (h : w.heap[g]? = some (.cells zrC 37 (0, 0))) : Calls Try.prog 22 #[.pointer (some ⟨g, 0, none⟩)] w fun e w' => e = .returned (.int .i64 0) ∧ Below w.heap.size w w' := by
  have k7 : w.cell? ⟨g, 4, none⟩ = some (.int .i64 0) := blk_cell h 4
  clear h
  go_enter Try.func22, Try.ntmps22
  go_wp2
  go_ret
  exact ⟨rfl, Below.refl _ _⟩
set_option maxHeartbeats 2000000 in
set_option maxRecDepth 100000 in
theorem at_zero (g : Nat) (w : World) (h : w.heap[g]? = some (.cells zrC 37 (0, 0))) : Calls Try.prog 23 #[.pointer (some ⟨g, 0, none⟩)] w fun e w' => e = .returned (.int .i64 0) ∧ Below w.heap.size w w' := by
  have k7 : w.cell? ⟨g, 1, none⟩ = some (.int .i64 0) := blk_cell h 1
  clear h
  go_enter Try.func23, Try.ntmps23
  go_wp2
  go_ret
  exact ⟨rfl, Below.refl _ _⟩

set_option maxHeartbeats 2000000 in
set_option maxRecDepth 100000 in
theorem next_nil (w : World) : Calls Try.prog 20 #[.pointer none] w fun e w' => e = .returned (.tuple #[.agg (enC en0).toArray, .bool false, .int .i64 8]) ∧ Below w.heap.size w w' := by
  go_enter Try.func20, Try.ntmps20
  go_upto_region 2 with (first | ((with_reducible refine gate_dst (N := 2) rfl ?_); refine wpList_alloc_blk (l := []) rfl rfl ⟨fun i hi => absurd hi (Nat.not_lt_zero _), rfl, Below.refl _ _⟩ ?_; intro W1 hW1) | ((with_reducible refine gate_dst (N := 5) rfl ?_); refine wpList_alloc_blk rfl rfl hW1 ?_; intro W2 hW2) | ((with_reducible refine gate_store (t := 44) (p := 5) rfl ?_); refine wpList_store_blk rfl (.tmp 5) (.tmp 9) rfl hW2 1 (by simp) fr0_wf en0 fr0_wf rfl rfl ?_; intro W3 hW3))
  go_wp2_with (first | ((with_reducible refine gate_dst (N := 20) rfl ?_); refine wpList_load_any rfl 44 (.tmp 5) rfl ⟨w.heap.size + 1, 0, none⟩ rfl (enC en0) _ (hW3.rng 1 (by simp)) Try.underlying44 rfl (by rw [enC_len fr0_wf]; kernel_rfl) ?_) | ((with_reducible refine gate_store (t := 44) (p := 2) rfl ?_); refine wpList_store_blk rfl (.tmp 2) (.tmp 20) rfl hW3 0 (by simp) fr0_wf en0 fr0_wf rfl rfl ?_; intro W9 hW9))
  refine bodyPost_ret (ret_cell3 rfl _ hW9 0 (by simp) fr0_wf rfl) rfl ?_
  exact ⟨rfl, hW9.below⟩
set_option maxHeartbeats 2000000 in
set_option maxRecDepth 100000 in
theorem next_zero (g : Nat) (w : World) (h : w.heap[g]? = some (.cells zrC 37 (0, 0))) : Calls Try.prog 20 #[.pointer (some ⟨g, 0, none⟩)] w fun e w' => e = .returned (.tuple #[.agg (enC en0).toArray, .bool false, .int .i64 8]) ∧ Below w.heap.size w w' := by
  have HB := Lib.hid h
  clear h
  go_enter Try.func20, Try.ntmps20
  go_upto_region 2 with (first | ((with_reducible refine gate_dst (N := 2) rfl ?_); refine wpList_alloc_blk (l := []) rfl rfl ⟨fun i hi => absurd hi (Nat.not_lt_zero _), rfl, Below.refl _ _⟩ ?_; intro W1 hW1) | ((with_reducible refine gate_dst (N := 5) rfl ?_); refine wpList_alloc_blk rfl rfl hW1 ?_; intro W2 hW2) | ((with_reducible refine gate_store (t := 44) (p := 5) rfl ?_); refine wpList_store_blk rfl (.tmp 5) (.tmp 9) rfl hW2 1 (by simp) fr0_wf en0 fr0_wf rfl rfl ?_; intro W3 hW3))
  have k7 : W3.cell? ⟨g, 7, none⟩ = some (.bool false) := blk_cell (blk_below HB.out hW3.below) 7
  go_wp2_with (first | ((with_reducible refine gate_dst (N := 20) rfl ?_); refine wpList_load_any rfl 44 (.tmp 5) rfl ⟨w.heap.size + 1, 0, none⟩ rfl (enC en0) _ (hW3.rng 1 (by simp)) Try.underlying44 rfl (by rw [enC_len fr0_wf]; kernel_rfl) ?_) | ((with_reducible refine gate_store (t := 44) (p := 2) rfl ?_); refine wpList_store_blk rfl (.tmp 2) (.tmp 20) rfl hW3 0 (by simp) fr0_wf en0 fr0_wf rfl rfl ?_; intro W9 hW9))
  refine bodyPost_ret (ret_cell3 rfl _ hW9 0 (by simp) fr0_wf rfl) rfl ?_
  exact ⟨rfl, hW9.below⟩

/-- What Open answers. -/
def OpPost2 (b : List Int) (A : Option Addr) (c : Nat) (w : World) (e : Ending) (w' : World) : Prop :=
  match headS b with
  | .inl x => e = .returned (.tuple #[.pointer none, .int .i64 (x.2 : Int)]) ∧ Below w.heap.size w w'
  | .inr x => ∃ g, e = .returned (.tuple #[.pointer (some ⟨g, 0, none⟩), .int .i64 0]) ∧ w.heap.size ≤ g ∧
      w'.heap[g]? = some (.cells (rdC A c b x.2 ⟨6, -1, x.2, 0, 0⟩) 37 (0, 0)) ∧ Below w.heap.size w w'
set_option maxHeartbeats 2000000 in
set_option maxRecDepth 100000 in
theorem openP_c (A : Option Addr) (c : Nat) (b : List Int) (w : World) (h : ByR w A c b) : Calls Try.prog 24 #[.slice A b.length c] w (OpPost2 b A c w) := by
  have HC := Lib.hid (open_c A c b w h)
  clear h
  cases hh : headS b with
  | inl x =>
    have HE : Hid (∀ e w', OpPost b A c w e w' → e = .returned (.tuple #[.pointer none, .int .i64 x.1, .int .i64 (x.2 : Int)]) ∧ Below w.heap.size w w') := Lib.hid (fun e w' he => by
      unfold OpPost at he
      rw [hh] at he
      exact he)
    have HH := Lib.hid hh
    clear hh
    go_enter Try.func24, Try.ntmps24
    go_wp2_with (first | (go_at_call 41; refine HC.out.mono ?_; intro e w5 he; obtain ⟨rfl, hb5⟩ := HE.out e w5 he; clear he))
    go_ret2
    unfold OpPost2
    rw [HH.out]
    exact ⟨rfl, hb5⟩
  | inr x =>
    have HE : Hid (∀ e w', OpPost b A c w e w' → ∃ g, e = .returned (.tuple #[.pointer (some ⟨g, 0, none⟩), .int .i64 0, .int .i64 0]) ∧ (w.heap.size ≤ g ∧
      w'.heap[g]? = some (.cells #[.slice A b.length c, .int .i64 6, .int .i64 (-1), .int .i64 (x.2 : Int), .int .i64 (x.2 : Int), .int .i64 0, .int .i64 0, .bool true] 37 (0, 0)) ∧ Below w.heap.size w w')) := Lib.hid (fun e w' he => by
      unfold OpPost at he
      rw [hh] at he
      exact he)
    have HH := Lib.hid hh
    clear hh
    go_enter Try.func24, Try.ntmps24
    go_wp2_with (first | (go_at_call 41; refine HC.out.mono ?_; intro e w5 he; obtain ⟨g, rfl, hb5⟩ := HE.out e w5 he; clear he; have HB5 := Lib.hid hb5; clear hb5))
    go_ret2
    unfold OpPost2
    rw [HH.out]
    exact ⟨g, rfl, HB5.out⟩
end Go.Proofs.Ytfbdnfokoakfaaa.Ct
namespace Go.Proofs.Ytfbdnfokoakfaaa.Ct
open Go.RowKit Go.Proofs.YtfbdnfokoakfaaaW.PrintWords Go.Proofs.YtfbdnfokoakfaaaW.PrintLast Go.Proofs.YtfbdnfokoakfaaaW.PrintMore
set_option linter.unusedVariables false
set_option linter.unusedSimpArgs false

theorem byR_block {W : World} {g : Nat} {t : TypeId} (b : List Int) (h : W.heap[g]? = some (.cells (nums .u8 b).toArray t (0, 0))) (hy : ∀ x, x ∈ b → 0 ≤ x ∧ x ≤ 255) (hl : b.length ≤ 140737488351232) : ByR W (some ⟨g, 0, none⟩) b.length b := by
  refine ⟨⟨rfl, by omega, fun _ => ⟨_, rfl, fun j p hj => ?_⟩⟩, Nat.le_refl _, hy, by omega⟩
  refine ⟨[.int .u8 p], rfl, rfl, fun i u hu => ?_⟩
  match i, hu with
  | 0, hu =>
    cases hu
    have h1 := blk_cell h j
    have h2 : (nums .u8 b).toArray[j]? = some (.int .u8 p) := by simp [nums, hj]
    have e : (⟨g, 0, none⟩ : Addr).add (j * (Kd.int .u8).sz + 0) = ⟨g, j, none⟩ := by
      rw [Addr.add_mid]
      show (⟨g, 0 + (j * 1 + 0), none⟩ : Addr) = _
      simp
    rw [e, h1]
    exact h2
  | i + 1, hu => cases hu
/-- A reader that no call made. -/
def NoR (g : Nat) (W : World) (v : Value) : Prop := W.heap[g]? = some (.cells zrC 37 (0, 0)) ∧ (v = .pointer none ∨ v = .pointer (some ⟨g, 0, none⟩))
theorem next_no {g : Nat} {W : World} {v : Value} (h : NoR g W v) : Calls Try.prog 20 #[v] W fun e w' => e = .returned (.tuple #[.agg (enC en0).toArray, .bool false, .int .i64 8]) ∧ Below W.heap.size W w' := by
  obtain ⟨h0, rfl | rfl⟩ := h
  · exact next_nil W
  · exact next_zero g W h0
theorem locals_no {g : Nat} {W : World} {v : Value} (h : NoR g W v) : Calls Try.prog 21 #[v] W fun e w' => e = .returned (.int .i64 0) ∧ Below W.heap.size W w' := by
  obtain ⟨h0, rfl | rfl⟩ := h
  · exact locals_nil W
  · exact locals_zero g W h0
theorem count_no {g : Nat} {W : World} {v : Value} (h : NoR g W v) : Calls Try.prog 22 #[v] W fun e w' => e = .returned (.int .i64 0) ∧ Below W.heap.size W w' := by
  obtain ⟨h0, rfl | rfl⟩ := h
  · exact count_nil W
  · exact count_zero g W h0
theorem at_no {g : Nat} {W : World} {v : Value} (h : NoR g W v) : Calls Try.prog 23 #[v] W fun e w' => e = .returned (.int .i64 0) ∧ Below W.heap.size W w' := by
  obtain ⟨h0, rfl | rfl⟩ := h
  · exact at_nil W
  · exact at_zero g W h0
theorem NoR.next {g : Nat} {W W1 : World} {v : Value} (h : NoR g W v) (hb : Below W.heap.size W W1) : NoR g W1 v := ⟨blk_below h.1 hb, h.2⟩
theorem below_only {B k : Nat} {w W W1 : World} (h : Below B w W) (ho : Only k W W1) (hk : B ≤ k) : Below B w W1 :=
  ⟨ho.os.trans h.os, ho.tape.trans h.tape, ho.output.trans h.output, by rw [ho.size]; exact h.size, fun i hi => (ho.block i (by omega)).trans (h.block i hi)⟩
structure NoSt (w W : World) : Prop where
  z : W.heap[w.heap.size]? = some (.cells zrC 37 (0, 0))
  r : W.heap[w.heap.size + 1]? = some (.cells #[.pointer none, .pointer (some ⟨w.heap.size, 0, none⟩)] 35 (0, 0))
  below : Below w.heap.size w W
theorem NoSt.next {w W W1 : World} (h : NoSt w W) (hb : Below W.heap.size W W1) : NoSt w W1 := ⟨blk_below h.z hb, blk_below h.r hb, below_then h.below h.below.size hb⟩
theorem NoSt.only {w W W1 : World} {k : Nat} (h : NoSt w W) (ho : Only k W W1) (hk : w.heap.size + 1 < k) : NoSt w W1 := ⟨(ho.block _ (by omega)).trans h.z, (ho.block _ (by omega)).trans h.r, below_only h.below ho (by omega)⟩
def hd6 : List Int := [112, 118, 1, 3, 0, 0]

set_option maxHeartbeats 2000000 in
set_option maxRecDepth 100000 in
theorem none_law (v : Value) (w : World) : Calls Try.prog 5 #[v] w fun e w' => e = .returned (.bool true) ∧ Below w.heap.size w w' := by
  go_enter Try.func5, Try.ntmps5
  go_wp2
  go_loopg [15] 3 (fun k v15 W => ∃ i : Nat, v15 = .int .i64 (i : Int) ∧ i + k = 3 ∧ i ≤ 2 ∧ NoSt w W)
  case atStart =>
    have h1 := blk_new w (.cells zrC 37)
    refine ⟨0, rfl, by omega, by omega, blk_alloc h1 _, ?_, below_alloc (below_alloc (Below.refl _ _) _) _⟩
    have h2 := blk_new (w.alloc (.cells zrC 37)) (.cells #[.pointer none, .pointer (some ⟨w.heap.size, 0, none⟩)] 35)
    rw [World.size_alloc] at h2
    exact h2
  case round =>
    obtain ⟨i, rfl, hi, hil, St⟩ := hrel
    by_cases hlt : i < 2
    · have e1 : decide ((i : Int) < 2) = true := decide_eq_true (by omega)
      obtain ⟨p, hp, hkp⟩ : ∃ p, NoR w.heap.size wr p ∧ wr.cell? ⟨w.heap.size + 1, i, none⟩ = some p := by
        obtain rfl | rfl : i = 0 ∨ i = 1 := by omega
        · exact ⟨_, ⟨St.z, .inl rfl⟩, blk_cell St.r 0⟩
        · exact ⟨_, ⟨St.z, .inr rfl⟩, blk_cell St.r 1⟩
      have HP := Lib.hid hp
      have HSt := Lib.hid St
      have HNx := Lib.hid (next_no hp)
      clear hp St
      obtain ⟨k, rfl⟩ : ∃ k, gk = k + 1 := ⟨gk - 1, by omega⟩
      go_upto_region 7 with (first | (go_at_call 20; refine HNx.out.mono ?_; rintro e w5 ⟨rfl, hb5⟩) | ((with_reducible refine gate_dst (N := 7) rfl ?_); refine wpList_alloc_box rfl rfl ?_; intro W6 hW6 hbe6 hs6) | ((with_reducible refine gate_store (t := 44) (p := 7) rfl ?_); refine wpList_store_box rfl (.tmp 7) (.tmp 22) rfl w5.heap.size hW6 fr0_wf en0 fr0_wf rfl rfl ?_; intro W7 hW7 ho7))
      have hs5 := hb5.size
      have hz1 : w.heap.size + 1 < wr.heap.size := blk_lt HSt.out.r
      have St7 : NoSt w W7 := ((HSt.out.next hb5).next hbe6).only ho7 (by omega)
      have HP7 : Hid (NoR w.heap.size W7 p) := Lib.hid ⟨St7.z, HP.out.2⟩
      have HS7 := Lib.hid St7
      have HL := Lib.hid (locals_no HP7.out)
      have HC := Lib.hid (fun W (hb : Below W7.heap.size W7 W) => count_no (HP7.out.next hb))
      have HA := Lib.hid (fun W (hb : Below W7.heap.size W7 W) => at_no (HP7.out.next hb))
      have HB7 := Lib.hid hW7
      clear hb5 hs5 hW6 hbe6 hs6 ho7 hW7 St7 hz1 hkp
      go_wp2_with (first | ((with_reducible refine gate_dst (N := 25) rfl ?_); refine wpList_load_any rfl 44 (.tmp 7) rfl ⟨w5.heap.size, 0, none⟩ rfl (enC en0) _ (rng_of (range_blk HB7.out)) Try.underlying44 rfl (by rw [enC_len fr0_wf]; kernel_rfl) ?_) | ((with_reducible refine gate_dst (N := 27) rfl ?_); refine Kd.event_run rfl (run_neq44 (f := en0) (g := en0) rfl rfl rfl fr0_wf fr0_wf _) ?_; rw [show eqE en0 en0 = true by kernel_rfl]) | (go_at_call 21; refine HL.out.mono ?_; rintro e w8 ⟨rfl, hb8⟩) | (go_at_call 22; refine (HC.out _ hb8).mono ?_; rintro e w9 ⟨rfl, hb9⟩) | (go_at_call 23; refine (HA.out _ (hb8.trans (hb9.mono hb8.size))).mono ?_; rintro e wa ⟨rfl, hba⟩))
      go_roundg k
      case measure => omega
      case rel => exact ⟨i + 1, by simp, by omega, by omega, ((HS7.out.next hb8).next hb9).next hba⟩
    · have e1 : decide ((i : Int) < 2) = false := decide_eq_false (by omega)
      have hY : ByR (wr.alloc (.cells (nums .u8 hd6).toArray 5)) (some ⟨wr.heap.size, 0, none⟩) 6 hd6 := byR_block hd6 (blk_new _ _) (by decide) (by decide)
      have HY := Lib.hid hY
      have HOp : Hid (Calls Try.prog 24 #[.slice (some ⟨wr.heap.size, 0, none⟩) 6 6] (wr.alloc (.cells (nums .u8 hd6).toArray 5)) (OpPost2 hd6 (some ⟨wr.heap.size, 0, none⟩) 6 (wr.alloc (.cells (nums .u8 hd6).toArray 5)))) := Lib.hid (openP_c (some ⟨wr.heap.size, 0, none⟩) 6 hd6 _ hY)
      have HE : Hid (∀ e w', OpPost2 hd6 (some ⟨wr.heap.size, 0, none⟩) 6 (wr.alloc (.cells (nums .u8 hd6).toArray 5)) e w' → ∃ g, e = .returned (.tuple #[.pointer (some ⟨g, 0, none⟩), .int .i64 0]) ∧ (wr.alloc (.cells (nums .u8 hd6).toArray 5)).heap.size ≤ g ∧
        w'.heap[g]? = some (.cells (rdC (some ⟨wr.heap.size, 0, none⟩) 6 hd6 0 ⟨6, -1, 0, 0, 0⟩) 37 (0, 0)) ∧ Below (wr.alloc (.cells (nums .u8 hd6).toArray 5)).heap.size (wr.alloc (.cells (nums .u8 hd6).toArray 5)) w') := Lib.hid (fun e w' he => by
          unfold OpPost2 at he
          rw [show headS hd6 = .inr (3, 0) by rfl] at he
          exact he)
      have HB := Lib.hid (below_alloc St.below (.cells (nums .u8 hd6).toArray 5))
      clear hY St
      go_upto_region 11 with (first | (go_at_call 24; refine HOp.out.mono ?_; intro e w5 he; obtain ⟨g, rfl, _, hg, hb5⟩ := HE.out e w5 he; clear he))
      have HR : Hid (RdB w5 g (some ⟨wr.heap.size, 0, none⟩) 6 hd6 0 ⟨6, -1, 0, 0, 0⟩) := Lib.hid ⟨hg, HY.out.next hb5, by decide, by decide, by decide⟩
      have HL := Lib.hid (locals_c g _ 6 hd6 0 _ w5 HR.out)
      have HB5 := Lib.hid (below_then HB.out HB.out.size hb5)
      clear hg hb5
      go_wp2_with (first | (go_at_call 21; refine HL.out.mono ?_; rintro e w8 ⟨rfl, hb8⟩; rw [show gB hd6 3 = 3 from rfl]))
      go_ret
      exact ⟨rfl, below_then HB5.out HB5.out.size hb8⟩
end Go.Proofs.Ytfbdnfokoakfaaa.Ct
