/- Locals, Count, At, Open: their walks; Next of a reader that no call made. -/
import Derived.Test.YtfbdnfokoakfaaaNextC
namespace Go.Proofs.Ytfbdnfokoakfaaa.Ct
open Go.RowKit Go.Proofs.YtfbdnfokoakfaaaW.PrintWords Go.Proofs.YtfbdnfokoakfaaaW.PrintLast Go.Proofs.YtfbdnfokoakfaaaW.PrintMore
set_option linter.unusedVariables false
set_option linter.unusedSimpArgs false

set_option maxHeartbeats 2000000 in
set_option maxRecDepth 100000 in
theorem locals_c (g : Nat) (A : Option Addr) (c : Nat) (b : List Int) (n : Nat) (r : RdS) (w : World) (h : RdB w g A c b n r) : Calls Try.prog 21 #[.pointer (some ⟨g, 0, none⟩)] w fun e w' => e = .returned (.int .i64 (gB b 3)) ∧ Below w.heap.size w w' := by
  have hl48 := h.y.l
  have hsix := h.six
  obtain ⟨k0, k1, k2, k3, k4, k5, k6, k7⟩ := h.cells (Below.refl _ _)
  obtain ⟨ad, rfl, hx⟩ := h.y.cell 3 (by omega)
  have r3 := gB_range b h.y.y 3
  obtain ⟨L, hL⟩ : ∃ L, L = gB b 3 := ⟨_, rfl⟩
  rw [← hL] at hx r3 ⊢
  simp only [Addr.add, show ¬ (3 : Nat) = 0 by decide, if_false] at hx
  have d9 : decide ((3 : Int) < (b.length : Int)) = true := decide_eq_true (by omega)
  clear h hL k1 k2 k3 k4 k5 k6
  go_enter Try.func21, Try.ntmps21
  go_wp2
  go_ret
  exact ⟨rfl, Below.refl _ _⟩
set_option maxHeartbeats 2000000 in
set_option maxRecDepth 100000 in
theorem count_c (g : Nat) (A : Option Addr) (c : Nat) (b : List Int) (n : Nat) (r : RdS) (w : World) (h : RdB w g A c b n r) : Calls Try.prog 22 #[.pointer (some ⟨g, 0, none⟩)] w fun e w' => e = .returned (.int .i64 (n : Int)) ∧ Below w.heap.size w w' := by
  obtain ⟨k0, k1, k2, k3, k4, k5, k6, k7⟩ := h.cells (Below.refl _ _)
  clear h k0 k1 k2 k3 k5 k6 k7
  go_enter Try.func22, Try.ntmps22
  go_wp2
  go_ret
  exact ⟨rfl, Below.refl _ _⟩
set_option maxHeartbeats 2000000 in
set_option maxRecDepth 100000 in
theorem at_c (g : Nat) (A : Option Addr) (c : Nat) (b : List Int) (n : Nat) (r : RdS) (w : World) (h : RdB w g A c b n r) : Calls Try.prog 23 #[.pointer (some ⟨g, 0, none⟩)] w fun e w' => e = .returned (.int .i64 (r.at_ : Int)) ∧ Below w.heap.size w w' := by
  obtain ⟨k0, k1, k2, k3, k4, k5, k6, k7⟩ := h.cells (Below.refl _ _)
  clear h k0 k2 k3 k4 k5 k6 k7
  go_enter Try.func23, Try.ntmps23
  go_wp2
  go_ret
  exact ⟨rfl, Below.refl _ _⟩

/-- A reader that no call made: none, or one of zeroes. -/
def zrC : Array Value := #[.slice none 0 0, .int .i64 0, .int .i64 0, .int .i64 0, .int .i64 0, .int .i64 0, .int .i64 0, .bool false]
set_option maxHeartbeats 2000000 in
set_option maxRecDepth 100000 in
theorem locals_nil (w : World) : Calls Try.prog 21 #[.pointer none] w fun e w' => e = .returned (.int .i64 0) ∧ Below w.heap.size w w' := by
  go_enter Try.func21, Try.ntmps21
  go_wp2
  go_ret
  exact ⟨rfl, Below.refl _ _⟩
set_option maxHeartbeats 2000000 in
set_option maxRecDepth 100000 in
theorem count_nil (w : World) : Calls Try.prog 22 #[.pointer none] w fun e w' => e = .returned (.int .i64 0) ∧ Below w.heap.size w w' := by
  go_enter Try.func22, Try.ntmps22
  go_wp2
  go_ret
  exact ⟨rfl, Below.refl _ _⟩
set_option maxHeartbeats 2000000 in
set_option maxRecDepth 100000 in
theorem at_nil (w : World) : Calls Try.prog 23 #[.pointer none] w fun e w' => e = .returned (.int .i64 0) ∧ Below w.heap.size w w' := by
  go_enter Try.func23, Try.ntmps23
  go_wp2
  go_ret
  exact ⟨rfl, Below.refl _ _⟩
set_option maxHeartbeats 2000000 in
set_option maxRecDepth 100000 in
theorem locals_zero (g : Nat) (w : World) (h : w.heap[g]? = some (.cells zrC 37 (0, 0))) : Calls Try.prog 21 #[.pointer (some ⟨g, 0, none⟩)] w fun e w' => e = .returned (.int .i64 0) ∧ Below w.heap.size w w' := by
  have k7 : w.cell? ⟨g, 7, none⟩ = some (.bool false) := blk_cell h 7
  clear h
  go_enter Try.func21, Try.ntmps21
  go_wp2
  go_ret
  exact ⟨rfl, Below.refl _ _⟩
set_option maxHeartbeats 2000000 in
set_option maxRecDepth 100000 in
theorem count_zero (g : Nat) (w : World) (h : w.heap[g]? = some (.cells zrC 37 (0, 0))) : Calls Try.prog 22 #[.pointer (some ⟨g, 0, none⟩)] w fun e w' => e = .returned (.int .i64 0) ∧ Below w.heap.size w w' := by
  have k7 : w.cell? ⟨g, 4, none⟩ = some (.int .i64 0) := blk_cell h 4
  clear h
  go_enter Try.func22, Try.ntmps22
  go_wp2
  go_ret
  exact ⟨rfl, Below.refl _ _⟩
set_option maxHeartbeats 2000000 in
set_option maxRecDepth 100000 in
theorem at_zero (g : Nat) (w : World) (h : w.heap[g]? = some (.cells zrC 37 (0, 0))) : Calls Try.prog 23 #[.pointer (some ⟨g, 0, none⟩)] w fun e w' => e = .returned (.int .i64 0) ∧ Below w.heap.size w w' := by
  have k7 : w.cell? ⟨g, 1, none⟩ = some (.int .i64 0) := blk_cell h 1
  clear h
  go_enter Try.func23, Try.ntmps23
  go_wp2
  go_ret
  exact ⟨rfl, Below.refl _ _⟩

set_option maxHeartbeats 2000000 in
set_option maxRecDepth 100000 in
theorem next_nil (w : World) : Calls Try.prog 20 #[.pointer none] w fun e w' => e = .returned (.tuple #[.agg (enC en0).toArray, .bool false, .int .i64 8]) ∧ Below w.heap.size w w' := by
  go_enter Try.func20, Try.ntmps20
  go_upto_region 2 with (first | ((with_reducible refine gate_dst (N := 2) rfl ?_); refine wpList_alloc_blk (l := []) rfl rfl ⟨fun i hi => absurd hi (Nat.not_lt_zero _), rfl, Below.refl _ _⟩ ?_; intro W1 hW1) | ((with_reducible refine gate_dst (N := 5) rfl ?_); refine wpList_alloc_blk rfl rfl hW1 ?_; intro W2 hW2) | ((with_reducible refine gate_store (t := 44) (p := 5) rfl ?_); refine wpList_store_blk rfl (.tmp 5) (.tmp 9) rfl hW2 1 (by simp) fr0_wf en0 fr0_wf rfl rfl ?_; intro W3 hW3))
  go_wp2_with (first | ((with_reducible refine gate_dst (N := 20) rfl ?_); refine wpList_load_any rfl 44 (.tmp 5) rfl ⟨w.heap.size + 1, 0, none⟩ rfl (enC en0) _ (hW3.rng 1 (by simp)) Try.underlying44 rfl (by rw [enC_len fr0_wf]; kernel_rfl) ?_) | ((with_reducible refine gate_store (t := 44) (p := 2) rfl ?_); refine wpList_store_blk rfl (.tmp 2) (.tmp 20) rfl hW3 0 (by simp) fr0_wf en0 fr0_wf rfl rfl ?_; intro W9 hW9))
  refine bodyPost_ret (ret_cell3 rfl _ hW9 0 (by simp) fr0_wf rfl) rfl ?_
  exact ⟨rfl, hW9.below⟩
set_option maxHeartbeats 2000000 in
set_option maxRecDepth 100000 in
theorem next_zero (g : Nat) (w : World) (h : w.heap[g]? = some (.cells zrC 37 (0, 0))) : Calls Try.prog 20 #[.pointer (some ⟨g, 0, none⟩)] w fun e w' => e = .returned (.tuple #[.agg (enC en0).toArray, .bool false, .int .i64 8]) ∧ Below w.heap.size w w' := by
  have HB := Lib.hid h
  clear h
  go_enter Try.func20, Try.ntmps20
  go_upto_region 2 with (first | ((with_reducible refine gate_dst (N := 2) rfl ?_); refine wpList_alloc_blk (l := []) rfl rfl ⟨fun i hi => absurd hi (Nat.not_lt_zero _), rfl, Below.refl _ _⟩ ?_; intro W1 hW1) | ((with_reducible refine gate_dst (N := 5) rfl ?_); refine wpList_alloc_blk rfl rfl hW1 ?_; intro W2 hW2) | ((with_reducible refine gate_store (t := 44) (p := 5) rfl ?_); refine wpList_store_blk rfl (.tmp 5) (.tmp 9) rfl hW2 1 (by simp) fr0_wf en0 fr0_wf rfl rfl ?_; intro W3 hW3))
  have k7 : W3.cell? ⟨g, 7, none⟩ = some (.bool false) := blk_cell (blk_below HB.out hW3.below) 7
  go_wp2_with (first | ((with_reducible refine gate_dst (N := 20) rfl ?_); refine wpList_load_any rfl 44 (.tmp 5) rfl ⟨w.heap.size + 1, 0, none⟩ rfl (enC en0) _ (hW3.rng 1 (by simp)) Try.underlying44 rfl (by rw [enC_len fr0_wf]; kernel_rfl) ?_) | ((with_reducible refine gate_store (t := 44) (p := 2) rfl ?_); refine wpList_store_blk rfl (.tmp 2) (.tmp 20) rfl hW3 0 (by simp) fr0_wf en0 fr0_wf rfl rfl ?_; intro W9 hW9))
  refine bodyPost_ret (ret_cell3 rfl _ hW9 0 (by simp) fr0_wf rfl) rfl ?_
  exact ⟨rfl, hW9.below⟩

/-- What Open answers. -/
def OpPost2 (b : List Int) (A : Option Addr) (c : Nat) (w : World) (e : Ending) (w' : World) : Prop :=
  match headS b with
  | .inl x => e = .returned (.tuple #[.pointer none, .int .i64 (x.2 : Int)]) ∧ Below w.heap.size w w'
  | .inr x => ∃ g, e = .returned (.tuple #[.pointer (some ⟨g, 0, none⟩), .int .i64 0]) ∧ w.heap.size ≤ g ∧
      w'.heap[g]? = some (.cells (rdC A c b x.2 ⟨6, -1, x.2, 0, 0⟩) 37 (0, 0)) ∧ Below w.heap.size w w'
set_option maxHeartbeats 2000000 in
set_option maxRecDepth 100000 in
theorem openP_c (A : Option Addr) (c : Nat) (b : List Int) (w : World) (h : ByR w A c b) : Calls Try.prog 24 #[.slice A b.length c] w (OpPost2 b A c w) := by
  have HC := Lib.hid (open_c A c b w h)
  clear h
  cases hh : headS b with
  | inl x =>
    have HE : Hid (∀ e w', OpPost b A c w e w' → e = .returned (.tuple #[.pointer none, .int .i64 x.1, .int .i64 (x.2 : Int)]) ∧ Below w.heap.size w w') := Lib.hid (fun e w' he => by
      unfold OpPost at he
      rw [hh] at he
      exact he)
    have HH := Lib.hid hh
    clear hh
    go_enter Try.func24, Try.ntmps24
    go_wp2_with (first | (go_at_call 41; refine HC.out.mono ?_; intro e w5 he; obtain ⟨rfl, hb5⟩ := HE.out e w5 he; clear he))
    go_ret2
    unfold OpPost2
    rw [HH.out]
    exact ⟨rfl, hb5⟩
  | inr x =>
    have HE : Hid (∀ e w', OpPost b A c w e w' → ∃ g, e = .returned (.tuple #[.pointer (some ⟨g, 0, none⟩), .int .i64 0, .int .i64 0]) ∧ (w.heap.size ≤ g ∧
      w'.heap[g]? = some (.cells #[.slice A b.length c, .int .i64 6, .int .i64 (-1), .int .i64 (x.2 : Int), .int .i64 (x.2 : Int), .int .i64 0, .int .i64 0, .bool true] 37 (0, 0)) ∧ Below w.heap.size w w')) := Lib.hid (fun e w' he => by
      unfold OpPost at he
      rw [hh] at he
      exact he)
    have HH := Lib.hid hh
    clear hh
    go_enter Try.func24, Try.ntmps24
    go_wp2_with (first | (go_at_call 41; refine HC.out.mono ?_; intro e w5 he; obtain ⟨g, rfl, hb5⟩ := HE.out e w5 he; clear he; have HB5 := Lib.hid hb5; clear hb5))
    go_ret2
    unfold OpPost2
    rw [HH.out]
    exact ⟨g, rfl, HB5.out⟩
end Go.Proofs.Ytfbdnfokoakfaaa.Ct
