/- Frames and entries as plain values, and as cells. -/
import Derived.Test.YtfbdnfokoakfaaaPCertChecksx1
import Derived.Deep.MidRow
import Derived.Deep.WholeRow
import Derived.Lib.Hide
import Derived.Lib.SliceRun
namespace Go.Proofs.Ytfbdnfokoakfaaa.Ct
open Go.RowKit Go.Proofs.YtfbdnfokoakfaaaW.PrintWords Go.Proofs.YtfbdnfokoakfaaaW.PrintLast Go.Proofs.YtfbdnfokoakfaaaW.PrintMore
set_option linter.unusedVariables false
set_option linter.unusedSimpArgs false

/-- A frame. -/
structure Fr where
  l : Int
  h : Int
  s : List Int
structure En where
  at_ : Int
  dead : Bool
  fr : Fr
def Fr.wf (f : Fr) : Prop := f.s.length = 24 ∧ ∀ x, x ∈ f.s → 0 ≤ x ∧ x ≤ 255
def frC (f : Fr) : List Value := .int .i64 f.l :: .int .i64 f.h :: nums .u8 f.s
def enC (x : En) : List Value := .int .i64 x.at_ :: .bool x.dead :: frC x.fr
def frV (f : Fr) : Value := .agg (frC f).toArray
def enV (x : En) : Value := .agg (enC x).toArray
def fr0 : Fr := ⟨0, 0, List.replicate 24 0⟩
def en0 : En := ⟨0, false, fr0⟩
theorem fr0_wf : fr0.wf := ⟨by simp [fr0], fun x hx => by simp [fr0] at hx; omega⟩
theorem frC_len {f : Fr} (h : f.wf) : (frC f).length = 26 := by simp [frC, nums, h.1]
theorem enC_len {x : En} (h : x.fr.wf) : (enC x).length = 28 := by simp [enC, frC, nums, h.1]
theorem frC_one (f : Fr) : ∀ u, u ∈ frC f → u.oneCell' = true := by
  intro u hu
  simp only [frC, List.mem_cons, nums, List.mem_map] at hu
  rcases hu with rfl | rfl | ⟨a, _, rfl⟩ <;> rfl
theorem enC_one (x : En) : ∀ u, u ∈ enC x → u.oneCell' = true := by
  intro u hu
  simp only [enC, List.mem_cons] at hu
  rcases hu with rfl | rfl | hu
  · rfl
  · rfl
  · exact frC_one x.fr u hu

/-- Rows of entries. -/
def kEn : Kd En where
  sz := 28
  E := []
  K := fun _ x cs => cs = enC x ∧ x.fr.wf
  M := fun _ _ _ x cs => cs = enC x ∧ x.fr.wf
  K_len := fun {w x cs} h => by rw [h.1]; exact enC_len h.2
  K_one := fun {w x cs} h u hu => by rw [h.1] at hu; exact enC_one x u hu
  K_below := fun _ h => h
  K_of_M := fun h => h
  M_mono := fun _ h => h
  M_bound := fun h => h
  M_move := fun _ h => h
  M_lower := fun _ h => h

theorem info42 : (Try.prog.info? 42).map (fun i => (i.zero, i.size)) = some (some (frV fr0), 26) := by kernel_rfl
theorem info44 : (Try.prog.info? 44).map (fun i => (i.zero, i.size, i.bytes)) = some (some (enV en0), 28, 56) := by kernel_rfl
theorem info44s : (Try.prog.info? 44).map (fun i => (i.zero, i.size)) = some (some (enV en0), 28) := by kernel_rfl

theorem range_new (W : World) (cs : List Value) (t : TypeId) : (W.alloc (.cells cs.toArray t)).rangeAt W.heap.size 0 cs := by
  intro j v hj
  rw [Nat.zero_add, cell_of_row _ _ j cs.toArray t (0, 0) (heap_alloc_last W _)]
  simpa using hj
theorem range_blk {W : World} {g : Nat} {cs : List Value} {t : TypeId} (h : W.heap[g]? = some (.cells cs.toArray t (0, 0))) : W.rangeAt g 0 cs := by
  intro j v hj
  rw [Nat.zero_add, cell_of_row _ _ j cs.toArray t (0, 0) h]
  simpa using hj
theorem range_part {W : World} {g o n : Nat} {cs cs' : List Value} (h : W.rangeAt g o cs) (hn : ∀ j v, cs'[j]? = some v → cs[n + j]? = some v) : W.rangeAt g (o + n) cs' := fun j v hj => by
  rw [Nat.add_assoc]; exact h (n + j) v (hn j v hj)
theorem range_fr {W : World} {g o : Nat} {x : En} (h : W.rangeAt g o (enC x)) : W.rangeAt g (o + 2) (frC x.fr) := range_part h (fun j v hj => by rw [show 2 + j = j + 1 + 1 by omega]; exact hj)
theorem range_slot {W : World} {g o : Nat} {f : Fr} (h : W.rangeAt g o (frC f)) (i : Nat) (hi : i < f.s.length) : W.cell? ⟨g, o + 2 + i, none⟩ = some (.int .u8 (f.s[i])) := by
  have := h (2 + i) (.int .u8 f.s[i]) (by rw [show 2 + i = i + 1 + 1 by omega]; simp [frC, nums, hi])
  rw [← Nat.add_assoc] at this
  exact this
theorem cell_l {W : World} {g o : Nat} {f : Fr} (h : W.rangeAt g o (frC f)) : W.cell? ⟨g, o, none⟩ = some (.int .i64 f.l) := h 0 _ rfl
theorem cell_h {W : World} {g o : Nat} {f : Fr} (h : W.rangeAt g o (frC f)) : W.cell? ⟨g, o + 1, none⟩ = some (.int .i64 f.h) := h 1 _ rfl
theorem cell_at {W : World} {g o : Nat} {x : En} (h : W.rangeAt g o (enC x)) : W.cell? ⟨g, o, none⟩ = some (.int .i64 x.at_) := h 0 _ rfl
theorem cell_dead {W : World} {g o : Nat} {x : En} (h : W.rangeAt g o (enC x)) : W.cell? ⟨g, o + 1, none⟩ = some (.bool x.dead) := h 1 _ rfl

theorem load42 {W : World} {g o : Nat} {f : Fr} (hw : f.wf) (h : W.rangeAt g o (frC f)) : (Instr.loadAt 42 (.pointer (some ⟨g, o, none⟩))).run Try.prog W = .ok (frV f) W :=
  run_loadAt_mid W g o 42 (frC f) _ h Try.underlying42 rfl (by rw [frC_len hw]; kernel_rfl)
theorem load44 {W : World} {g o : Nat} {x : En} (hw : x.fr.wf) (h : W.rangeAt g o (enC x)) : (Instr.loadAt 44 (.pointer (some ⟨g, o, none⟩))).run Try.prog W = .ok (enV x) W :=
  run_loadAt_mid W g o 44 (enC x) _ h Try.underlying44 rfl (by rw [enC_len hw]; kernel_rfl)
theorem store44_new (W : World) {x y : En} (hx : x.fr.wf) (hy : y.fr.wf) : (Instr.storeAt 44 (.pointer (some ⟨W.heap.size, 0, none⟩)) (enV x)).run Try.prog (W.alloc (.cells (enC y).toArray 44)) = .ok () (W.alloc (.cells (enC x).toArray 44)) :=
  run_storeAt_new W 44 (enC y).toArray (enC x).toArray (by simp only [List.size_toArray, enC_len hx]; kernel_rfl) (by simp [enC_len hx, enC_len hy]) (all_oneCell_toArray (enC_one x))
theorem store42_new (W : World) {x y : Fr} (hx : x.wf) (hy : y.wf) : (Instr.storeAt 42 (.pointer (some ⟨W.heap.size, 0, none⟩)) (frV x)).run Try.prog (W.alloc (.cells (frC y).toArray 42)) = .ok () (W.alloc (.cells (frC x).toArray 42)) :=
  run_storeAt_new W 42 (frC y).toArray (frC x).toArray (by simp only [List.size_toArray, frC_len hx]; kernel_rfl) (by simp [frC_len hx, frC_len hy]) (all_oneCell_toArray (frC_one x))

/-! ### What the checks answer -/
def knownB (t : Int) : Bool := decide (t ≤ 5) || (decide (16 ≤ t) && decide (t < 48))
def risesS (last at_ : Int) : Int := if at_ < 0 ∨ 4096 ≤ at_ then 5 else if at_ = last then 61 else if at_ < last then 60 else 0
def frameS (f : Fr) (L : Int) : Int :=
  if f.l ≠ L ∨ f.h < 0 ∨ 24 - L < f.h then 65
  else if (f.s.drop (L + f.h).toNat).all (fun t => t == 0) = true then (if (f.s.take (L + f.h).toNat).all knownB = true then 0 else 62) else 65

theorem known_c (t : Int) (w : World) : Calls Try.prog 45 #[.int .u8 t] w fun e w' => e = .returned (.bool (knownB t)) ∧ Drawn0 w w' :=
  PCertChecks.cert_known.calls t _ w (by
    unfold PCertChecks.cert_known.f knownB
    by_cases h : t ≤ 5
    · rw [if_pos h]; simp [h]
    · rw [if_neg h]
      by_cases h2 : t ≥ 16
      · rw [if_pos h2]; simp [h, h2]
      · rw [if_neg h2]; simp [h, h2])
theorem isCode_c (t : Int) (w : World) : Calls Try.prog 46 #[.int .u8 t] w fun e w' => e = .returned (.bool (knownB t)) ∧ Drawn0 w w' :=
  PCertChecks.provisoref06_IsCode.calls t _ w (by
    unfold PCertChecks.provisoref06_IsCode.f knownB
    by_cases h : t ≤ 5
    · rw [if_pos h]; simp [h]
    · rw [if_neg h]
      by_cases h2 : t ≥ 16
      · rw [if_pos h2]; simp [h, h2]; omega
      · rw [if_neg h2]; simp [h, h2])
theorem rises_v (last at_ : Int) : PCertChecks.cert_rises.f 5 last at_ = some (risesS last at_) := by
  unfold PCertChecks.cert_rises.f risesS
  by_cases h : at_ < 0
  · rw [if_pos h, if_pos (.inl h), PCertChecks.cert_rises.j0, if_pos rfl]
  · rw [if_neg h]
    by_cases h2 : at_ ≥ 4096
    · rw [if_pos (.inr h2), decide_eq_true h2, PCertChecks.cert_rises.j0, if_pos rfl]
    · rw [if_neg (by omega), decide_eq_false h2, PCertChecks.cert_rises.j0, if_neg (by decide)]
      by_cases h3 : at_ = last
      · simp [h3]
      · by_cases h4 : at_ < last <;> simp [h3, h4]
theorem after_v (at_ last : Int) : PCertChecks.provisoref06_after.f 5 at_ last = some (risesS last at_) := by
  unfold PCertChecks.provisoref06_after.f risesS
  by_cases h : at_ < 0
  · rw [if_pos h, if_pos (.inl h), PCertChecks.provisoref06_after.j0, if_pos rfl]
  · rw [if_neg h]
    by_cases h2 : at_ > 4095
    · rw [if_pos (.inr (by omega)), decide_eq_true h2, PCertChecks.provisoref06_after.j0, if_pos rfl]
    · rw [if_neg (by omega), decide_eq_false h2, PCertChecks.provisoref06_after.j0, if_neg (by decide)]
      by_cases h3 : at_ = last
      · simp [h3]
      · by_cases h4 : at_ < last <;> simp [h3, h4]
theorem rises_c (last at_ : Int) (w : World) : Calls Try.prog 36 #[.int .i64 last, .int .i64 at_] w fun e w' => e = .returned (.int .i64 (risesS last at_)) ∧ Drawn0 w w' := PCertChecks.cert_rises.calls 5 last at_ _ w (rises_v last at_)
theorem after_c (at_ last : Int) (w : World) : Calls Try.prog 38 #[.int .i64 at_, .int .i64 last] w fun e w' => e = .returned (.int .i64 (risesS last at_)) ∧ Drawn0 w w' := PCertChecks.provisoref06_after.calls 5 at_ last _ w (after_v at_ last)
end Go.Proofs.Ytfbdnfokoakfaaa.Ct
