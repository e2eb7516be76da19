/- strconv.Itoa at this program: laid by the shelf's command; what a token is written as. -/
import Derived.Test.YthaejpkldpkddaaDoorAwake
import Derived.Test.YthaejpkldpkddaaDoorGapV
import Derived.Shelf.Lay
import Derived.Shelf.LaysM
import Derived.Shelf.Strconv.Itoa3
import Derived.Lib.SmallJoins
namespace Go.Proofs
open Go.Shelf
shelf_lay LaysM.n171 Nm 171 at Tryd as YthaejpkldpkddaaDoor.laysM171
end Go.Proofs
namespace Go.Proofs.YthaejpkldpkddaaDoor.Scn
open Go.RowKit Go.Proofs.YthaejpkldpkddaaDoorW.PrintWords Go.Proofs.YthaejpkldpkddaaDoorW.PrintLast Go.Proofs.YthaejpkldpkddaaDoorW.PrintMore
set_option linter.unusedVariables false
set_option linter.unusedSimpArgs false
theorem itoa_c (n : Int) (h0 : -9223372036854775808 ≤ n) (h1 : n ≤ 9223372036854775807) (w : World) (htab : Lib.TabIs Tryd.prog w "internal/strconv.uint64pow10" .u64 Lib.pow10Tab) :
    Calls Tryd.prog 9 #[.int .i64 n] w fun e w' => e = .returned (.string ⟨(Lib.itoa n).toArray⟩) ∧ ∃ k os, w' = Sort.grow (w.drewN k) os := Any.strconv_Itoa laysM171 n h0 h1 w htab
def Tab (w : World) : Prop := Lib.TabIs Tryd.prog w "internal/strconv.uint64pow10" .u64 Lib.pow10Tab
noncomputable def gTab : Nat := (Tryd.prog.globalNamed "internal/strconv.uint64pow10").getD 0
theorem gTab_is : Tryd.prog.globalNamed "internal/strconv.uint64pow10" = some gTab := by kernel_rfl
theorem tab_below {w w' : World} (h : Tab w) (hb : Below w.heap.size w w') : Tab w' := Joins.tab_stays (g := gTab) gTab_is h hb (Nat.le_refl _)
theorem grow_below (w : World) (k : Nat) (os : Array Obj) : Below w.heap.size w (Sort.grow (w.drewN k) os) :=
  ⟨rfl, rfl, rfl, by show w.heap.size ≤ (w.heap ++ os).size; rw [Array.size_append]; omega, fun i hi => Array.getElem?_append_left hi⟩
attribute [local go_sem] drewN_set drewN_new

set_option maxHeartbeats 2000000 in
set_option maxRecDepth 100000 in
theorem written_c (t : Tok) (h3 : 0 ≤ t.f3 ∧ t.f3 ≤ 2147483648) (w : World) (htab : Tab w) :
    Calls Tryd.prog 6 #[.agg #[.int .i64 t.f0, .int .i64 t.f1, .int .i64 t.f2, .int .i64 t.f3, .string t.f4]] w fun e w' => e = .returned (.string (wrote t)) ∧ Below w.heap.size w w' := by
  obtain ⟨f0, f1, f2, f3, f4⟩ := t
  simp only at h3 ⊢
  have HI := Lib.hid (fun W (h : Tab W) => itoa_c f3 (by omega) (by omega) W h)
  have HW := Lib.hid (fun W => PLexBlanks.lex_Word.calls f0 (wordOf f0) W (word_some f0))
  have HT : Hid (Tab (w.alloc (.cells (tokCells ⟨f0, f1, f2, f3, f4⟩) 31))) := Lib.hid (tab_below htab (below_alloc (Below.refl _ _) _))
  clear htab
  by_cases c1 : f0 = 1
  · have e1 : (f0 == 1) = true := beq_iff_eq.2 c1
    have ew : wrote (⟨f0, f1, f2, f3, f4⟩ : Tok) = f4 := by unfold wrote; rw [if_pos c1]
    rw [ew]
    clear c1 ew
    go_enter Tryd.func6, Tryd.ntmps6
    go_wp2
    go_ret
    exact ⟨rfl, below_alloc (Below.refl _ _) _⟩
  · have e1 : (f0 == 1) = false := beq_eq_false_iff_ne.2 c1
    by_cases c2 : f0 = 2
    · have e2 : (f0 == 2) = true := beq_iff_eq.2 c2
      have ew : wrote (⟨f0, f1, f2, f3, f4⟩ : Tok) = ⟨(Lib.itoa f3).toArray⟩ := by unfold wrote; rw [if_neg c1, if_pos c2]
      rw [ew]
      clear c1 c2 ew
      go_enter Tryd.func6, Tryd.ntmps6
      go_wp2_with (go_at_call 9; refine (HI.out _ HT.out).mono ?_; rintro e w2 ⟨rfl, k, os, rfl⟩)
      go_ret
      exact ⟨rfl, (below_alloc (Below.refl _ _) _).trans ((grow_below _ k os).mono (by rw [World.size_alloc]; omega))⟩
    · have e2 : (f0 == 2) = false := beq_eq_false_iff_ne.2 c2
      have ew : wrote (⟨f0, f1, f2, f3, f4⟩ : Tok) = wordOf f0 := by unfold wrote; rw [if_neg c1, if_neg c2]
      rw [ew]
      clear c1 c2 ew
      go_enter Tryd.func6, Tryd.ntmps6
      go_wp2_with (go_at_call 10; refine (HW.out _).mono ?_; rintro e w2 ⟨rfl, hb2⟩)
      go_ret
      exact ⟨rfl, (below_alloc (Below.refl _ _) _).trans (hb2.mono (by simp))⟩
end Go.Proofs.YthaejpkldpkddaaDoor.Scn
