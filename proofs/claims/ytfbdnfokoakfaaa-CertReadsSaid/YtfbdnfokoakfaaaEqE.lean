/- '==' of frames and entries. -/
import Derived.Test.YtfbdnfokoakfaaaFrameC
import Derived.Laws.StructEq
namespace Go.Proofs.Ytfbdnfokoakfaaa.Ct
open Go.RowKit Go.Proofs.YtfbdnfokoakfaaaW.PrintWords Go.Proofs.YtfbdnfokoakfaaaW.PrintLast Go.Proofs.YtfbdnfokoakfaaaW.PrintMore
set_option linter.unusedVariables false
set_option linter.unusedSimpArgs false

def eqF (f g : Fr) : Bool := (f.l == g.l) && ((f.h == g.h) && (f.s == g.s))
def eqE (x y : En) : Bool := (x.at_ == y.at_) && ((x.dead == y.dead) && eqF x.fr y.fr)
theorem eqF_iff (f g : Fr) : eqF f g = true ↔ f = g := by
  obtain ⟨a, b, c⟩ := f
  obtain ⟨a', b', c'⟩ := g
  simp [eqF]
theorem eqE_iff (x y : En) : eqE x y = true ↔ x = y := by
  obtain ⟨a, b, c⟩ := x
  obtain ⟨a', b', c'⟩ := y
  simp [eqE, eqF_iff]
theorem eqF_self (f : Fr) : eqF f f = true := (eqF_iff f f).2 rfl
theorem eqE_self (x : En) : eqE x x = true := (eqE_iff x x).2 rfl

theorem all_range_eq : ∀ (xs ys : List Int), xs.length = ys.length → ((List.range xs.length).all fun i => xs.getD i 0 == ys.getD i 0) = (xs == ys)
  | [], [], _ => rfl
  | x :: xs, y :: ys, h => by
    have ih := all_range_eq xs ys (by simpa using h)
    rw [List.length_cons, List.range_succ_eq_map, List.all_cons, List.all_map]
    simp only [List.getD_cons_zero, Function.comp_def, List.getD_cons_succ, ih]
    simp [List.cons_beq_cons]
  | [], _ :: _, h => by simp at h
  | _ :: _, [], h => by simp at h

theorem eq_slots (d : Nat) (xs ys : List Int) (hx : xs.length = 24) (hy : ys.length = 24) (w : World) :
    (Op.equalIn (d + 2) 40 (.agg (nums .u8 xs).toArray) (.agg (nums .u8 ys).toArray)).run Try.prog w = .ok (xs == ys) w := by
  rw [← all_range_eq xs ys (hx.trans hy.symm), hx, List.range_eq_range', Op.equalIn]
  simp only [Sem.run_bind, run_underlying Try.underlying40, Result.andThen_ok, size39, Std.Legacy.Range.forIn_eq_forIn_range', Std.Legacy.Range.size, Nat.sub_zero, Nat.add_sub_cancel, Nat.div_one]
  have hl : ∀ i ∈ List.range' 0 24 1, i < 24 := fun i hi => by simpa using (List.mem_range'_1.1 hi).2
  generalize List.range' 0 24 1 = l at hl ⊢
  induction l with
  | nil => simp
  | cons i l ih =>
    have hi : i < 24 := hl i (by simp)
    have px : (part 39 (nums .u8 xs).toArray (i * 1)).run Try.prog w = .ok (.int .u8 (xs.getD i 0)) w := by
      simp [part, isAgg, run_underlying Try.underlying39, List.getD, nums, List.getElem?_eq_getElem (show i < xs.length by omega)]
    have py : (part 39 (nums .u8 ys).toArray (i * 1)).run Try.prog w = .ok (.int .u8 (ys.getD i 0)) w := by
      simp [part, isAgg, run_underlying Try.underlying39, List.getD, nums, List.getElem?_eq_getElem (show i < ys.length by omega)]
    have pe : (Op.equalIn (d + 1) 39 (.int .u8 (xs.getD i 0)) (.int .u8 (ys.getD i 0))).run Try.prog w = .ok (xs.getD i 0 == ys.getD i 0) w :=
      run_equalIn_int w d 39 .u8 .u8 _ _ Try.underlying39
    simp only [List.forIn_cons, Sem.run_bind, px, py, pe, Result.andThen_ok, List.all_cons]
    cases hb : (xs.getD i 0 == ys.getD i 0)
    · simp
    · simp only [Bool.not_true, Bool.false_eq_true, if_false, Sem.run_pure, Result.andThen_ok, Bool.true_and]
      exact ih fun j hj => hl j (by simp [hj])

theorem part_of {t : TypeId} {d : TypeDesc} (hu : Try.prog.underlying t = some d) (hd : d.isRow = true) {n : Nat} (hi : (Try.prog.info? t).map (·.size) = some n) (xs : Array Value) (off : Nat) (w : World) :
    (part t xs off).run Try.prog w = .ok (.agg (xs.extract off (off + n))) w := by
  have hagg : (isAgg t).run Try.prog w = .ok true w := by
    unfold isAgg
    rw [Sem.run_bind, run_underlying hu w]
    cases d <;> simp_all
  simp [part, Sem.run_bind, hagg, sizeOf_of hi]
theorem part_one {t : TypeId} {d : TypeDesc} (hu : Try.prog.underlying t = some d) (hd : d.isRow = false) (xs : Array Value) (off : Nat) (v : Value) (hv : xs[off]? = some v) (w : World) :
    (part t xs off).run Try.prog w = .ok v w := by
  have hagg : (isAgg t).run Try.prog w = .ok false w := by
    unfold isAgg
    rw [Sem.run_bind, run_underlying hu w]
    cases d <;> simp_all
  simp [part, Sem.run_bind, hagg, hv]

theorem eq_fr (d : Nat) (f g : Fr) (hf : f.wf) (hg : g.wf) (w : World) : (Op.equalIn (d + 3) 42 (frV f) (frV g)).run Try.prog w = .ok (eqF f g) w := by
  unfold frV eqF
  refine eqA_of Try.underlying42 (by kernel_rfl) ?_
  have ex : ∀ f : Fr, f.wf → (frC f).toArray.extract 2 (2 + 24) = (nums .u8 f.s).toArray := fun f hf => by
    have hl : (nums .u8 f.s).length = 24 := by simp [nums, hf.1]
    simp only [frC, List.extract_toArray]
    simp [List.extract_eq_take_drop, List.take_of_length_le (Nat.le_of_eq hl)]
  refine eqf_cons rfl (part_one Try.underlying3 rfl _ 0 (.int .i64 f.l) rfl w) (part_one Try.underlying3 rfl _ 0 (.int .i64 g.l) rfl w) (run_equalIn_int w _ 3 .i64 .i64 _ _ Try.underlying3) ?_
  refine eqf_cons rfl (part_one Try.underlying3 rfl _ 1 (.int .i64 f.h) rfl w) (part_one Try.underlying3 rfl _ 1 (.int .i64 g.h) rfl w) (run_equalIn_int w _ 3 .i64 .i64 _ _ Try.underlying3) ?_
  refine eqf_last rfl (part_of (n := 24) Try.underlying40 rfl (by kernel_rfl) _ 2 w) (part_of (n := 24) Try.underlying40 rfl (by kernel_rfl) _ 2 w) ?_
  rw [ex f hf, ex g hg]
  exact eq_slots d f.s g.s hf.1 hg.1 w

theorem eq_en (d : Nat) (x y : En) (hx : x.fr.wf) (hy : y.fr.wf) (w : World) : (Op.equalIn (d + 4) 44 (enV x) (enV y)).run Try.prog w = .ok (eqE x y) w := by
  unfold enV eqE
  refine eqA_of Try.underlying44 (by kernel_rfl) ?_
  have ex : ∀ x : En, x.fr.wf → (enC x).toArray.extract 2 (2 + 26) = (frC x.fr).toArray := fun x hx => by
    have hl : (frC x.fr).length = 26 := frC_len hx
    simp only [enC, List.extract_toArray]
    simp [List.extract_eq_take_drop, List.take_of_length_le (Nat.le_of_eq hl)]
  refine eqf_cons rfl (part_one Try.underlying3 rfl _ 0 (.int .i64 x.at_) rfl w) (part_one Try.underlying3 rfl _ 0 (.int .i64 y.at_) rfl w) (run_equalIn_int w _ 3 .i64 .i64 _ _ Try.underlying3) ?_
  refine eqf_cons rfl (part_one Try.underlying4 rfl _ 1 (.bool x.dead) rfl w) (part_one Try.underlying4 rfl _ 1 (.bool y.dead) rfl w) (run_equalIn_bool w _ 4 _ _ Try.underlying4) ?_
  refine eqf_last rfl (part_of (n := 26) Try.underlying42 rfl (by kernel_rfl) _ 2 w) (part_of (n := 26) Try.underlying42 rfl (by kernel_rfl) _ 2 w) ?_
  rw [ex x hx, ex y hy]
  exact eq_fr d x.fr y.fr hx hy w
end Go.Proofs.Ytfbdnfokoakfaaa.Ct
