/- For every text and place, lex.Line answers the same line and the same place in it as the reference (the row of the statement LexLines). No condition. -/
import Derived.Test.YthaejpkldpkddaaRows
import Derived.Test.YthaejpkldpkddaaPLexLinesx1
import Derived.Test.YthaejpkldpkddaaLineWalk
import Derived.WalkKit
import Derived.ProofKit
import Derived.OpenShut
import Derived.ShutString
import Derived.ChangeOld
import Derived.Below
import Derived.SizedLaws
namespace Go.Proofs.Ythaejpkldpkddaa.lexLines
open Go.ChangeShapes Go.WideShapes Go.ChangeAt Go.RowKit
open Go.ChangeMaps (open_string shut_string)
open Go.Proofs.YthaejpkldpkddaaW.PrintWords Go.Proofs.YthaejpkldpkddaaW.PrintLast Go.Proofs.YthaejpkldpkddaaW.PrintMore Go.Proofs.Ythaejpkldpkddaa.PLexLines Go.Proofs.Ythaejpkldpkddaa.Line
set_option linter.unusedVariables false

theorem ref_loop (s : ByteArray) (hs : s.size ≤ 140737488351232) (n : Nat) (hn : n ≤ s.size) : ∀ (d i k : Nat), i + d = n → d < k →
    provisoref10_Line.l0 k s (n : Int) (st s i).1 (st s i).2 (i : Int) = some ((st s n).1, (n : Int) - (st s n).2 + 1)
  | 0, i, k, hi, hk => by
    obtain ⟨k, rfl⟩ : ∃ m, k = m + 1 := ⟨k - 1, by omega⟩
    obtain rfl : i = n := by omega
    have r := st_range s i
    have e : wrap64 (wrap64 ((i : Int) - (st s i).2) + 1) = (i : Int) - (st s i).2 + 1 := by unfold wrap64; omega
    rw [provisoref10_Line.l0, if_neg (by omega), e]
  | d + 1, i, k, hi, hk => by
    obtain ⟨k, rfl⟩ : ∃ m, k = m + 1 := ⟨k - 1, by omega⟩
    have r := st_range s i
    have e1 : wrap64 ((st s i).1 + 1) = (st s i).1 + 1 := by unfold wrap64; omega
    have e2 : wrap64 ((i : Int) + 1) = ((i + 1 : Nat) : Int) := by unfold wrap64; omega
    rw [provisoref10_Line.l0, if_pos (by omega), if_pos (by omega), if_pos (by omega), e1, e2]
    have ih := ref_loop s hs n hn d (i + 1) k (by omega) (by omega)
    by_cases h : bt s (i : Int) = 10
    · rw [if_pos h]
      simp only [st] at ih
      rw [if_pos h] at ih
      exact ih
    · rw [if_neg h]
      simp only [st] at ih
      rw [if_neg h] at ih
      exact ih

theorem ref_is (s : ByteArray) (hs : s.size ≤ 140737488351232) (a : Int) : provisoref10_Line.f (s.size + 4) s a = some ((st s (clamp s a)).1, (clamp s a : Int) - (st s (clamp s a)).2 + 1) := by
  have key : ∀ n : Nat, n ≤ s.size → provisoref10_Line.l0 (s.size + 2) s (n : Int) 1 0 0 = some ((st s n).1, (n : Int) - (st s n).2 + 1) := fun n hn => ref_loop s hs n hn n 0 (s.size + 2) (by omega) (by omega)
  unfold provisoref10_Line.f clamp
  by_cases h : a < 0
  · rw [if_pos h, if_pos h, provisoref10_Line.j0, if_neg (by omega), provisoref10_Line.j1]
    exact key 0 (by omega)
  · rw [if_neg h, if_neg h, provisoref10_Line.j0]
    by_cases h' : (s.size : Int) < a
    · rw [if_pos h', if_pos h', provisoref10_Line.j1]
      exact key s.size (by omega)
    · rw [if_neg h', if_neg h', provisoref10_Line.j1]
      have e : a = ((a.toNat : Nat) : Int) := by omega
      rw [e]
      exact key a.toNat (by omega)

set_option maxHeartbeats 1000000 in
set_option maxRecDepth 100000 in
theorem law_any (s : ByteArray) (a : Int) (hs : s.size ≤ 140737488351232) (w : World) :
    Calls Try.prog 3 #[.string s, .int .i64 a] w fun e w' => e = .returned (.bool true) ∧ Below w.heap.size w w' := by
  go_enter Try.func3, Try.ntmps3
  go_wp2_with (first
    | (go_at_call 9; refine (line_any _ _ hs _).mono ?_; rintro e w1 ⟨rfl, b1⟩)
    | (go_at_call 10; refine (provisoref10_Line.calls (s.size + 4) _ _ _ _ _ (ref_is s hs a)).mono ?_; rintro e w2 ⟨rfl, d2⟩))
  go_ret
  exact ⟨rfl, b1.trans (d2.below.mono b1.size)⟩

theorem own : ownKnob Try.prog.godebug = none := by kernel_rfl
set_option maxRecDepth 100000 in
theorem lifted (os : Os) (started : os.Started) (H : Type) (enc : TypeId × Value → H) :
    ReturnsInHanded {} Try.checked os 3 .any (Rows.lexLinesSpec.pre6 enc Try.prog Try.f3 Rows.lexLinesRow.domain false) (Rows.lexLinesSpec.post enc Try.prog Try.f3 false true false false) := by
  refine returnsInHanded_of_change_sized (C := Try.checked) own started (by kernel_rfl) Try.func3
    (ChangeSpec.witness6 (enc := enc) (C := Try.checked) false ⟨#[], #[.string ByteArray.empty, .int .i64 0], []⟩ 8 (by kernel_rfl) (by kernel_rfl) (by kernel_rfl) (by kernel_rfl)) ?_
  intro W base args ds gs before hval0 hW hcnd hsz0 _
  have hsz : (DataW.weightsEach Try.prog (Try.f3.params.toList ++ Rows.lexLinesSpec.plain.varTypes Try.prog) (ds ++ gs)).all (· ≤ reachBytes) = true := hsz0
  have hval : ∀ (j : Nat) t v, Try.f3.params[j]? = some t → args[j]? = some v → Value.okWide Try.prog W .any base t v := hval0
  have hW' := hW
  obtain ⟨p, q, hA0, hV, rfl, hfz, hnd⟩ := hW
  have hA : DataW.TrodAll enc Try.prog W 0 (fun _ => true) true Try.f3.params.toList args.toList ds p := hA0
  rw [Try.params3] at hA hval hsz
  obtain ⟨v0, vs0, d0, ds0, p0, q0, hargs, rfl, rfl, h0, r0⟩ := trodAll_cons hA
  obtain ⟨v1, vs1, d1, ds1, p1, q1, rfl, rfl, rfl, h1, r1⟩ := trodAll_cons r0
  obtain ⟨rfl, rfl, rfl⟩ := trodAll_nil r1
  obtain rfl : args = #[v0, v1] := by cases args; simp_all
  obtain ⟨rfl, rfl⟩ := trodVars_none hV
  obtain ⟨a0, rfl, rfl, rfl, y0⟩ := open_string Try.underlying9 (hval 0 9 v0 rfl rfl) h0
  obtain ⟨a1, rfl, rfl, rfl, w1⟩ := open_int Try.underlying3 (hval 1 3 v1 rfl rfl) h1
  have z0 : a0.size ≤ 140737488351232 := by
    have z := sized_string hsz (j := 0) (t := 9) rfl rfl
    rw [Array.length_toList] at z
    exact z
  clear hA0 hval0 hsz0 hsz
  refine (law_any a0 a1 z0 W).mono fun e W' ⟨he, bel⟩ => ?_
  subst he
  exact ⟨_, rfl, _, _, _, [], _, [], hW', trodAll_mk1 (shut_bool Try.underlying4 _), (trodAll_cons_mk (shut_string Try.underlying9 y0) (trodAll_cons_mk (shut_int Try.underlying3 w1) trodAll_mk0)), rfl, bel.frame _, fun h => by cases h⟩
theorem over : Rows.lexLinesRow.holds Try.pinned (OpenSpec.ofChange Rows.lexLinesSpec) :=
  OpenClaim.holds_of_wide 3 Try.f3 rfl rfl rfl rfl rfl rfl rfl ⟨rfl, rfl, rfl, rfl, rfl⟩ rfl rfl rfl rfl rfl (by kernel_rfl) Try.func3 (by kernel_rfl)
    (of_decide_eq_true (by kernel_rfl)) (by unfold Func.isWrapper; first | (rw [if_pos (by decide +kernel)]; kernel_rfl) | (rw [if_neg (by decide +kernel)]; exact ⟨rfl, rfl⟩))
    (fun os started H enc _ => lifted os started H enc)
theorem proved : Rows.LexLinesSaid := over
#print axioms proved
end Go.Proofs.Ythaejpkldpkddaa.lexLines
namespace Go.Proofs.Ythaejpkldpkddaa
/-- The row, under a short name, for the claim. -/
theorem lexLines_holds : Rows.LexLinesSaid := lexLines.proved
end Go.Proofs.Ythaejpkldpkddaa
