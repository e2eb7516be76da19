/- For every list of instructions code.All answers the bytes, or the place and the error, that the reference answers, and the list stays (the row of the statement CodeAlls). No condition. -/
import Derived.Test.YtcfpiamdkdedlaaRows
import Derived.Test.YtcfpiamdkdedlaaOpenI
import Derived.WalkKit
import Derived.ProofKit
import Derived.OpenShut
import Derived.ShutString
import Derived.ChangeOld
import Derived.Below
import Derived.SizedLaws
import Derived.Test.YtcfpiamdkdedlaaSliceRow
namespace Go.Proofs.Ytcfpiamdkdedlaa.codeAlls
open Go.ChangeShapes Go.WideShapes Go.ChangeAt Go.RowKit
open Go.ChangeMaps (open_string shut_string)
set_option linter.unusedVariables false
theorem own : ownKnob Try.prog.godebug = none := by kernel_rfl
theorem laidOut : laidOutB Try.prog = true := by kernel_rfl
set_option maxRecDepth 100000 in
theorem lifted (os : Os) (started : os.Started) (H : Type) (enc : TypeId × Value → H) :
    ReturnsInHanded {} Try.checked os 6 .any (Rows.codeAllsSpec.pre6 enc Try.prog Try.f6 Rows.codeAllsRow.domain false) (Rows.codeAllsSpec.post enc Try.prog Try.f6 false true false false) := by
  refine returnsInHanded_of_change_sized (C := Try.checked) own started (by kernel_rfl) Try.func6
    (ChangeSpec.witness6 (enc := enc) (C := Try.checked) false ⟨#[], #[.slice none 0 0], []⟩ 8 (by kernel_rfl) (by kernel_rfl) (by kernel_rfl) (by kernel_rfl)) ?_
  intro W base args ds gs before hval0 hW hcnd hsz0 _
  have hsz : (DataW.weightsEach Try.prog (Try.f6.params.toList ++ Rows.codeAllsSpec.plain.varTypes Try.prog) (ds ++ gs)).all (· ≤ reachBytes) = true := hsz0
  have hval : ∀ (j : Nat) t v, Try.f6.params[j]? = some t → args[j]? = some v → Value.okWide Try.prog W .any base t v := hval0
  have hW' := hW
  obtain ⟨p, q, hA0, hV, rfl, hfz, hnd⟩ := hW
  have hA : DataW.TrodAll enc Try.prog W 0 (fun _ => true) true Try.f6.params.toList args.toList ds p := hA0
  rw [Try.params6] at hA hval hsz
  obtain ⟨v0, vs0, d0, ds0, p0, q0, hargs, rfl, rfl, h0, r0⟩ := trodAll_cons hA
  obtain ⟨rfl, rfl, rfl⟩ := trodAll_nil r0
  obtain rfl : args = #[v0] := by cases args; simp_all
  obtain ⟨rfl, rfl⟩ := trodVars_none hV
  obtain ⟨a0, len0, cap0, rfl⟩ := okWide_slice Try.underlying41 (hval 0 41 v0 rfl rfl)
  have k0 := h0
  have lt0 : ∀ x ∈ p0, x.block < W.heap.size := by obtain ⟨m, hm⟩ := k0; exact DataW.trod_lt m _ _ _ hm
  obtain ⟨l0, el0, lc0, _, cl0, wl0⟩ := SliceRow.reads Go.Proofs.Ytcfpiamdkdedlaa.PCodeAlls.k29 _ Try.underlying41 (by kernel_rfl) (fun n cs x => Go.Proofs.Ytcfpiamdkdedlaa.AllsLaw.open29 n cs x) h0
  have y0 : len0 * 32 ≤ 140737488351232 := SliceRow.sized hsz (j := 0) (t := 41) rfl rfl Try.underlying41 (by kernel_rfl) h0
  subst el0
  clear hA0 hval0 hsz0 hsz
  refine (Go.Proofs.Ytcfpiamdkdedlaa.AllsLaw.alls_row a0 cap0 l0 W y0 lc0 cl0 wl0).mono fun e W' ⟨he, bel⟩ => ?_
  subst he
  exact ⟨_, rfl, _, _, _, [], _, [], hW', trodAll_mk1 (shut_bool Try.underlying4 _), (trodAll_cons_mk (Below.trod laidOut (by kernel_rfl) (of_decide_eq_true (by kernel_rfl)) k0 bel lt0) trodAll_mk0), rfl, bel.frame _, fun h => by cases h⟩
theorem over : Rows.codeAllsRow.holds Try.pinned (OpenSpec.ofChange Rows.codeAllsSpec) :=
  OpenClaim.holds_of_wide 6 Try.f6 rfl rfl rfl rfl rfl rfl rfl ⟨rfl, rfl, rfl, rfl, rfl⟩ rfl rfl rfl rfl rfl (by kernel_rfl) Try.func6 (by kernel_rfl)
    (of_decide_eq_true (by kernel_rfl)) (by unfold Func.isWrapper; first | (rw [if_pos (by decide +kernel)]; kernel_rfl) | (rw [if_neg (by decide +kernel)]; exact ⟨rfl, rfl⟩))
    (fun os started H enc _ => lifted os started H enc)
theorem proved : Rows.CodeAllsSaid := over
#print axioms proved
end Go.Proofs.Ytcfpiamdkdedlaa.codeAlls
namespace Go.Proofs.Ytcfpiamdkdedlaa
/-- The row, under a short name, for the claim. -/
theorem codeAlls_holds : Rows.CodeAllsSaid := codeAlls.proved
end Go.Proofs.Ytcfpiamdkdedlaa
