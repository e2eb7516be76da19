/- provisolaw04.fit, in the words of the printed texts: what it answers at every instruction. -/
import Derived.Test.YtcfpiamdkdedlaaFitC
import Derived.Test.YtcfpiamdkdedlaaPCodeApartx0
namespace Go.Proofs.Ytcfpiamdkdedlaa.PCodeApart
open Go.RowKit Go.Proofs.YtcfpiamdkdedlaaW.PrintWords Go.Proofs.YtcfpiamdkdedlaaW.PrintLast Go.Proofs.YtcfpiamdkdedlaaW.PrintMore Go.Proofs.Ytcfpiamdkdedlaa.FitC
set_option linter.unusedVariables false

def provisolaw04_fit.f (k : Nat) (a0_0 : Int) (a0_1 : Int) (a0_2 : Int) (a0_3 : Int) : Option (Int × Int × Int × Int) :=
  if 0 ≤ a0_1 then (if a0_1 ≤ 255 then some (0, a0_1 % 34, fitX (a0_1 % 34) a0_2 a0_3, fitY (a0_1 % 34) a0_3) else none) else none
theorem provisolaw04_fit.mono : ∀ a0 a1 a2 a3 k, LeO (provisolaw04_fit.f k a0 a1 a2 a3) (provisolaw04_fit.f (k + 1) a0 a1 a2 a3) := fun _ _ _ _ _ => LeO.refl _
theorem provisolaw04_fit.calls (k : Nat) (a0_0 : Int) (a0_1 : Int) (a0_2 : Int) (a0_3 : Int) (r1 : Int) (r2 : Int) (r3 : Int) (r4 : Int) (w : World) (h : provisolaw04_fit.f k a0_0 a0_1 a0_2 a0_3 = some (r1, r2, r3, r4)) :
    Calls Try.prog 32 #[.agg #[.int .i64 a0_0, .int .u8 a0_1, .int .i64 a0_2, .int .i64 a0_3]] w fun e w' => e = .returned (.agg #[.int .i64 r1, .int .u8 r2, .int .i64 r3, .int .i64 r4]) ∧ Below w.heap.size w w' := by
  unfold provisolaw04_fit.f at h
  by_cases h0 : 0 ≤ a0_1
  · by_cases h1 : a0_1 ≤ 255
    · rw [if_pos h0, if_pos h1] at h
      simp only [Option.some.injEq, Prod.mk.injEq] at h
      obtain ⟨rfl, rfl, rfl, rfl⟩ := h
      exact fit_any a0_0 a0_1 a0_2 a0_3 w h0 h1
    · rw [if_pos h0, if_neg h1] at h; cases h
  · rw [if_neg h0] at h; cases h
theorem fit_is (k : Nat) (a op A B : Int) (h0 : 0 ≤ op) (h1 : op ≤ 255) : provisolaw04_fit.f k a op A B = some (0, op % 34, fitX (op % 34) A B, fitY (op % 34) B) := by
  unfold provisolaw04_fit.f; rw [if_pos h0, if_pos h1]
end Go.Proofs.Ytcfpiamdkdedlaa.PCodeApart
