/- CertReads, for its row. -/
import Derived.Test.YtfbdnfokoakfaaaReadsLaw
namespace Go.Proofs.Ytfbdnfokoakfaaa.Ct
open Go.RowKit Go.Proofs.YtfbdnfokoakfaaaW.PrintWords Go.Proofs.Ytfbdnfokoakfaaa.CloneC
set_option linter.unusedVariables false
theorem reads_row (A : Option Addr) (c : Nat) (l : List Int) (more : Int) (W : World) (y : l.length * 1 ≤ 140737488351232) (hc : l.length ≤ c) (hC : Kd.C (Kd.int .u8) W A l.length l) (hw : ∀ n ∈ l, (Lit.int .u8 n).wf = true) (hm : (Lit.int .u64 more).wf = true) :
    Calls Try.prog 7 #[.slice A l.length c, .int .u64 more] W fun e W' => e = .returned (.bool true) ∧ Below W.heap.size W W' := by
  have h : 0 ≤ more ∧ more ≤ 18446744073709551615 := by
    simp [Lit.wf, IntKind.min, IntKind.max, IntKind.signed, IntKind.bits] at hm
    omega
  exact reads_law A c l more W ⟨hC, hc, u8_rows hw, by omega⟩ h.1 h.2
end Go.Proofs.Ytfbdnfokoakfaaa.Ct
