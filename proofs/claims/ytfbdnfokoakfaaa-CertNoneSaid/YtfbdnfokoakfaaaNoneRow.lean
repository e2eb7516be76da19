/- CertNone, for its row. -/
import Derived.Test.YtfbdnfokoakfaaaNoneLaw
namespace Go.Proofs.Ytfbdnfokoakfaaa.Ct
open Go.RowKit Go.Proofs.YtfbdnfokoakfaaaW.PrintWords
set_option linter.unusedVariables false
theorem none_row (A : Option Addr) (c : Nat) (l : List Int) (W : World) (y : l.length * 1 ≤ 140737488351232) (hc : l.length ≤ c) (hC : Kd.C (Kd.int .u8) W A l.length l) (hw : ∀ n ∈ l, (Lit.int .u8 n).wf = true) :
    Calls Try.prog 5 #[.slice A l.length c] W fun e W' => e = .returned (.bool true) ∧ Below W.heap.size W W' := none_law _ W
end Go.Proofs.Ytfbdnfokoakfaaa.Ct
