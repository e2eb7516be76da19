/- All tokens of a text, as a plain function; the reference answers it. -/
import Derived.Test.YthaejpkldpkddaaDoorRefTok
import Derived.Test.YthaejpkldpkddaaDoorPLexBlanksx3
import Derived.Test.YthaejpkldpkddaaDoorLexK
namespace Go.Proofs.YthaejpkldpkddaaDoor.Scn
open Go.RowKit Go.Proofs.YthaejpkldpkddaaDoorW.PrintWords Go.Proofs.YthaejpkldpkddaaDoorW.PrintLast Go.Proofs.YthaejpkldpkddaaDoorW.PrintMore
set_option linter.unusedVariables false
set_option linter.unusedSimpArgs false

/-- The tokens from p on (no blank stands there), behind l; or where it gives up, and why. -/
def scanF (s : ByteArray) : Nat → Nat → List Tok → Except (Nat × Int) (List Tok)
  | 0, _, l => .ok l
  | f + 1, p, l => if p < s.size then (if 16384 ≤ l.length then .error (p, 4) else match tokAt s p with
      | .error e => .error (p, e)
      | .ok t => scanF s f (blankV s t.f2.toNat) (l ++ [t])) else .ok l
def scanV (s : ByteArray) : Except (Nat × Int) (List Tok) := if 65536 < s.size then .error (0, 4) else scanF s (s.size + 1) (blankV s 0) []

def scanT (r : Except (Nat × Int) (List Tok)) : List Tok × Int × Int := match r with | .ok l => (l, 0, 0) | .error x => ([], (x.1 : Int), x.2)

theorem tokAt_err (s : ByteArray) (p : Nat) (e : Int) (h : tokAt s p = .error e) : e ≠ 0 := by
  unfold tokAt wordAt numAt markAt at h
  repeat (first | (split at h) | (cases h; decide) | cases h)

end Go.Proofs.YthaejpkldpkddaaDoor.Scn
