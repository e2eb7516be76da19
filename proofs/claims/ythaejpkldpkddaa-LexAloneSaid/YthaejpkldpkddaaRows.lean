/-
  No cell of these rows narrows 'for every input' (looked for: loops, veiled, ifaces, maps, wideKeys, modest, calm, conditions, laid).
  DERIVED. THE GIVEN ROWS OF THIS SEAT. 6 by the template 'for every input the law returns true; each argument reads behind the call as it read before'; 0 by the template 'total and deterministic' (their statements: YthaejpkldpkddaaTotals.lean).
  GIVEN WITH THE SEED: the statements are not yours to turn. If you find one false, say at which input.
  Laid BY PROGRAM, IN A SANDBOX (cutbox-rows.mjs): the forced cells as the released guide's own fill.sh prints them over the translation cc578b2adba9bafb… (all of the seat's roots in one cut). By AI agents, Wed Nov 11 2026. No macro, syntax, notation, axiom, sorry.
-/
import Derived.Test.YthaejpkldpkddaaChecked
import GoSem.Claim
import GoSem.ClaimJoined
import GoSem.ClaimMapViews
import Derived.JoinedTies
import Derived.KernelRfl
namespace Go.Proofs.Ythaejpkldpkddaa
/- THE CELL 'sum', in the pinned program and in every row, IS THE sha256 OF THE DUMP (.gsa) THAT YthaejpkldpkddaaProg.lean LOADS. Nothing in Lean hashes anything: it is a label: what it is worth is what the hold of that sum in a sandbox is worth. -/
noncomputable def Try.pinned : Pinned := { name := "ythaejpkldpkddaa", sum := "cc578b2adba9bafbf3425fe5128f2b68e794072946e5ad706408342fe30ce339", checked := Try.checked }
namespace Rows
def none {H : Type} : Left H := { results := [], args := [] }

/-- 'provisolaw10.LexLines': WHATEVER THE INPUT: true; the input reads as it did. -/
def lexLinesSpec : ChangeSpec := { name := "lexLines", fn := fun _ => fun
  | [d1, d2] => { results := [.lit (.bool true)], args := [d1, d2] }
  | _ => none }
def lexLinesRow : OpenClaim := { program := "ythaejpkldpkddaa", sum := "cc578b2adba9bafbf3425fe5128f2b68e794072946e5ad706408342fe30ce339", func := "proviso/provisolaw10.LexLines", spec := "lexLines", apart := false }
def LexLinesSaid : Prop := lexLinesRow.holds Try.pinned (OpenSpec.ofChange lexLinesSpec)

/-- ITS FALSE NEIGHBOUR: 'it returns false'. Refute it at one input. -/
def lexLinesWrong : ChangeSpec := { name := "lexLines", fn := fun _ => fun
  | [d1, d2] => { results := [.lit (.bool false)], args := [d1, d2] }
  | _ => none }
def LexLinesWrongFalsely : Prop := lexLinesRow.holds Try.pinned (OpenSpec.ofChange lexLinesWrong)

/-- 'provisolaw10.LexWords': WHATEVER THE INPUT: true; the input reads as it did. -/
def lexWordsSpec : ChangeSpec := { name := "lexWords", fn := fun _ => fun
  | [d1, d2] => { results := [.lit (.bool true)], args := [d1, d2] }
  | _ => none }
def lexWordsRow : OpenClaim := { program := "ythaejpkldpkddaa", sum := "cc578b2adba9bafbf3425fe5128f2b68e794072946e5ad706408342fe30ce339", func := "proviso/provisolaw10.LexWords", spec := "lexWords", apart := false }
def LexWordsSaid : Prop := lexWordsRow.holds Try.pinned (OpenSpec.ofChange lexWordsSpec)

/-- ITS FALSE NEIGHBOUR: 'it returns false'. Refute it at one input. -/
def lexWordsWrong : ChangeSpec := { name := "lexWords", fn := fun _ => fun
  | [d1, d2] => { results := [.lit (.bool false)], args := [d1, d2] }
  | _ => none }
def LexWordsWrongFalsely : Prop := lexWordsRow.holds Try.pinned (OpenSpec.ofChange lexWordsWrong)

/-- 'provisolaw10.LexLost': WHATEVER THE INPUT: true; the input reads as it did. -/
def lexLostSpec : ChangeSpec := { name := "lexLost", fn := fun _ => fun
  | [d] => { results := [.lit (.bool true)], args := [d] }
  | _ => none }
def lexLostRow : OpenClaim := { program := "ythaejpkldpkddaa", sum := "cc578b2adba9bafbf3425fe5128f2b68e794072946e5ad706408342fe30ce339", func := "proviso/provisolaw10.LexLost", spec := "lexLost", unfollowed := true, recurses := true, apart := false }
def LexLostSaid : Prop := lexLostRow.holds Try.pinned (OpenSpec.ofChange lexLostSpec)

/-- ITS FALSE NEIGHBOUR: 'it returns false'. Refute it at one input. -/
def lexLostWrong : ChangeSpec := { name := "lexLost", fn := fun _ => fun
  | [d] => { results := [.lit (.bool false)], args := [d] }
  | _ => none }
def LexLostWrongFalsely : Prop := lexLostRow.holds Try.pinned (OpenSpec.ofChange lexLostWrong)

/-- 'provisolaw10.LexAlone': WHATEVER THE INPUT: true; the input reads as it did. -/
def lexAloneSpec : ChangeSpec := { name := "lexAlone", fn := fun _ => fun
  | [d1, d2] => { results := [.lit (.bool true)], args := [d1, d2] }
  | _ => none }
def lexAloneRow : OpenClaim := { program := "ythaejpkldpkddaa", sum := "cc578b2adba9bafbf3425fe5128f2b68e794072946e5ad706408342fe30ce339", func := "proviso/provisolaw10.LexAlone", spec := "lexAlone", unfollowed := true, recurses := true, apart := false }
def LexAloneSaid : Prop := lexAloneRow.holds Try.pinned (OpenSpec.ofChange lexAloneSpec)

/-- ITS FALSE NEIGHBOUR: 'it returns false'. Refute it at one input. -/
def lexAloneWrong : ChangeSpec := { name := "lexAlone", fn := fun _ => fun
  | [d1, d2] => { results := [.lit (.bool false)], args := [d1, d2] }
  | _ => none }
def LexAloneWrongFalsely : Prop := lexAloneRow.holds Try.pinned (OpenSpec.ofChange lexAloneWrong)

/-- 'provisolaw10.LexScans': WHATEVER THE INPUT: true; the input reads as it did. -/
def lexScansSpec : ChangeSpec := { name := "lexScans", fn := fun _ => fun
  | [d] => { results := [.lit (.bool true)], args := [d] }
  | _ => none }
def lexScansRow : OpenClaim := { program := "ythaejpkldpkddaa", sum := "cc578b2adba9bafbf3425fe5128f2b68e794072946e5ad706408342fe30ce339", func := "proviso/provisolaw10.LexScans", spec := "lexScans", unfollowed := true, recurses := true, apart := false }
def LexScansSaid : Prop := lexScansRow.holds Try.pinned (OpenSpec.ofChange lexScansSpec)

/-- ITS FALSE NEIGHBOUR: 'it returns false'. Refute it at one input. -/
def lexScansWrong : ChangeSpec := { name := "lexScans", fn := fun _ => fun
  | [d] => { results := [.lit (.bool false)], args := [d] }
  | _ => none }
def LexScansWrongFalsely : Prop := lexScansRow.holds Try.pinned (OpenSpec.ofChange lexScansWrong)

/-- 'provisolaw10.LexBegins': WHATEVER THE INPUT: true; the input reads as it did. -/
def lexBeginsSpec : ChangeSpec := { name := "lexBegins", fn := fun _ => fun
  | [d1, d2] => { results := [.lit (.bool true)], args := [d1, d2] }
  | _ => none }
def lexBeginsRow : OpenClaim := { program := "ythaejpkldpkddaa", sum := "cc578b2adba9bafbf3425fe5128f2b68e794072946e5ad706408342fe30ce339", func := "proviso/provisolaw10.LexBegins", spec := "lexBegins", unfollowed := true, recurses := true, apart := false }
def LexBeginsSaid : Prop := lexBeginsRow.holds Try.pinned (OpenSpec.ofChange lexBeginsSpec)

/-- ITS FALSE NEIGHBOUR: 'it returns false'. Refute it at one input. -/
def lexBeginsWrong : ChangeSpec := { name := "lexBegins", fn := fun _ => fun
  | [d1, d2] => { results := [.lit (.bool false)], args := [d1, d2] }
  | _ => none }
def LexBeginsWrongFalsely : Prop := lexBeginsRow.holds Try.pinned (OpenSpec.ofChange lexBeginsWrong)

/- THE SECOND FORM. 'bulk': how many values and letters a reading holds, each counted each time it is reached (what is shared counts as often as it is met; a slice's spare places count too). A statement '..UptoSaid' is the law's where the arguments, and the package variables that the reading takes, are together of bulk at most 1048576: NARROWER than '..Said'. Prove '..Said' where nothing that the law and all that it calls make is longer than what came in: it says more and counts as full. Else prove '..UptoSaid'. A law counts once. -/
mutual
def uptoBulk {H : Type} : DataW H → Nat
  | .lit (.string bytes) => bytes.length + 1
  | .lit _ => 1
  | .nil => 1
  | .ptr d => uptoBulk d + 1
  | .slice elems spare => uptoBulkAll elems + uptoBulkAll spare + 1
  | .agg parts => uptoBulkAll parts + 1
  | .iface _ d => uptoBulk d + 1
  | .map entries => uptoBulkEntries entries + 1
  | .held _ => 1
def uptoBulkAll {H : Type} : List (DataW H) → Nat
  | [] => 0
  | d :: r => uptoBulk d + uptoBulkAll r
def uptoBulkEntries {H : Type} : List (Lit × DataW H) → Nat
  | [] => 0
  | x :: r => uptoBulkEntry x + uptoBulkEntries r
def uptoBulkEntry {H : Type} : Lit × DataW H → Nat
  | (.string bytes, d) => bytes.length + uptoBulk d + 1
  | (_, d) => uptoBulk d + 1
 end
def uptoSmall : (H : Type) → List (DataW H) → Bool := fun _ ds => decide (uptoBulkAll ds ≤ 1048576)
def OpenSpec.upto (s : _root_.Go.ChangeSpec) : _root_.Go.OpenSpec := { _root_.Go.OpenSpec.ofChange s with cond := some uptoSmall }

/-- 'provisolaw10.LexLines', WHERE WHAT IT READS IS OF BULK AT MOST 1048576: true; the input reads as it did. -/
def lexLinesUptoRow : OpenClaim := { program := "ythaejpkldpkddaa", sum := "cc578b2adba9bafbf3425fe5128f2b68e794072946e5ad706408342fe30ce339", func := "proviso/provisolaw10.LexLines", spec := "lexLines", apart := false, narrowed := true }
def LexLinesUptoSaid : Prop := lexLinesUptoRow.holds Try.pinned (OpenSpec.upto lexLinesSpec)

/-- 'provisolaw10.LexWords', WHERE WHAT IT READS IS OF BULK AT MOST 1048576: true; the input reads as it did. -/
def lexWordsUptoRow : OpenClaim := { program := "ythaejpkldpkddaa", sum := "cc578b2adba9bafbf3425fe5128f2b68e794072946e5ad706408342fe30ce339", func := "proviso/provisolaw10.LexWords", spec := "lexWords", apart := false, narrowed := true }
def LexWordsUptoSaid : Prop := lexWordsUptoRow.holds Try.pinned (OpenSpec.upto lexWordsSpec)

/-- 'provisolaw10.LexLost', WHERE WHAT IT READS IS OF BULK AT MOST 1048576: true; the input reads as it did. -/
def lexLostUptoRow : OpenClaim := { program := "ythaejpkldpkddaa", sum := "cc578b2adba9bafbf3425fe5128f2b68e794072946e5ad706408342fe30ce339", func := "proviso/provisolaw10.LexLost", spec := "lexLost", unfollowed := true, recurses := true, apart := false, narrowed := true }
def LexLostUptoSaid : Prop := lexLostUptoRow.holds Try.pinned (OpenSpec.upto lexLostSpec)

/-- 'provisolaw10.LexAlone', WHERE WHAT IT READS IS OF BULK AT MOST 1048576: true; the input reads as it did. -/
def lexAloneUptoRow : OpenClaim := { program := "ythaejpkldpkddaa", sum := "cc578b2adba9bafbf3425fe5128f2b68e794072946e5ad706408342fe30ce339", func := "proviso/provisolaw10.LexAlone", spec := "lexAlone", unfollowed := true, recurses := true, apart := false, narrowed := true }
def LexAloneUptoSaid : Prop := lexAloneUptoRow.holds Try.pinned (OpenSpec.upto lexAloneSpec)

/-- 'provisolaw10.LexScans', WHERE WHAT IT READS IS OF BULK AT MOST 1048576: true; the input reads as it did. -/
def lexScansUptoRow : OpenClaim := { program := "ythaejpkldpkddaa", sum := "cc578b2adba9bafbf3425fe5128f2b68e794072946e5ad706408342fe30ce339", func := "proviso/provisolaw10.LexScans", spec := "lexScans", unfollowed := true, recurses := true, apart := false, narrowed := true }
def LexScansUptoSaid : Prop := lexScansUptoRow.holds Try.pinned (OpenSpec.upto lexScansSpec)

/-- 'provisolaw10.LexBegins', WHERE WHAT IT READS IS OF BULK AT MOST 1048576: true; the input reads as it did. -/
def lexBeginsUptoRow : OpenClaim := { program := "ythaejpkldpkddaa", sum := "cc578b2adba9bafbf3425fe5128f2b68e794072946e5ad706408342fe30ce339", func := "proviso/provisolaw10.LexBegins", spec := "lexBegins", unfollowed := true, recurses := true, apart := false, narrowed := true }
def LexBeginsUptoSaid : Prop := lexBeginsUptoRow.holds Try.pinned (OpenSpec.upto lexBeginsSpec)

end Rows
end Go.Proofs.Ythaejpkldpkddaa
