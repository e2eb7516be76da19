/-
  No cell of these rows narrows 'for every input' (looked for: loops, veiled, ifaces, maps, wideKeys, modest, calm, conditions, laid).
  DERIVED. THE GIVEN ROWS OF THIS SEAT. 8 by the template 'for every input the law returns true; each argument reads behind the call as it read before'; 0 by the template 'total and deterministic' (their statements: YtcfpiamdkdedlaaTotals.lean).
  GIVEN WITH THE SEED: the statements are not yours to turn. If you find one false, say at which input.
  Laid BY PROGRAM, IN A SANDBOX (cutbox-rows.mjs): the forced cells as the released guide's own fill.sh prints them over the translation e682f8b9a646890b… (all of the seat's roots in one cut). By AI agents, Wed Nov 11 2026. No macro, syntax, notation, axiom, sorry.
-/
import Derived.Test.YtcfpiamdkdedlaaChecked
import GoSem.Claim
import GoSem.ClaimJoined
import GoSem.ClaimMapViews
import Derived.JoinedTies
import Derived.KernelRfl
namespace Go.Proofs.Ytcfpiamdkdedlaa
/- THE CELL 'sum', in the pinned program and in every row, IS THE sha256 OF THE DUMP (.gsa) THAT YtcfpiamdkdedlaaProg.lean LOADS. Nothing in Lean hashes anything: it is a label: what it is worth is what the hold of that sum in a sandbox is worth. -/
noncomputable def Try.pinned : Pinned := { name := "ytcfpiamdkdedlaa", sum := "e682f8b9a646890b9746320a168ef805fb6e324fe888301d48527c9c1d8ca776", checked := Try.checked }
namespace Rows
def none {H : Type} : Left H := { results := [], args := [] }

/-- 'provisolaw04.CodeWords': WHATEVER THE INPUT: true; the input reads as it did. -/
def codeWordsSpec : ChangeSpec := { name := "codeWords", fn := fun _ => fun
  | [d1, d2] => { results := [.lit (.bool true)], args := [d1, d2] }
  | _ => none }
def codeWordsRow : OpenClaim := { program := "ytcfpiamdkdedlaa", sum := "e682f8b9a646890b9746320a168ef805fb6e324fe888301d48527c9c1d8ca776", func := "proviso/provisolaw04.CodeWords", spec := "codeWords", apart := false }
def CodeWordsSaid : Prop := codeWordsRow.holds Try.pinned (OpenSpec.ofChange codeWordsSpec)

/-- ITS FALSE NEIGHBOUR: 'it returns false'. Refute it at one input. -/
def codeWordsWrong : ChangeSpec := { name := "codeWords", fn := fun _ => fun
  | [d1, d2] => { results := [.lit (.bool false)], args := [d1, d2] }
  | _ => none }
def CodeWordsWrongFalsely : Prop := codeWordsRow.holds Try.pinned (OpenSpec.ofChange codeWordsWrong)

/-- 'provisolaw04.CodeEncodes': WHATEVER THE INPUT: true; the input reads as it did. -/
def codeEncodesSpec : ChangeSpec := { name := "codeEncodes", fn := fun _ => fun
  | [d] => { results := [.lit (.bool true)], args := [d] }
  | _ => none }
def codeEncodesRow : OpenClaim := { program := "ytcfpiamdkdedlaa", sum := "e682f8b9a646890b9746320a168ef805fb6e324fe888301d48527c9c1d8ca776", func := "proviso/provisolaw04.CodeEncodes", spec := "codeEncodes", apart := false }
def CodeEncodesSaid : Prop := codeEncodesRow.holds Try.pinned (OpenSpec.ofChange codeEncodesSpec)

/-- ITS FALSE NEIGHBOUR: 'it returns false'. Refute it at one input. -/
def codeEncodesWrong : ChangeSpec := { name := "codeEncodes", fn := fun _ => fun
  | [d] => { results := [.lit (.bool false)], args := [d] }
  | _ => none }
def CodeEncodesWrongFalsely : Prop := codeEncodesRow.holds Try.pinned (OpenSpec.ofChange codeEncodesWrong)

/-- 'provisolaw04.CodeDecodes': WHATEVER THE INPUT: true; the input reads as it did. -/
def codeDecodesSpec : ChangeSpec := { name := "codeDecodes", fn := fun _ => fun
  | [d1, d2] => { results := [.lit (.bool true)], args := [d1, d2] }
  | _ => none }
def codeDecodesRow : OpenClaim := { program := "ytcfpiamdkdedlaa", sum := "e682f8b9a646890b9746320a168ef805fb6e324fe888301d48527c9c1d8ca776", func := "proviso/provisolaw04.CodeDecodes", spec := "codeDecodes", unfollowed := true, recurses := true, apart := false }
def CodeDecodesSaid : Prop := codeDecodesRow.holds Try.pinned (OpenSpec.ofChange codeDecodesSpec)

/-- ITS FALSE NEIGHBOUR: 'it returns false'. Refute it at one input. -/
def codeDecodesWrong : ChangeSpec := { name := "codeDecodes", fn := fun _ => fun
  | [d1, d2] => { results := [.lit (.bool false)], args := [d1, d2] }
  | _ => none }
def CodeDecodesWrongFalsely : Prop := codeDecodesRow.holds Try.pinned (OpenSpec.ofChange codeDecodesWrong)

/-- 'provisolaw04.CodeAlls': WHATEVER THE INPUT: true; the input reads as it did. -/
def codeAllsSpec : ChangeSpec := { name := "codeAlls", fn := fun _ => fun
  | [d] => { results := [.lit (.bool true)], args := [d] }
  | _ => none }
def codeAllsRow : OpenClaim := { program := "ytcfpiamdkdedlaa", sum := "e682f8b9a646890b9746320a168ef805fb6e324fe888301d48527c9c1d8ca776", func := "proviso/provisolaw04.CodeAlls", spec := "codeAlls", apart := false }
def CodeAllsSaid : Prop := codeAllsRow.holds Try.pinned (OpenSpec.ofChange codeAllsSpec)

/-- ITS FALSE NEIGHBOUR: 'it returns false'. Refute it at one input. -/
def codeAllsWrong : ChangeSpec := { name := "codeAlls", fn := fun _ => fun
  | [d] => { results := [.lit (.bool false)], args := [d] }
  | _ => none }
def CodeAllsWrongFalsely : Prop := codeAllsRow.holds Try.pinned (OpenSpec.ofChange codeAllsWrong)

/-- 'provisolaw04.CodeApart': WHATEVER THE INPUT: true; the input reads as it did. -/
def codeApartSpec : ChangeSpec := { name := "codeApart", fn := fun _ => fun
  | [d1, d2] => { results := [.lit (.bool true)], args := [d1, d2] }
  | _ => none }
def codeApartRow : OpenClaim := { program := "ytcfpiamdkdedlaa", sum := "e682f8b9a646890b9746320a168ef805fb6e324fe888301d48527c9c1d8ca776", func := "proviso/provisolaw04.CodeApart", spec := "codeApart", apart := false }
def CodeApartSaid : Prop := codeApartRow.holds Try.pinned (OpenSpec.ofChange codeApartSpec)

/-- ITS FALSE NEIGHBOUR: 'it returns false'. Refute it at one input. -/
def codeApartWrong : ChangeSpec := { name := "codeApart", fn := fun _ => fun
  | [d1, d2] => { results := [.lit (.bool false)], args := [d1, d2] }
  | _ => none }
def CodeApartWrongFalsely : Prop := codeApartRow.holds Try.pinned (OpenSpec.ofChange codeApartWrong)

/-- 'provisolaw04.CodeBack': WHATEVER THE INPUT: true; the input reads as it did. -/
def codeBackSpec : ChangeSpec := { name := "codeBack", fn := fun _ => fun
  | [d1, d2, d3] => { results := [.lit (.bool true)], args := [d1, d2, d3] }
  | _ => none }
def codeBackRow : OpenClaim := { program := "ytcfpiamdkdedlaa", sum := "e682f8b9a646890b9746320a168ef805fb6e324fe888301d48527c9c1d8ca776", func := "proviso/provisolaw04.CodeBack", spec := "codeBack", unfollowed := true, recurses := true, apart := false }
def CodeBackSaid : Prop := codeBackRow.holds Try.pinned (OpenSpec.ofChange codeBackSpec)

/-- ITS FALSE NEIGHBOUR: 'it returns false'. Refute it at one input. -/
def codeBackWrong : ChangeSpec := { name := "codeBack", fn := fun _ => fun
  | [d1, d2, d3] => { results := [.lit (.bool false)], args := [d1, d2, d3] }
  | _ => none }
def CodeBackWrongFalsely : Prop := codeBackRow.holds Try.pinned (OpenSpec.ofChange codeBackWrong)

/-- 'provisolaw04.CodeForm': WHATEVER THE INPUT: true; the input reads as it did. -/
def codeFormSpec : ChangeSpec := { name := "codeForm", fn := fun _ => fun
  | [d1, d2] => { results := [.lit (.bool true)], args := [d1, d2] }
  | _ => none }
def codeFormRow : OpenClaim := { program := "ytcfpiamdkdedlaa", sum := "e682f8b9a646890b9746320a168ef805fb6e324fe888301d48527c9c1d8ca776", func := "proviso/provisolaw04.CodeForm", spec := "codeForm", unfollowed := true, recurses := true, apart := false }
def CodeFormSaid : Prop := codeFormRow.holds Try.pinned (OpenSpec.ofChange codeFormSpec)

/-- ITS FALSE NEIGHBOUR: 'it returns false'. Refute it at one input. -/
def codeFormWrong : ChangeSpec := { name := "codeForm", fn := fun _ => fun
  | [d1, d2] => { results := [.lit (.bool false)], args := [d1, d2] }
  | _ => none }
def CodeFormWrongFalsely : Prop := codeFormRow.holds Try.pinned (OpenSpec.ofChange codeFormWrong)

/-- 'provisolaw04.CodePatches': WHATEVER THE INPUT: true; the input reads as it did. -/
def codePatchesSpec : ChangeSpec := { name := "codePatches", fn := fun _ => fun
  | [d1, d2, d3] => { results := [.lit (.bool true)], args := [d1, d2, d3] }
  | _ => none }
def codePatchesRow : OpenClaim := { program := "ytcfpiamdkdedlaa", sum := "e682f8b9a646890b9746320a168ef805fb6e324fe888301d48527c9c1d8ca776", func := "proviso/provisolaw04.CodePatches", spec := "codePatches", unfollowed := true, recurses := true, apart := false }
def CodePatchesSaid : Prop := codePatchesRow.holds Try.pinned (OpenSpec.ofChange codePatchesSpec)

/-- ITS FALSE NEIGHBOUR: 'it returns false'. Refute it at one input. -/
def codePatchesWrong : ChangeSpec := { name := "codePatches", fn := fun _ => fun
  | [d1, d2, d3] => { results := [.lit (.bool false)], args := [d1, d2, d3] }
  | _ => none }
def CodePatchesWrongFalsely : Prop := codePatchesRow.holds Try.pinned (OpenSpec.ofChange codePatchesWrong)

/- THE SECOND FORM. 'bulk': how many values and letters a reading holds, each counted each time it is reached (what is shared counts as often as it is met; a slice's spare places count too). A statement '..UptoSaid' is the law's where the arguments, and the package variables that the reading takes, are together of bulk at most 1048576: NARROWER than '..Said'. Prove '..Said' where nothing that the law and all that it calls make is longer than what came in: it says more and counts as full. Else prove '..UptoSaid'. A law counts once. -/
mutual
def uptoBulk {H : Type} : DataW H → Nat
  | .lit (.string bytes) => bytes.length + 1
  | .lit _ => 1
  | .nil => 1
  | .ptr d => uptoBulk d + 1
  | .slice elems spare => uptoBulkAll elems + uptoBulkAll spare + 1
  | .agg parts => uptoBulkAll parts + 1
  | .iface _ d => uptoBulk d + 1
  | .map entries => uptoBulkEntries entries + 1
  | .held _ => 1
def uptoBulkAll {H : Type} : List (DataW H) → Nat
  | [] => 0
  | d :: r => uptoBulk d + uptoBulkAll r
def uptoBulkEntries {H : Type} : List (Lit × DataW H) → Nat
  | [] => 0
  | x :: r => uptoBulkEntry x + uptoBulkEntries r
def uptoBulkEntry {H : Type} : Lit × DataW H → Nat
  | (.string bytes, d) => bytes.length + uptoBulk d + 1
  | (_, d) => uptoBulk d + 1
 end
def uptoSmall : (H : Type) → List (DataW H) → Bool := fun _ ds => decide (uptoBulkAll ds ≤ 1048576)
def OpenSpec.upto (s : _root_.Go.ChangeSpec) : _root_.Go.OpenSpec := { _root_.Go.OpenSpec.ofChange s with cond := some uptoSmall }

/-- 'provisolaw04.CodeWords', WHERE WHAT IT READS IS OF BULK AT MOST 1048576: true; the input reads as it did. -/
def codeWordsUptoRow : OpenClaim := { program := "ytcfpiamdkdedlaa", sum := "e682f8b9a646890b9746320a168ef805fb6e324fe888301d48527c9c1d8ca776", func := "proviso/provisolaw04.CodeWords", spec := "codeWords", apart := false, narrowed := true }
def CodeWordsUptoSaid : Prop := codeWordsUptoRow.holds Try.pinned (OpenSpec.upto codeWordsSpec)

/-- 'provisolaw04.CodeEncodes', WHERE WHAT IT READS IS OF BULK AT MOST 1048576: true; the input reads as it did. -/
def codeEncodesUptoRow : OpenClaim := { program := "ytcfpiamdkdedlaa", sum := "e682f8b9a646890b9746320a168ef805fb6e324fe888301d48527c9c1d8ca776", func := "proviso/provisolaw04.CodeEncodes", spec := "codeEncodes", apart := false, narrowed := true }
def CodeEncodesUptoSaid : Prop := codeEncodesUptoRow.holds Try.pinned (OpenSpec.upto codeEncodesSpec)

/-- 'provisolaw04.CodeDecodes', WHERE WHAT IT READS IS OF BULK AT MOST 1048576: true; the input reads as it did. -/
def codeDecodesUptoRow : OpenClaim := { program := "ytcfpiamdkdedlaa", sum := "e682f8b9a646890b9746320a168ef805fb6e324fe888301d48527c9c1d8ca776", func := "proviso/provisolaw04.CodeDecodes", spec := "codeDecodes", unfollowed := true, recurses := true, apart := false, narrowed := true }
def CodeDecodesUptoSaid : Prop := codeDecodesUptoRow.holds Try.pinned (OpenSpec.upto codeDecodesSpec)

/-- 'provisolaw04.CodeAlls', WHERE WHAT IT READS IS OF BULK AT MOST 1048576: true; the input reads as it did. -/
def codeAllsUptoRow : OpenClaim := { program := "ytcfpiamdkdedlaa", sum := "e682f8b9a646890b9746320a168ef805fb6e324fe888301d48527c9c1d8ca776", func := "proviso/provisolaw04.CodeAlls", spec := "codeAlls", apart := false, narrowed := true }
def CodeAllsUptoSaid : Prop := codeAllsUptoRow.holds Try.pinned (OpenSpec.upto codeAllsSpec)

/-- 'provisolaw04.CodeApart', WHERE WHAT IT READS IS OF BULK AT MOST 1048576: true; the input reads as it did. -/
def codeApartUptoRow : OpenClaim := { program := "ytcfpiamdkdedlaa", sum := "e682f8b9a646890b9746320a168ef805fb6e324fe888301d48527c9c1d8ca776", func := "proviso/provisolaw04.CodeApart", spec := "codeApart", apart := false, narrowed := true }
def CodeApartUptoSaid : Prop := codeApartUptoRow.holds Try.pinned (OpenSpec.upto codeApartSpec)

/-- 'provisolaw04.CodeBack', WHERE WHAT IT READS IS OF BULK AT MOST 1048576: true; the input reads as it did. -/
def codeBackUptoRow : OpenClaim := { program := "ytcfpiamdkdedlaa", sum := "e682f8b9a646890b9746320a168ef805fb6e324fe888301d48527c9c1d8ca776", func := "proviso/provisolaw04.CodeBack", spec := "codeBack", unfollowed := true, recurses := true, apart := false, narrowed := true }
def CodeBackUptoSaid : Prop := codeBackUptoRow.holds Try.pinned (OpenSpec.upto codeBackSpec)

/-- 'provisolaw04.CodeForm', WHERE WHAT IT READS IS OF BULK AT MOST 1048576: true; the input reads as it did. -/
def codeFormUptoRow : OpenClaim := { program := "ytcfpiamdkdedlaa", sum := "e682f8b9a646890b9746320a168ef805fb6e324fe888301d48527c9c1d8ca776", func := "proviso/provisolaw04.CodeForm", spec := "codeForm", unfollowed := true, recurses := true, apart := false, narrowed := true }
def CodeFormUptoSaid : Prop := codeFormUptoRow.holds Try.pinned (OpenSpec.upto codeFormSpec)

/-- 'provisolaw04.CodePatches', WHERE WHAT IT READS IS OF BULK AT MOST 1048576: true; the input reads as it did. -/
def codePatchesUptoRow : OpenClaim := { program := "ytcfpiamdkdedlaa", sum := "e682f8b9a646890b9746320a168ef805fb6e324fe888301d48527c9c1d8ca776", func := "proviso/provisolaw04.CodePatches", spec := "codePatches", unfollowed := true, recurses := true, apart := false, narrowed := true }
def CodePatchesUptoSaid : Prop := codePatchesUptoRow.holds Try.pinned (OpenSpec.upto codePatchesSpec)

end Rows
end Go.Proofs.Ytcfpiamdkdedlaa
