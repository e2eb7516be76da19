/-
  No cell of these rows narrows 'for every input' (looked for: loops, veiled, ifaces, maps, wideKeys, modest, calm, conditions, laid).
  DERIVED. THE GIVEN ROWS OF THIS SEAT. 10 by the template 'for every input the law returns true; each argument reads behind the call as it read before'; 0 by the template 'total and deterministic' (their statements: YtfbdnfokoakfaaaTotals.lean).
  GIVEN WITH THE SEED: the statements are not yours to turn. If you find one false, say at which input.
  Laid BY PROGRAM, IN A SANDBOX (cutbox-rows.mjs): the forced cells as the released guide's own fill.sh prints them over the translation 974d97816bd8aa3d… (all of the seat's roots in one cut). By AI agents, Wed Nov 11 2026. No macro, syntax, notation, axiom, sorry.
-/
import Derived.Test.YtfbdnfokoakfaaaChecked
import GoSem.Claim
import GoSem.ClaimJoined
import GoSem.ClaimMapViews
import Derived.JoinedTies
import Derived.KernelRfl
namespace Go.Proofs.Ytfbdnfokoakfaaa
/- THE CELL 'sum', in the pinned program and in every row, IS THE sha256 OF THE DUMP (.gsa) THAT YtfbdnfokoakfaaaProg.lean LOADS. Nothing in Lean hashes anything: it is a label: what it is worth is what the hold of that sum in a sandbox is worth. -/
noncomputable def Try.pinned : Pinned := { name := "ytfbdnfokoakfaaa", sum := "974d97816bd8aa3dd6019a5c9c0cf7acc2736fab6b2b3dbeb7747f71c988ebd1", checked := Try.checked }
namespace Rows
def none {H : Type} : Left H := { results := [], args := [] }

/-- 'provisolaw06.CertChecks': WHATEVER THE INPUT: true; the input reads as it did. -/
def certChecksSpec : ChangeSpec := { name := "certChecks", fn := fun _ => fun
  | [d] => { results := [.lit (.bool true)], args := [d] }
  | _ => none }
def certChecksRow : OpenClaim := { program := "ytfbdnfokoakfaaa", sum := "974d97816bd8aa3dd6019a5c9c0cf7acc2736fab6b2b3dbeb7747f71c988ebd1", func := "proviso/provisolaw06.CertChecks", spec := "certChecks", apart := false }
def CertChecksSaid : Prop := certChecksRow.holds Try.pinned (OpenSpec.ofChange certChecksSpec)

/-- ITS FALSE NEIGHBOUR: 'it returns false'. Refute it at one input. -/
def certChecksWrong : ChangeSpec := { name := "certChecks", fn := fun _ => fun
  | [d] => { results := [.lit (.bool false)], args := [d] }
  | _ => none }
def CertChecksWrongFalsely : Prop := certChecksRow.holds Try.pinned (OpenSpec.ofChange certChecksWrong)

/-- 'provisolaw06.CertEncodes': WHATEVER THE INPUT: true; the input reads as it did. -/
def certEncodesSpec : ChangeSpec := { name := "certEncodes", fn := fun _ => fun
  | [d] => { results := [.lit (.bool true)], args := [d] }
  | _ => none }
def certEncodesRow : OpenClaim := { program := "ytfbdnfokoakfaaa", sum := "974d97816bd8aa3dd6019a5c9c0cf7acc2736fab6b2b3dbeb7747f71c988ebd1", func := "proviso/provisolaw06.CertEncodes", spec := "certEncodes", apart := false }
def CertEncodesSaid : Prop := certEncodesRow.holds Try.pinned (OpenSpec.ofChange certEncodesSpec)

/-- ITS FALSE NEIGHBOUR: 'it returns false'. Refute it at one input. -/
def certEncodesWrong : ChangeSpec := { name := "certEncodes", fn := fun _ => fun
  | [d] => { results := [.lit (.bool false)], args := [d] }
  | _ => none }
def CertEncodesWrongFalsely : Prop := certEncodesRow.holds Try.pinned (OpenSpec.ofChange certEncodesWrong)

/-- 'provisolaw06.CertNone': WHATEVER THE INPUT: true; the input reads as it did. -/
def certNoneSpec : ChangeSpec := { name := "certNone", fn := fun _ => fun
  | [d] => { results := [.lit (.bool true)], args := [d] }
  | _ => none }
def certNoneRow : OpenClaim := { program := "ytfbdnfokoakfaaa", sum := "974d97816bd8aa3dd6019a5c9c0cf7acc2736fab6b2b3dbeb7747f71c988ebd1", func := "proviso/provisolaw06.CertNone", spec := "certNone", apart := false }
def CertNoneSaid : Prop := certNoneRow.holds Try.pinned (OpenSpec.ofChange certNoneSpec)

/-- ITS FALSE NEIGHBOUR: 'it returns false'. Refute it at one input. -/
def certNoneWrong : ChangeSpec := { name := "certNone", fn := fun _ => fun
  | [d] => { results := [.lit (.bool false)], args := [d] }
  | _ => none }
def CertNoneWrongFalsely : Prop := certNoneRow.holds Try.pinned (OpenSpec.ofChange certNoneWrong)

/-- 'provisolaw06.CertOne': WHATEVER THE INPUT: true; the input reads as it did. -/
def certOneSpec : ChangeSpec := { name := "certOne", fn := fun _ => fun
  | [d] => { results := [.lit (.bool true)], args := [d] }
  | _ => none }
def certOneRow : OpenClaim := { program := "ytfbdnfokoakfaaa", sum := "974d97816bd8aa3dd6019a5c9c0cf7acc2736fab6b2b3dbeb7747f71c988ebd1", func := "proviso/provisolaw06.CertOne", spec := "certOne", unfollowed := true, recurses := true, apart := false }
def CertOneSaid : Prop := certOneRow.holds Try.pinned (OpenSpec.ofChange certOneSpec)

/-- ITS FALSE NEIGHBOUR: 'it returns false'. Refute it at one input. -/
def certOneWrong : ChangeSpec := { name := "certOne", fn := fun _ => fun
  | [d] => { results := [.lit (.bool false)], args := [d] }
  | _ => none }
def CertOneWrongFalsely : Prop := certOneRow.holds Try.pinned (OpenSpec.ofChange certOneWrong)

/-- 'provisolaw06.CertReads': WHATEVER THE INPUT: true; the input reads as it did. -/
def certReadsSpec : ChangeSpec := { name := "certReads", fn := fun _ => fun
  | [d1, d2] => { results := [.lit (.bool true)], args := [d1, d2] }
  | _ => none }
def certReadsRow : OpenClaim := { program := "ytfbdnfokoakfaaa", sum := "974d97816bd8aa3dd6019a5c9c0cf7acc2736fab6b2b3dbeb7747f71c988ebd1", func := "proviso/provisolaw06.CertReads", spec := "certReads", apart := false }
def CertReadsSaid : Prop := certReadsRow.holds Try.pinned (OpenSpec.ofChange certReadsSpec)

/-- ITS FALSE NEIGHBOUR: 'it returns false'. Refute it at one input. -/
def certReadsWrong : ChangeSpec := { name := "certReads", fn := fun _ => fun
  | [d1, d2] => { results := [.lit (.bool false)], args := [d1, d2] }
  | _ => none }
def CertReadsWrongFalsely : Prop := certReadsRow.holds Try.pinned (OpenSpec.ofChange certReadsWrong)

/-- 'provisolaw06.CertDecodes': WHATEVER THE INPUT: true; the input reads as it did. -/
def certDecodesSpec : ChangeSpec := { name := "certDecodes", fn := fun _ => fun
  | [d] => { results := [.lit (.bool true)], args := [d] }
  | _ => none }
def certDecodesRow : OpenClaim := { program := "ytfbdnfokoakfaaa", sum := "974d97816bd8aa3dd6019a5c9c0cf7acc2736fab6b2b3dbeb7747f71c988ebd1", func := "proviso/provisolaw06.CertDecodes", spec := "certDecodes", unfollowed := true, recurses := true, apart := false }
def CertDecodesSaid : Prop := certDecodesRow.holds Try.pinned (OpenSpec.ofChange certDecodesSpec)

/-- ITS FALSE NEIGHBOUR: 'it returns false'. Refute it at one input. -/
def certDecodesWrong : ChangeSpec := { name := "certDecodes", fn := fun _ => fun
  | [d] => { results := [.lit (.bool false)], args := [d] }
  | _ => none }
def CertDecodesWrongFalsely : Prop := certDecodesRow.holds Try.pinned (OpenSpec.ofChange certDecodesWrong)

/-- 'provisolaw06.CertFinds': WHATEVER THE INPUT: true; the input reads as it did. -/
def certFindsSpec : ChangeSpec := { name := "certFinds", fn := fun _ => fun
  | [d1, d2] => { results := [.lit (.bool true)], args := [d1, d2] }
  | _ => none }
def certFindsRow : OpenClaim := { program := "ytfbdnfokoakfaaa", sum := "974d97816bd8aa3dd6019a5c9c0cf7acc2736fab6b2b3dbeb7747f71c988ebd1", func := "proviso/provisolaw06.CertFinds", spec := "certFinds", unfollowed := true, recurses := true, apart := false }
def CertFindsSaid : Prop := certFindsRow.holds Try.pinned (OpenSpec.ofChange certFindsSpec)

/-- ITS FALSE NEIGHBOUR: 'it returns false'. Refute it at one input. -/
def certFindsWrong : ChangeSpec := { name := "certFinds", fn := fun _ => fun
  | [d1, d2] => { results := [.lit (.bool false)], args := [d1, d2] }
  | _ => none }
def CertFindsWrongFalsely : Prop := certFindsRow.holds Try.pinned (OpenSpec.ofChange certFindsWrong)

/-- 'provisolaw06.CertBack': WHATEVER THE INPUT: true; the input reads as it did. -/
def certBackSpec : ChangeSpec := { name := "certBack", fn := fun _ => fun
  | [d] => { results := [.lit (.bool true)], args := [d] }
  | _ => none }
def certBackRow : OpenClaim := { program := "ytfbdnfokoakfaaa", sum := "974d97816bd8aa3dd6019a5c9c0cf7acc2736fab6b2b3dbeb7747f71c988ebd1", func := "proviso/provisolaw06.CertBack", spec := "certBack", unfollowed := true, recurses := true, apart := false }
def CertBackSaid : Prop := certBackRow.holds Try.pinned (OpenSpec.ofChange certBackSpec)

/-- ITS FALSE NEIGHBOUR: 'it returns false'. Refute it at one input. -/
def certBackWrong : ChangeSpec := { name := "certBack", fn := fun _ => fun
  | [d] => { results := [.lit (.bool false)], args := [d] }
  | _ => none }
def CertBackWrongFalsely : Prop := certBackRow.holds Try.pinned (OpenSpec.ofChange certBackWrong)

/-- 'provisolaw06.CertBegins': WHATEVER THE INPUT: true; the input reads as it did. -/
def certBeginsSpec : ChangeSpec := { name := "certBegins", fn := fun _ => fun
  | [d1, d2, d3] => { results := [.lit (.bool true)], args := [d1, d2, d3] }
  | _ => none }
def certBeginsRow : OpenClaim := { program := "ytfbdnfokoakfaaa", sum := "974d97816bd8aa3dd6019a5c9c0cf7acc2736fab6b2b3dbeb7747f71c988ebd1", func := "proviso/provisolaw06.CertBegins", spec := "certBegins", unfollowed := true, recurses := true, apart := false }
def CertBeginsSaid : Prop := certBeginsRow.holds Try.pinned (OpenSpec.ofChange certBeginsSpec)

/-- ITS FALSE NEIGHBOUR: 'it returns false'. Refute it at one input. -/
def certBeginsWrong : ChangeSpec := { name := "certBegins", fn := fun _ => fun
  | [d1, d2, d3] => { results := [.lit (.bool false)], args := [d1, d2, d3] }
  | _ => none }
def CertBeginsWrongFalsely : Prop := certBeginsRow.holds Try.pinned (OpenSpec.ofChange certBeginsWrong)

/-- 'provisolaw06.CertForm': WHATEVER THE INPUT: true; the input reads as it did. -/
def certFormSpec : ChangeSpec := { name := "certForm", fn := fun _ => fun
  | [d] => { results := [.lit (.bool true)], args := [d] }
  | _ => none }
def certFormRow : OpenClaim := { program := "ytfbdnfokoakfaaa", sum := "974d97816bd8aa3dd6019a5c9c0cf7acc2736fab6b2b3dbeb7747f71c988ebd1", func := "proviso/provisolaw06.CertForm", spec := "certForm", unfollowed := true, recurses := true, apart := false }
def CertFormSaid : Prop := certFormRow.holds Try.pinned (OpenSpec.ofChange certFormSpec)

/-- ITS FALSE NEIGHBOUR: 'it returns false'. Refute it at one input. -/
def certFormWrong : ChangeSpec := { name := "certForm", fn := fun _ => fun
  | [d] => { results := [.lit (.bool false)], args := [d] }
  | _ => none }
def CertFormWrongFalsely : Prop := certFormRow.holds Try.pinned (OpenSpec.ofChange certFormWrong)

/- THE SECOND FORM. 'bulk': how many values and letters a reading holds, each counted each time it is reached (what is shared counts as often as it is met; a slice's spare places count too). A statement '..UptoSaid' is the law's where the arguments, and the package variables that the reading takes, are together of bulk at most 1048576: NARROWER than '..Said'. Prove '..Said' where nothing that the law and all that it calls make is longer than what came in: it says more and counts as full. Else prove '..UptoSaid'. A law counts once. -/
mutual
def uptoBulk {H : Type} : DataW H → Nat
  | .lit (.string bytes) => bytes.length + 1
  | .lit _ => 1
  | .nil => 1
  | .ptr d => uptoBulk d + 1
  | .slice elems spare => uptoBulkAll elems + uptoBulkAll spare + 1
  | .agg parts => uptoBulkAll parts + 1
  | .iface _ d => uptoBulk d + 1
  | .map entries => uptoBulkEntries entries + 1
  | .held _ => 1
def uptoBulkAll {H : Type} : List (DataW H) → Nat
  | [] => 0
  | d :: r => uptoBulk d + uptoBulkAll r
def uptoBulkEntries {H : Type} : List (Lit × DataW H) → Nat
  | [] => 0
  | x :: r => uptoBulkEntry x + uptoBulkEntries r
def uptoBulkEntry {H : Type} : Lit × DataW H → Nat
  | (.string bytes, d) => bytes.length + uptoBulk d + 1
  | (_, d) => uptoBulk d + 1
 end
def uptoSmall : (H : Type) → List (DataW H) → Bool := fun _ ds => decide (uptoBulkAll ds ≤ 1048576)
def OpenSpec.upto (s : _root_.Go.ChangeSpec) : _root_.Go.OpenSpec := { _root_.Go.OpenSpec.ofChange s with cond := some uptoSmall }

/-- 'provisolaw06.CertChecks', WHERE WHAT IT READS IS OF BULK AT MOST 1048576: true; the input reads as it did. -/
def certChecksUptoRow : OpenClaim := { program := "ytfbdnfokoakfaaa", sum := "974d97816bd8aa3dd6019a5c9c0cf7acc2736fab6b2b3dbeb7747f71c988ebd1", func := "proviso/provisolaw06.CertChecks", spec := "certChecks", apart := false, narrowed := true }
def CertChecksUptoSaid : Prop := certChecksUptoRow.holds Try.pinned (OpenSpec.upto certChecksSpec)

/-- 'provisolaw06.CertEncodes', WHERE WHAT IT READS IS OF BULK AT MOST 1048576: true; the input reads as it did. -/
def certEncodesUptoRow : OpenClaim := { program := "ytfbdnfokoakfaaa", sum := "974d97816bd8aa3dd6019a5c9c0cf7acc2736fab6b2b3dbeb7747f71c988ebd1", func := "proviso/provisolaw06.CertEncodes", spec := "certEncodes", apart := false, narrowed := true }
def CertEncodesUptoSaid : Prop := certEncodesUptoRow.holds Try.pinned (OpenSpec.upto certEncodesSpec)

/-- 'provisolaw06.CertNone', WHERE WHAT IT READS IS OF BULK AT MOST 1048576: true; the input reads as it did. -/
def certNoneUptoRow : OpenClaim := { program := "ytfbdnfokoakfaaa", sum := "974d97816bd8aa3dd6019a5c9c0cf7acc2736fab6b2b3dbeb7747f71c988ebd1", func := "proviso/provisolaw06.CertNone", spec := "certNone", apart := false, narrowed := true }
def CertNoneUptoSaid : Prop := certNoneUptoRow.holds Try.pinned (OpenSpec.upto certNoneSpec)

/-- 'provisolaw06.CertOne', WHERE WHAT IT READS IS OF BULK AT MOST 1048576: true; the input reads as it did. -/
def certOneUptoRow : OpenClaim := { program := "ytfbdnfokoakfaaa", sum := "974d97816bd8aa3dd6019a5c9c0cf7acc2736fab6b2b3dbeb7747f71c988ebd1", func := "proviso/provisolaw06.CertOne", spec := "certOne", unfollowed := true, recurses := true, apart := false, narrowed := true }
def CertOneUptoSaid : Prop := certOneUptoRow.holds Try.pinned (OpenSpec.upto certOneSpec)

/-- 'provisolaw06.CertReads', WHERE WHAT IT READS IS OF BULK AT MOST 1048576: true; the input reads as it did. -/
def certReadsUptoRow : OpenClaim := { program := "ytfbdnfokoakfaaa", sum := "974d97816bd8aa3dd6019a5c9c0cf7acc2736fab6b2b3dbeb7747f71c988ebd1", func := "proviso/provisolaw06.CertReads", spec := "certReads", apart := false, narrowed := true }
def CertReadsUptoSaid : Prop := certReadsUptoRow.holds Try.pinned (OpenSpec.upto certReadsSpec)

/-- 'provisolaw06.CertDecodes', WHERE WHAT IT READS IS OF BULK AT MOST 1048576: true; the input reads as it did. -/
def certDecodesUptoRow : OpenClaim := { program := "ytfbdnfokoakfaaa", sum := "974d97816bd8aa3dd6019a5c9c0cf7acc2736fab6b2b3dbeb7747f71c988ebd1", func := "proviso/provisolaw06.CertDecodes", spec := "certDecodes", unfollowed := true, recurses := true, apart := false, narrowed := true }
def CertDecodesUptoSaid : Prop := certDecodesUptoRow.holds Try.pinned (OpenSpec.upto certDecodesSpec)

/-- 'provisolaw06.CertFinds', WHERE WHAT IT READS IS OF BULK AT MOST 1048576: true; the input reads as it did. -/
def certFindsUptoRow : OpenClaim := { program := "ytfbdnfokoakfaaa", sum := "974d97816bd8aa3dd6019a5c9c0cf7acc2736fab6b2b3dbeb7747f71c988ebd1", func := "proviso/provisolaw06.CertFinds", spec := "certFinds", unfollowed := true, recurses := true, apart := false, narrowed := true }
def CertFindsUptoSaid : Prop := certFindsUptoRow.holds Try.pinned (OpenSpec.upto certFindsSpec)

/-- 'provisolaw06.CertBack', WHERE WHAT IT READS IS OF BULK AT MOST 1048576: true; the input reads as it did. -/
def certBackUptoRow : OpenClaim := { program := "ytfbdnfokoakfaaa", sum := "974d97816bd8aa3dd6019a5c9c0cf7acc2736fab6b2b3dbeb7747f71c988ebd1", func := "proviso/provisolaw06.CertBack", spec := "certBack", unfollowed := true, recurses := true, apart := false, narrowed := true }
def CertBackUptoSaid : Prop := certBackUptoRow.holds Try.pinned (OpenSpec.upto certBackSpec)

/-- 'provisolaw06.CertBegins', WHERE WHAT IT READS IS OF BULK AT MOST 1048576: true; the input reads as it did. -/
def certBeginsUptoRow : OpenClaim := { program := "ytfbdnfokoakfaaa", sum := "974d97816bd8aa3dd6019a5c9c0cf7acc2736fab6b2b3dbeb7747f71c988ebd1", func := "proviso/provisolaw06.CertBegins", spec := "certBegins", unfollowed := true, recurses := true, apart := false, narrowed := true }
def CertBeginsUptoSaid : Prop := certBeginsUptoRow.holds Try.pinned (OpenSpec.upto certBeginsSpec)

/-- 'provisolaw06.CertForm', WHERE WHAT IT READS IS OF BULK AT MOST 1048576: true; the input reads as it did. -/
def certFormUptoRow : OpenClaim := { program := "ytfbdnfokoakfaaa", sum := "974d97816bd8aa3dd6019a5c9c0cf7acc2736fab6b2b3dbeb7747f71c988ebd1", func := "proviso/provisolaw06.CertForm", spec := "certForm", unfollowed := true, recurses := true, apart := false, narrowed := true }
def CertFormUptoSaid : Prop := certFormUptoRow.holds Try.pinned (OpenSpec.upto certFormSpec)

end Rows
end Go.Proofs.Ytfbdnfokoakfaaa
