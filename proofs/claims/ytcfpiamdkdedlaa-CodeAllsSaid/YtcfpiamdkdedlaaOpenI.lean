/- An instruction among a row's data, opened. -/
import Derived.Test.YtcfpiamdkdedlaaAllsLaw
import Derived.Test.YtcfpiamdkdedlaaSliceRow
import Derived.Lib.SmallJoins
namespace Go.Proofs.Ytcfpiamdkdedlaa.AllsLaw
open Go.ChangeShapes Go.WideShapes Go.RowKit Go.Proofs.YtcfpiamdkdedlaaW.PrintWords Go.Proofs.Ytcfpiamdkdedlaa.PCodeAlls
set_option linter.unusedVariables false
set_option linter.unusedSimpArgs false

instance : Inhabited S29 := ⟨z29⟩
theorem open29 {H : Type} {enc : TypeId × Value → H} {W : World} {base : Nat} {sp : Nat → Bool} {held : Bool} (n : Nat) (cs : List Value) (x : DataW H × List MemPlace) (hl : cs.length = k29.sz) (h : DataW.trod enc Try.prog W base sp held n 29 cs = some x) :
    ∃ a : S29, k29.K W a cs ∧ (0 ≤ a.f1 ∧ a.f1 ≤ 255) := by
  obtain ⟨y0, y1, y2, y3, m, _, hlen, h0, h1, h2, h3⟩ := Joins.trod_struct4 Try.underlying29 h
  have hl4 : cs.length = 4 := hl
  match cs, hl4 with
  | [v0, v1, v2, v3], _ =>
    obtain ⟨a0, e0, _, w0⟩ := DataW.trod_int (fuel := m) (cs := [v0]) (k := .i64) (t := 3) Try.underlying3 h0
    obtain ⟨a1, e1, _, w1⟩ := DataW.trod_int (fuel := m) (cs := [v1]) (k := .u8) (t := 5) Try.underlying5 h1
    obtain ⟨a2, e2, _, w2⟩ := DataW.trod_int (fuel := m) (cs := [v2]) (k := .i64) (t := 3) Try.underlying3 h2
    obtain ⟨a3, e3, _, w3⟩ := DataW.trod_int (fuel := m) (cs := [v3]) (k := .i64) (t := 3) Try.underlying3 h3
    simp at e0 e1 e2 e3
    subst e0 e1 e2 e3
    refine ⟨⟨a0, a1, a2, a3⟩, k29_mk W ⟨a0, a1, a2, a3⟩, ?_⟩
    exact AllsPure.u8_range w1
theorem alls_row (A : Option Addr) (c : Nat) (l : List S29) (w : World) (hl : l.length * 32 ≤ 140737488351232) (hc : l.length ≤ c) (hr : Kd.C k29 w A l.length l) (hb : ∀ x, x ∈ l → 0 ≤ x.f1 ∧ x.f1 ≤ 255) :
    Calls Try.prog 6 #[.slice A l.length c] w fun e w' => e = .returned (.bool true) ∧ Below w.heap.size w w' := alls_law A c l w hr hc hl hb
end Go.Proofs.Ytcfpiamdkdedlaa.AllsLaw
