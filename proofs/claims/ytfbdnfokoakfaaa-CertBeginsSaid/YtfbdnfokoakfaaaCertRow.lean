/- A certificate among a row's data, opened. -/
import Derived.Test.YtfbdnfokoakfaaaCheckC
import Derived.Test.YtfbdnfokoakfaaaSliceRow
import Derived.Lib.SmallJoins
import Derived.OpenShut
import Derived.Deep.Strs
namespace Go.Proofs.Ytfbdnfokoakfaaa.Ct
open Go.ChangeShapes Go.WideShapes Go.RowKit Go.Proofs.YtfbdnfokoakfaaaW.PrintWords
set_option linter.unusedVariables false
set_option linter.unusedSimpArgs false

instance : Inhabited En := ⟨en0⟩
variable {H : Type} {enc : TypeId × Value → H} {W : World} {base : Nat} {sp : Nat → Bool} {held : Bool}

theorem u8_range {n : Int} (h : (Lit.int .u8 n).wf = true) : 0 ≤ n ∧ n ≤ 255 := by
  simp only [Lit.wf, Bool.and_eq_true, decide_eq_true_eq] at h
  exact h

theorem open40 (n : Nat) (cs : List Value) (x : DataW H × List MemPlace) (h : DataW.trod enc Try.prog W base sp held n 40 cs = some x) :
    ∃ s : List Int, cs = nums .u8 s ∧ s.length = 24 ∧ ∀ a, a ∈ s → 0 ≤ a ∧ a ≤ 255 := by
  obtain ⟨xs, m, _, _, hl, hxl, hf⟩ := DataW.trod_array Try.underlying40 h
  have hc40 : Try.prog.cellsOf 40 = 24 := by kernel_rfl
  have hc39 : Try.prog.cellsOf 39 = 1 := by kernel_rfl
  rw [hc40] at hl
  have each : ∀ i, i < 24 → ∃ a : Int, cs[i]? = some (.int .u8 a) ∧ 0 ≤ a ∧ a ≤ 255 := by
    intro i hi
    have h1 := hf i hi
    rw [hc39, Nat.mul_one] at h1
    obtain ⟨y, hy⟩ : ∃ y, xs[i]? = some y := ⟨_, List.getElem?_eq_getElem (by omega)⟩
    rw [hy] at h1
    obtain ⟨a, ha, _, hw⟩ := DataW.trod_int Try.underlying39 h1
    refine ⟨a, ?_, u8_range hw⟩
    have h2 : ((cs.drop i).take 1)[0]? = some (.int .u8 a) := by rw [ha]; rfl
    rw [List.getElem?_take, if_pos (by omega), List.getElem?_drop] at h2
    simpa using h2
  obtain ⟨f, hff⟩ := Deep.choose_lt each
  refine ⟨(List.range 24).map f, ?_, by simp, fun a ha => ?_⟩
  · apply List.ext_getElem?
    intro i
    by_cases hi : i < 24
    · rw [(hff i hi).1]
      simp [nums, hi]
    · rw [List.getElem?_eq_none (by omega), List.getElem?_eq_none (by simp [nums]; omega)]
  · obtain ⟨i, hi, rfl⟩ := List.mem_map.1 ha
    exact (hff i (by simpa using hi)).2

theorem open42 (n : Nat) (cs : List Value) (x : DataW H × List MemPlace) (hl : cs.length = 26) (h : DataW.trod enc Try.prog W base sp held n 42 cs = some x) :
    ∃ f : Fr, cs = frC f ∧ f.wf := by
  obtain ⟨y0, y1, y2, m, _, hlen, h0, h1, h2⟩ := Deep.trod_struct3 Try.underlying42 h
  match cs, hl with
  | v0 :: v1 :: r, hl =>
    obtain ⟨a0, e0, _, w0⟩ := DataW.trod_int (fuel := m) (cs := [v0]) (k := .i64) (t := 3) Try.underlying3 h0
    obtain ⟨a1, e1, _, w1⟩ := DataW.trod_int (fuel := m) (cs := [v1]) (k := .i64) (t := 3) Try.underlying3 h1
    simp at e0 e1
    subst e0 e1
    have hc40 : Try.prog.cellsOf 40 = 24 := by kernel_rfl
    have hr : r.length = 24 := by simpa using hl
    have h2' : DataW.trod enc Try.prog W base sp held m 40 r = some y2 := by
      have e : ((Value.int IntKind.i64 a0 :: Value.int IntKind.i64 a1 :: r).drop 2).take (Try.prog.cellsOf 40) = r := by
        rw [hc40]
        simp [List.take_of_length_le (Nat.le_of_eq hr)]
      rw [← e]
      exact h2
    obtain ⟨s, rfl, hs, hw⟩ := open40 m r y2 h2'
    exact ⟨⟨a0, a1, s⟩, rfl, hs, hw⟩

theorem open44 (n : Nat) (cs : List Value) (x : DataW H × List MemPlace) (hl : cs.length = kEn.sz) (h : DataW.trod enc Try.prog W base sp held n 44 cs = some x) :
    ∃ a : En, kEn.K W a cs ∧ True := by
  obtain ⟨y0, y1, y2, m, _, hlen, h0, h1, h2⟩ := Deep.trod_struct3 Try.underlying44 h
  have hl' : cs.length = 28 := hl
  match cs, hl' with
  | v0 :: v1 :: r, hl' =>
    obtain ⟨a0, e0, _, w0⟩ := DataW.trod_int (fuel := m) (cs := [v0]) (k := .i64) (t := 3) Try.underlying3 h0
    obtain ⟨b1, e1, _⟩ := DataW.trod_bool (fuel := m) (cs := [v1]) (t := 4) Try.underlying4 h1
    simp at e0 e1
    subst e0 e1
    have hc42 : Try.prog.cellsOf 42 = 26 := by kernel_rfl
    have hr : r.length = 26 := by simpa using hl'
    have h2' : DataW.trod enc Try.prog W base sp held m 42 r = some y2 := by
      have e : ((Value.int IntKind.i64 a0 :: Value.bool b1 :: r).drop 2).take (Try.prog.cellsOf 42) = r := by
        rw [hc42]
        simp [List.take_of_length_le (Nat.le_of_eq hr)]
      rw [← e]
      exact h2
    obtain ⟨f, rfl, hw⟩ := open42 m r y2 hr h2'
    exact ⟨⟨a0, b1, f⟩, ⟨rfl, hw⟩, trivial⟩

/-- The whole argument. -/
theorem open_cert {r : Reach} {b0 : Nat} {v : Value} {d : DataW H} {p : List MemPlace} {ts : List TypeId} {ds : List (DataW H)} {j : Nat}
    (hsz : (DataW.weightsEach Try.prog ts ds).all (· ≤ reachBytes) = true) (ht : ts[j]? = some 24) (hd : ds[j]? = some d)
    (hv : Value.okWide Try.prog W r b0 24 v) (h : DataW.Trod enc Try.prog W base sp held 24 v d p) :
    ∃ (L : Int) (A : Option Addr) (c : Nat) (l : List En), v = .agg #[.int .i64 L, .slice A l.length c] ∧ (Lit.int .i64 L).wf = true ∧ l.length * 56 ≤ 140737488351232 ∧ l.length ≤ c ∧ Kd.C kEn W A l.length l := by
  obtain ⟨c0, c1, y0, y1, m, rfl, rfl, rfl, hy0, hy1⟩ := Joins.open_agg2 Try.underlying24 (by kernel_rfl) (by kernel_rfl) hv h
  obtain ⟨L, e0, _, w0⟩ := DataW.trod_int (fuel := m) (cs := [c0]) (k := .i64) (t := 3) Try.underlying3 hy0
  simp at e0
  subst e0
  obtain ⟨A, len, c, rfl⟩ : ∃ A len c, c1 = .slice A len c := by
    rcases DataW.trod_slice (t := 22) Try.underlying22 hy1 with ⟨h1, _⟩ | ⟨a, len, cap, _, _, _, _, h1, _⟩
    · simp at h1; exact ⟨_, _, _, h1⟩
    · simp at h1; exact ⟨_, _, _, h1⟩
  have hT : DataW.Trod enc Try.prog W base sp held 22 (.slice A len c) y1.1 y1.2 := ⟨m, hy1⟩
  obtain ⟨l, rfl, hlc, _, hC, _⟩ := SliceRow.reads kEn (fun _ => True) (t := 22) (e := 44) Try.underlying22 (by kernel_rfl) (fun n cs x => open44 n cs x) hT
  refine ⟨L, A, c, l, rfl, w0, ?_, hlc, hC⟩
  have hb : Try.prog.bytesOf 44 = 56 := by kernel_rfl
  rcases Deep.open_slice (t := 22) Try.underlying22 hy1 with ⟨h1, _⟩ | ⟨a, l', c', m', n', D, Pl, hcs, _, _, _, _, hx, _⟩
  · simp at h1
    rw [h1.2.1]
    simp
  · simp at hcs
    obtain ⟨rfl, rfl, rfl⟩ := hcs
    have hw := DataW.weights_mem_each (P := Try.prog) ht hd ((((List.range l.length).map D).length + ((List.range (m' - l.length)).map fun j => D (l.length + j)).length) * Try.prog.bytesOf 44) (by
      rw [hx]
      simp [DataW.weights, Try.underlying24, Try.underlying22, DataW.weightsEach])
    have := List.all_eq_true.1 hsz _ hw
    rw [hb] at this
    simp [reachBytes, maxLen] at this
    omega
end Go.Proofs.Ytfbdnfokoakfaaa.Ct
