/- A slice argument of a row, of elements of whatever cells: what its elements are, and how long it is. -/
import Derived.Test.YtfbdnfokoakfaaaWWords
import Derived.SizedLaws
import Derived.Deep.Slices
namespace Go.Proofs.Ytfbdnfokoakfaaa.SliceRow
open Go.ChangeShapes Go.WideShapes Go.RowKit Go.Proofs.YtfbdnfokoakfaaaW.PrintWords
set_option linter.unusedVariables false

section
variable {H : Type} {enc : TypeId × Value → H} {P : Program} {w : World} {base : Nat} {spare : Nat → Bool} {held : Bool}

/-- The elements, as a list. -/
theorem reads {α : Type} [Inhabited α] (d : Kd α) (q : α → Prop) {t e : TypeId} (hu : P.underlying t = some (.slice e)) (hc : P.cellsOf e = d.sz)
    (ho : ∀ (n : Nat) (cs : List Value) (x : DataW H × List MemPlace), cs.length = d.sz → DataW.trod enc P w base spare held n e cs = some x → ∃ a, d.K w a cs ∧ q a)
    {A : Option Addr} {len cap : Nat} {x : DataW H} {ps : List MemPlace} (h : DataW.Trod enc P w base spare held t (.slice A len cap) x ps) :
    ∃ l : List α, l.length = len ∧ len ≤ cap ∧ cap ≤ 9223372036854775807 ∧ Kd.C d w A l.length l ∧ ∀ a, a ∈ l → q a := by
  obtain ⟨fuel, hf⟩ := h
  rcases Deep.open_slice hu hf with ⟨hcs, _⟩ | ⟨a, l, c, m, n, D, Pl, hcs, hb, hl, hm, hmm, _, hx⟩
  · simp [Value.cells] at hcs
    obtain ⟨rfl, rfl, rfl⟩ := hcs
    exact ⟨[], rfl, Nat.le_refl _, by omega, ⟨rfl, by simp, fun h => by simp at h⟩, fun a ha => by simp at ha⟩
  · simp [Value.cells] at hcs
    obtain ⟨rfl, rfl, rfl⟩ := hcs
    have hle : len ≤ m := by rw [hmm]; split <;> omega
    have each : ∀ i, i < len → ∃ a' : α, q a' ∧ ∃ cs, cs.length = d.sz ∧ d.K w a' cs ∧ ∀ j u, cs[j]? = some u → w.cell? (a.add (i * d.sz + j)) = some u := by
      intro i hi
      obtain ⟨cs, h1, h2⟩ := hx i (by omega)
      rw [hc] at h1
      obtain ⟨_, hlen, hcell⟩ := World.cells?_some h1
      obtain ⟨a', hk, hq⟩ := ho n cs _ hlen h2
      refine ⟨a', hq, cs, hlen, hk, fun j u hj => ?_⟩
      obtain ⟨hj', hj2⟩ := List.getElem?_eq_some_iff.1 hj
      have := hcell j (by omega)
      rw [Deep.add_add] at this
      rw [this, hj]
    obtain ⟨f, hf2⟩ := Deep.choose_lt each
    refine ⟨(List.range len).map f, by simp, hl, by simp only [maxLen] at hm; omega, ⟨rfl, by simp only [maxLen] at hm; simp; omega, fun _ => ⟨a, rfl, fun j p hj => ?_⟩⟩, fun a' ha => ?_⟩
    · rw [List.getElem?_map] at hj
      obtain ⟨i, hi, rfl⟩ := Option.map_eq_some_iff.1 hj
      obtain ⟨hi1, hi2⟩ := List.getElem?_eq_some_iff.1 hi
      simp at hi2 hi1
      subst hi2
      obtain ⟨_, cs, h1, h2, h3⟩ := hf2 j hi1
      exact ⟨cs, h1, h2, h3⟩
    · obtain ⟨i, hi, rfl⟩ := List.mem_map.1 ha
      exact (hf2 i (by simpa using hi)).1

/-- How long it is. -/
theorem sized {t e : TypeId} {A : Option Addr} {len cap : Nat} {x : DataW H} {ps : List MemPlace} {ts : List TypeId} {ds : List (DataW H)} {j : Nat}
    (hsz : (DataW.weightsEach P ts ds).all (· ≤ reachBytes) = true) (ht : ts[j]? = some t) (hd : ds[j]? = some x) (hu : P.underlying t = some (.slice e)) {B : Nat} (hB : P.bytesOf e = B)
    (h : DataW.Trod enc P w base spare held t (.slice A len cap) x ps) : len * B ≤ 140737488351232 := by
  obtain ⟨fuel, hf⟩ := h
  rcases Deep.open_slice hu hf with ⟨hcs, _⟩ | ⟨a, l, c, m, n, D, Pl, hcs, hb, hl, hm, hmm, hx, _⟩
  · simp [Value.cells] at hcs
    obtain ⟨rfl, rfl, rfl⟩ := hcs
    simp
  · simp [Value.cells] at hcs
    obtain ⟨rfl, rfl, rfl⟩ := hcs
    obtain ⟨hx, _⟩ := Prod.mk.inj hx
    subst hx
    have z := sized_slice hsz ht hd hu
    rw [hB] at z
    simp only [List.length_map, List.length_range] at z
    exact Nat.le_trans (Nat.mul_le_mul_right _ (by omega)) z
end
end Go.Proofs.Ytfbdnfokoakfaaa.SliceRow
