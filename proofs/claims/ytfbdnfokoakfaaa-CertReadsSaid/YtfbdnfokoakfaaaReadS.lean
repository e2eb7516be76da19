/- What a reader of a certificate's bytes tells, as plain functions. -/
import Derived.Test.YtfbdnfokoakfaaaCertS
namespace Go.Proofs.Ytfbdnfokoakfaaa.Ct
open Go.RowKit Go.Proofs.YtfbdnfokoakfaaaW.PrintWords
set_option linter.unusedVariables false
set_option linter.unusedSimpArgs false

def gB (b : List Int) (i : Nat) : Int := b.getD i 0
/-- What the head says: locals and count; else the place and the error. -/
def headS (b : List Int) : (Int × Int) ⊕ (Int × Nat) :=
  if b.length = 0 then .inl (0, 2) else if gB b 0 ≠ 112 then .inl (0, 64)
  else if b.length = 1 then .inl (1, 2) else if gB b 1 ≠ 118 then .inl (1, 64)
  else if b.length = 2 then .inl (2, 2) else if gB b 2 ≠ 1 then .inl (2, 64)
  else if b.length < 6 then .inl ((b.length : Int), 2)
  else if 16 < gB b 3 then .inl (3, 5)
  else if 4096 < gB b 4 * 256 + gB b 5 then .inl (4, 4)
  else .inr (gB b 3, (gB b 4 * 256 + gB b 5).toNat)

/-- The slots from q on, of which m are still to come: where they end; else the place and the error. -/
def slotsS (b : List Int) : Nat → Nat → Option (Int × Int)
  | 0, _ => none
  | m + 1, q => if q = b.length then some ((q : Int), 2) else if knownB (gB b q) = true then slotsS b m (q + 1) else some ((q : Int), 62)
def padS (s : List Int) : List Int := s ++ List.replicate (24 - s.length) 0
/-- The entry at p, behind the address last; the place behind it; else the place and the error. -/
def oneS (b : List Int) (L : Int) (p : Nat) (last : Int) : (Int × Int) ⊕ (En × Nat) :=
  if b.length < p + 2 then .inl ((b.length : Int), 2)
  else if risesS last (gB b p * 256 + gB b (p + 1)) ≠ 0 then .inl ((p : Int), risesS last (gB b p * 256 + gB b (p + 1)))
  else if p + 2 = b.length then .inl ((b.length : Int), 2)
  else if 1 < gB b (p + 2) then .inl ((p : Int) + 2, 63)
  else if gB b (p + 2) = 0 then .inr (⟨gB b p * 256 + gB b (p + 1), true, fr0⟩, p + 3)
  else if p + 3 = b.length then .inl ((b.length : Int), 2)
  else if 24 < L + gB b (p + 3) then .inl ((p : Int) + 3, 65)
  else match slotsS b (L + gB b (p + 3)).toNat (p + 4) with
    | some x => .inl x
    | none => .inr (⟨gB b p * 256 + gB b (p + 1), false, ⟨L, gB b (p + 3), padS ((b.drop (p + 4)).take (L + gB b (p + 3)).toNat)⟩⟩, p + 4 + (L + gB b (p + 3)).toNat)

theorem gB_range (b : List Int) (hb : ∀ x, x ∈ b → 0 ≤ x ∧ x ≤ 255) (i : Nat) : 0 ≤ gB b i ∧ gB b i ≤ 255 := by
  unfold gB
  rw [List.getD_eq_getElem?_getD]
  by_cases h : i < b.length
  · rw [List.getElem?_eq_getElem h]
    exact hb _ (List.getElem_mem h)
  · rw [List.getElem?_eq_none (by omega)]
    simp
theorem slotsS_le (b : List Int) : ∀ (m q : Nat), q ≤ b.length → slotsS b m q = none → q + m ≤ b.length
  | 0, q, h, _ => by omega
  | m + 1, q, h, e => by
    rw [slotsS] at e
    by_cases c : q = b.length
    · rw [if_pos c] at e; cases e
    · rw [if_neg c] at e
      by_cases d : knownB (gB b q) = true
      · rw [if_pos d] at e
        have := slotsS_le b m (q + 1) (by omega) e
        omega
      · rw [if_neg d] at e; cases e
theorem oneS_next (b : List Int) (L : Int) (p : Nat) (last : Int) (x : En) (q : Nat) (h0 : 0 ≤ L) (hb : ∀ x, x ∈ b → 0 ≤ x ∧ x ≤ 255) (h : oneS b L p last = .inr (x, q)) : p < q ∧ q ≤ b.length ∧ x.fr.wf := by
  unfold oneS at h
  by_cases c1 : b.length < p + 2
  · rw [if_pos c1] at h; cases h
  rw [if_neg c1] at h
  by_cases c2 : risesS last (gB b p * 256 + gB b (p + 1)) ≠ 0
  · rw [if_pos c2] at h; cases h
  rw [if_neg c2] at h
  by_cases c3 : p + 2 = b.length
  · rw [if_pos c3] at h; cases h
  rw [if_neg c3] at h
  by_cases c4 : 1 < gB b (p + 2)
  · rw [if_pos c4] at h; cases h
  rw [if_neg c4] at h
  by_cases c5 : gB b (p + 2) = 0
  · rw [if_pos c5] at h
    cases h
    exact ⟨by omega, by omega, fr0_wf⟩
  rw [if_neg c5] at h
  by_cases c6 : p + 3 = b.length
  · rw [if_pos c6] at h; cases h
  rw [if_neg c6] at h
  by_cases c7 : 24 < L + gB b (p + 3)
  · rw [if_pos c7] at h; cases h
  rw [if_neg c7] at h
  have hr := gB_range b hb (p + 3)
  cases hs : slotsS b (L + gB b (p + 3)).toNat (p + 4) with
  | some x => rw [hs] at h; cases h
  | none =>
    rw [hs] at h
    cases h
    have hle := slotsS_le b _ _ (by omega) hs
    refine ⟨by omega, by omega, ?_, ?_⟩
    · show (padS _).length = 24
      unfold padS
      rw [List.length_append, List.length_replicate, List.length_take, List.length_drop]
      omega
    · intro t ht
      have ht' : t ∈ padS ((b.drop (p + 4)).take (L + gB b (p + 3)).toNat) := ht
      unfold padS at ht'
      rcases List.mem_append.1 ht' with h1 | h1
      · exact hb t (List.mem_of_mem_drop (List.mem_of_mem_take h1))
      · have := List.eq_of_mem_replicate h1
        omega

/-- A reader: how many bytes were read, the last address, how many entries are left, the fault's place, its error. -/
structure RdS where
  at_ : Nat
  last : Int
  left : Nat
  fault : Int
  e : Int
/-- What it tells next. -/
def nextS (b : List Int) (L : Int) (r : RdS) : (En × Bool × Int) × RdS :=
  if r.e ≠ 0 then ((en0, false, r.e), r)
  else if r.left = 0 then (if r.at_ < b.length then ((en0, false, 3), { r with fault := r.at_, e := 3 }) else ((en0, false, 0), r))
  else match oneS b L r.at_ r.last with
    | .inl x => ((en0, false, x.2), { r with fault := x.1, e := x.2 })
    | .inr x => ((x.1, true, 0), { r with at_ := x.2, last := x.1.at_, left := r.left - 1 })
end Go.Proofs.Ytfbdnfokoakfaaa.Ct
