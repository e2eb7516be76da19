/- Names: what wire.IsName and the reference's answer, as one plain function. -/
import Derived.Test.YthaejpkldpkddaaDoorPLexBlanksx3
import Derived.Test.YthaejpkldpkddaaDoorLexK
namespace Go.Proofs.YthaejpkldpkddaaDoor.Scn
open Go.RowKit Go.Proofs.YthaejpkldpkddaaDoorW.PrintWords Go.Proofs.YthaejpkldpkddaaDoorW.PrintLast Go.Proofs.YthaejpkldpkddaaDoorW.PrintMore
set_option linter.unusedVariables false
set_option linter.unusedSimpArgs false

def nameCh (i : Nat) (c : Int) : Bool := (decide (97 ≤ c) && decide (c ≤ 122)) || (decide (65 ≤ c) && decide (c ≤ 90)) || (decide (0 < i) && ((decide (48 ≤ c) && decide (c ≤ 57)) || decide (c = 95)))
def nameF (t : ByteArray) : Nat → Nat → Bool
  | 0, _ => true
  | f + 1, i => if nameCh i (bt t (i : Int)) = true then nameF t f (i + 1) else false
def nameV (t : ByteArray) : Bool := if t.size = 0 ∨ 24 < t.size then false else nameF t t.size 0

theorem wire_loop (t : ByteArray) (hs : t.size ≤ 24) : ∀ (d i k : Nat), i + d = t.size → 3 * d < k → PLexBlanks.wire_IsName.l0 k t (t.size : Int) (i : Int) = some (nameF t d i) := by
  intro d
  induction d with
  | zero =>
    intro i k hi hk
    obtain ⟨k, rfl⟩ : ∃ m, k = m + 1 := ⟨k - 1, by omega⟩
    simp only [PLexBlanks.wire_IsName.l0]
    rw [if_neg (by omega)]
    rfl
  | succ d ih =>
    intro i k hi hk
    obtain ⟨k, rfl⟩ : ∃ m, k = m + 3 := ⟨k - 3, by omega⟩
    have ew : wrap64 ((i : Int) + 1) = ((i + 1 : Nat) : Int) := by unfold wrap64; omega
    have hn := ih (i + 1) k (by omega) (by omega)
    rw [PLexBlanks.wire_IsName.l0, if_pos (by omega), if_pos (by omega), if_pos (by omega)]
    simp only [PLexBlanks.wire_IsName.j2, PLexBlanks.wire_IsName.j3, ew, hn, nameF]
    generalize bt t (i : Int) = c
    generalize hF : nameF t d (i + 1) = F
    unfold nameCh
    by_cases a5 : i = 0
    · subst a5
      by_cases a1 : 97 ≤ c <;> by_cases a2 : c ≤ 122 <;> by_cases a3 : 65 ≤ c <;> by_cases a4 : c ≤ 90 <;> first | (exfalso; omega) | simp [a1, a2, a3, a4]
    · have a6 : (i : Int) > 0 := by omega
      have a7 : 0 < i := by omega
      by_cases a1 : 97 ≤ c
      · by_cases a2 : c ≤ 122
        · simp [a1, a2, a6, a7]
        · have b1 : ¬ c ≤ 90 := by omega
          have b2 : ¬ c ≤ 57 := by omega
          have b3 : ¬ c = 95 := by omega
          have b4 : 65 ≤ c := by omega
          have b5 : 48 ≤ c := by omega
          simp [a1, a2, a6, a7, b1, b2, b3, b4, b5]
      · by_cases a3 : 65 ≤ c
        · by_cases a4 : c ≤ 90
          · simp [a1, a3, a4, a6, a7]
          · have b2 : ¬ c ≤ 57 := by omega
            have b5 : 48 ≤ c := by omega
            by_cases a8 : c = 95 <;> simp [a1, a3, a4, a6, a7, a8, b2, b5] <;> omega
        · have b3 : ¬ c = 95 := by omega
          by_cases a8 : 48 ≤ c <;> by_cases a9 : c ≤ 57 <;> first | (exfalso; omega) | simp [a1, a3, a6, a7, a8, a9, b3]

theorem name_v (t : ByteArray) : PLexBlanks.wire_IsName.f 100 t = some (nameV t) := by
  obtain ⟨k, hk⟩ : ∃ k : Nat, k = 99 := ⟨99, rfl⟩
  rw [show (100 : Nat) = k + 1 by omega]
  unfold PLexBlanks.wire_IsName.f nameV
  by_cases h0 : t.size = 0
  · rw [if_pos (by omega), if_pos (.inl h0), PLexBlanks.wire_IsName.j0, if_pos rfl]
  · rw [if_neg (by omega)]
    by_cases h1 : 24 < t.size
    · rw [if_pos (.inr h1), PLexBlanks.wire_IsName.j0, if_pos (by simp; omega)]
    · rw [if_neg (by omega), PLexBlanks.wire_IsName.j0, if_neg (by simp; omega)]
      have := wire_loop t (by omega) t.size 0 k (by omega) (by omega)
      exact this

end Go.Proofs.YthaejpkldpkddaaDoor.Scn
