/- Blanks and remarks, as one plain function: what lex.scanner's blanks and the reference's step over. -/
import Derived.Test.YthaejpkldpkddaaDoorScnBlanks
import Derived.Test.YthaejpkldpkddaaDoorPLexBlanksx3
import Derived.Test.YthaejpkldpkddaaDoorLexK
namespace Go.Proofs.YthaejpkldpkddaaDoor.Scn
open Go.RowKit Go.Proofs.YthaejpkldpkddaaDoorW.PrintWords Go.Proofs.YthaejpkldpkddaaDoorW.PrintLast Go.Proofs.YthaejpkldpkddaaDoorW.PrintMore
set_option linter.unusedVariables false
set_option linter.unusedSimpArgs false

def isBl (c : Int) : Bool := decide (c = 32) || decide (c = 9) || decide (c = 10) || decide (c = 13)

/-- The place behind the blanks from p on (true: within a remark). -/
def blankF (s : ByteArray) : Nat → Bool → Nat → Nat
  | 0, _, p => p
  | f + 1, false, p => if p < s.size then (if isBl (bt s (p : Int)) = true then blankF s f false (p + 1) else if bt s (p : Int) = 47 ∧ p + 1 < s.size ∧ bt s ((p + 1 : Nat) : Int) = 47 then blankF s f true (p + 2) else p) else p
  | f + 1, true, p => if p < s.size then (if bt s (p : Int) = 10 then blankF s f false (p + 1) else blankF s f true (p + 1)) else p
def blankV (s : ByteArray) (p : Nat) : Nat := blankF s (s.size - p + 1) false p

theorem blankF_le (s : ByteArray) : ∀ (f : Nat) (m : Bool) (p : Nat), p ≤ s.size → p ≤ blankF s f m p ∧ blankF s f m p ≤ s.size
  | 0, _, p, h => ⟨Nat.le_refl _, h⟩
  | f + 1, false, p, h => by
    simp only [blankF]
    split
    · split
      · have := blankF_le s f false (p + 1) (by omega); omega
      · split
        · have := blankF_le s f true (p + 2) (by omega); omega
        · omega
    · omega
  | f + 1, true, p, h => by
    simp only [blankF]
    split
    · split
      · have := blankF_le s f false (p + 1) (by omega); omega
      · have := blankF_le s f true (p + 1) (by omega); omega
    · omega
theorem blankV_le (s : ByteArray) (p : Nat) (h : p ≤ s.size) : p ≤ blankV s p ∧ blankV s p ≤ s.size := blankF_le s _ _ p h

theorem lex_blank (s : ByteArray) (hs : s.size ≤ 65536) (tl : TL) : ∀ (f p k : Nat), p ≤ s.size → s.size ≤ p + f → 6 * f + 6 ≤ k →
    lex_scanner_blanks.l0 k s (p : Int) tl = some (s, (blankF s (f + 1) false p : Int)) ∧ lex_scanner_blanks.l1 k s (p : Int) tl = some (s, (blankF s (f + 1) true p : Int)) := by
  intro f
  induction f with
  | zero =>
    intro p k hp hf hk
    obtain ⟨k, rfl⟩ : ∃ m, k = m + 2 := ⟨k - 2, by omega⟩
    have hn : ¬ ((p : Int) < (s.size : Int)) := by omega
    have hn' : ¬ p < s.size := by omega
    refine ⟨?_, ?_⟩
    · rw [lex_scanner_blanks.l0, if_neg hn]; simp only [blankF, if_neg hn']
    · rw [lex_scanner_blanks.l1, if_neg hn, lex_scanner_blanks.l0, if_neg hn]; simp only [blankF, if_neg hn']
  | succ f ih =>
    intro p k hp hf hk
    obtain ⟨k, rfl⟩ : ∃ m, k = m + 6 := ⟨k - 6, by omega⟩
    by_cases hlt : p < s.size
    · have hlt' : (p : Int) < (s.size : Int) := by omega
      have h0 : (0 : Int) ≤ (p : Int) := by omega
      have ew : wrap64 ((p : Int) + 1) = ((p + 1 : Nat) : Int) := by unfold wrap64; omega
      have l1one : ∀ (q j : Nat), q < s.size → p + 1 ≤ q + 1 → 6 * f + 6 ≤ j → lex_scanner_blanks.l1 (j + 3) s (q : Int) tl = some (s, (blankF s (f + 2) true q : Int)) := by
        intro q j hq hpq hj
        have ewq : wrap64 ((q : Int) + 1) = ((q + 1 : Nat) : Int) := by unfold wrap64; omega
        rw [lex_scanner_blanks.l1, if_pos (by omega), if_pos (by omega), show blankF s (f + 2) true q = if q < s.size then (if bt s (q : Int) = 10 then blankF s (f + 1) false (q + 1) else blankF s (f + 1) true (q + 1)) else q from rfl, if_pos hq]
        by_cases c : bt s (q : Int) = 10
        · rw [if_pos c, if_pos c, lex_scanner_blanks.l0, if_pos (by omega), if_pos (by omega), if_neg (by omega), if_neg (by omega), if_pos c, lex_scanner_blanks.j1, if_pos rfl, ewq]
          exact (ih (q + 1) j (by omega) (by omega) hj).1
        · rw [if_neg c, if_neg c, ewq]
          exact (ih (q + 1) (j + 2) (by omega) (by omega) (by omega)).2
      refine ⟨?_, l1one p (k + 3) hlt (by omega) (by omega)⟩
      rw [lex_scanner_blanks.l0, if_pos hlt', if_pos h0, show blankF s (f + 2) false p = if p < s.size then (if isBl (bt s (p : Int)) = true then blankF s (f + 1) false (p + 1) else if bt s (p : Int) = 47 ∧ p + 1 < s.size ∧ bt s ((p + 1 : Nat) : Int) = 47 then blankF s (f + 1) true (p + 2) else p) else p from rfl, if_pos hlt]
      have hI := (ih (p + 1) (k + 4) (by omega) (by omega) (by omega)).1
      by_cases b1 : bt s (p : Int) = 32
      · rw [if_pos b1, if_pos (by simp [isBl, b1]), lex_scanner_blanks.j1, if_pos rfl, ew, hI]
      · by_cases b2 : bt s (p : Int) = 9
        · rw [if_neg b1, if_pos b2, if_pos (by simp [isBl, b2]), lex_scanner_blanks.j1, if_pos rfl, ew, hI]
        · by_cases b3 : bt s (p : Int) = 10
          · rw [if_neg b1, if_neg b2, if_pos b3, if_pos (by simp [isBl, b3]), lex_scanner_blanks.j1, if_pos rfl, ew, hI]
          · by_cases b4 : bt s (p : Int) = 13
            · rw [if_neg b1, if_neg b2, if_neg b3, if_pos (by simp [isBl, b4]), lex_scanner_blanks.j1, if_pos (by simp [b4]), ew, hI]
            · rw [if_neg b1, if_neg b2, if_neg b3, if_neg (by simp [isBl, b1, b2, b3, b4]), lex_scanner_blanks.j1, if_neg (by simp [b4])]
              by_cases c1 : bt s (p : Int) = 47
              · rw [if_pos c1, ew]
                by_cases c2 : p + 1 < s.size
                · rw [if_pos (by omega), if_pos (by omega), lex_scanner_blanks.j2]
                  by_cases c3 : bt s ((p + 1 : Nat) : Int) = 47
                  · rw [if_pos (beq_iff_eq.mpr c3), if_pos ⟨c1, c2, c3⟩]
                    have ew2 : wrap64 (((p + 1 : Nat) : Int) + 1) = ((p + 2 : Nat) : Int) := by unfold wrap64; omega
                    rw [lex_scanner_blanks.l1, if_pos hlt', if_pos h0, if_neg b3, ew, lex_scanner_blanks.l1, if_pos (by omega), if_pos (by omega), if_neg (by omega), ew2]
                    exact (ih (p + 2) (k + 1) (by omega) (by omega) (by omega)).2
                  · rw [if_neg (fun h => c3 (beq_iff_eq.mp h)), if_neg (fun h => c3 h.2.2)]
                · rw [if_neg (by omega), lex_scanner_blanks.j2, if_neg (by simp), if_neg (fun h => c2 h.2.1)]
              · rw [if_neg c1, lex_scanner_blanks.j2, if_neg (by simp), if_neg (fun h => c1 h.1)]
    · have hn : ¬ ((p : Int) < (s.size : Int)) := by omega
      refine ⟨?_, ?_⟩
      · rw [lex_scanner_blanks.l0, if_neg hn]; simp only [blankF, if_neg hlt]
      · rw [lex_scanner_blanks.l1, if_neg hn, lex_scanner_blanks.l0, if_neg hn]; simp only [blankF, if_neg hlt]

theorem lex_blank_v (s : ByteArray) (hs : s.size ≤ 65536) (tl : TL) (p : Nat) (hp : p ≤ s.size) : lex_scanner_blanks.f (6 * (s.size - p) + 6) s (p : Int) tl = some (s, (blankV s p : Int)) :=
  (lex_blank s hs tl (s.size - p) p _ hp (by omega) (Nat.le_refl _)).1

end Go.Proofs.YthaejpkldpkddaaDoor.Scn
