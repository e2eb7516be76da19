/- lex.scanner's one token, as a plain function; word, number and mark answer it. -/
import Derived.Test.YthaejpkldpkddaaDoorScnMark
import Derived.Test.YthaejpkldpkddaaDoorNameV
namespace Go.Proofs.YthaejpkldpkddaaDoor.Scn
open Go.RowKit Go.Proofs.YthaejpkldpkddaaDoorW.PrintWords Go.Proofs.YthaejpkldpkddaaDoorW.PrintLast Go.Proofs.YthaejpkldpkddaaDoorW.PrintMore
set_option linter.unusedVariables false
set_option linter.unusedSimpArgs false

/-- The place behind the bytes from p on for which P stands. -/
def runF (P : Int → Bool) (s : ByteArray) : Nat → Nat → Nat
  | 0, p => p
  | f + 1, p => if p < s.size ∧ P (bt s (p : Int)) = true then runF P s f (p + 1) else p
def runE (P : Int → Bool) (s : ByteArray) (p : Nat) : Nat := runF P s (s.size - p) p

theorem runF_spec (P : Int → Bool) (s : ByteArray) : ∀ (f p : Nat), p + f = s.size →
    p ≤ runF P s f p ∧ runF P s f p ≤ s.size ∧ (∀ i : Nat, p ≤ i → i < runF P s f p → P (bt s (i : Int)) = true) ∧ (runF P s f p < s.size → P (bt s (runF P s f p : Int)) = false)
  | 0, p, h => ⟨Nat.le_refl _, by show p ≤ s.size; omega, fun i h1 h2 => by simp only [runF] at h2; omega, fun h2 => by simp only [runF] at h2; omega⟩
  | f + 1, p, h => by
    simp only [runF]
    by_cases c : p < s.size ∧ P (bt s (p : Int)) = true
    · rw [if_pos c]
      obtain ⟨h1, h2, h3, h4⟩ := runF_spec P s f (p + 1) (by omega)
      refine ⟨by omega, h2, fun i hi hj => ?_, h4⟩
      by_cases e : i = p
      · rw [e]; exact c.2
      · exact h3 i (by omega) hj
    · rw [if_neg c]
      refine ⟨Nat.le_refl _, by omega, fun i h1 h2 => by omega, fun h2 => ?_⟩
      cases hb : P (bt s (p : Int)) with
      | false => rfl
      | true => exact absurd ⟨h2, hb⟩ c
theorem runE_spec (P : Int → Bool) (s : ByteArray) (p : Nat) (hp : p ≤ s.size) :
    p ≤ runE P s p ∧ runE P s p ≤ s.size ∧ (∀ i : Nat, p ≤ i → i < runE P s p → P (bt s (i : Int)) = true) ∧ (runE P s p < s.size → P (bt s (runE P s p : Int)) = false) :=
  runF_spec P s (s.size - p) p (by omega)
theorem runE_lt (P : Int → Bool) (s : ByteArray) (p : Nat) (hp : p < s.size) (h : P (bt s (p : Int)) = true) : p < runE P s p := by
  obtain ⟨h1, h2, h3, h4⟩ := runE_spec P s p (by omega)
  by_cases e : runE P s p = p
  · rw [e] at h4
    rw [h4 hp] at h
    exact absurd h (by decide)
  · omega

abbrev Tok := PLexBlanks.S31

/-- The word at p. -/
def wordAt (s : ByteArray) (p : Nat) : Except Int Tok :=
  if (kindV (s.extract p (runE wordB s p))).2 = true then .ok ⟨(kindV (s.extract p (runE wordB s p))).1, p, runE wordB s p, 0, ⟨#[]⟩⟩
  else if nameV (s.extract p (runE wordB s p)) = true then .ok ⟨1, p, runE wordB s p, 0, s.extract p (runE wordB s p)⟩
  else .error 6
def numAt (s : ByteArray) (p : Nat) : Except Int Tok :=
  match numR s (s.extract p (runE digitB s p)) (runE digitB s p) with
  | some n => .ok ⟨2, p, runE digitB s p, n, ⟨#[]⟩⟩
  | none => .error 101
def markAt (s : ByteArray) (p : Nat) : Except Int Tok :=
  match markV s p with
  | some x => .ok ⟨x.1, p, p + x.2, 0, ⟨#[]⟩⟩
  | none => .error 100
/-- The token at p. -/
def tokAt (s : ByteArray) (p : Nat) : Except Int Tok :=
  if letterB (bt s (p : Int)) = true then wordAt s p else if digitB (bt s (p : Int)) = true then numAt s p else markAt s p

def TokE (r : Except Int Tok) (p : Int) (w : World) (e : Ending) (w' : World) : Prop :=
  match r with
  | .ok t => TokPost t w e w'
  | .error ec => e = .panicked (faultAt p ec) ∧ Below w.heap.size w w'

theorem kindV_false (t : ByteArray) (h : ¬ (kindV t).2 = true) : kindV t = (0, false) := by
  unfold kindV at h ⊢
  cases hp : place t.toList ws 0 with
  | none => rfl
  | some j => rw [hp] at h; exact absurd rfl h

theorem word_tok (g : Nat) (s : ByteArray) (p : Nat) (tl : TL) (w0 w : World) (hs : s.size ≤ 65536) (hI : IsS41 w0 w g s (p : Int) tl) (hp : p ≤ s.size) :
    Calls Tryd.prog 14 #[.pointer (some ⟨g, 0, none⟩)] w (TokE (wordAt s p) p w) := by
  obtain ⟨h1, h2, h3, h4⟩ := runE_spec wordB s p hp
  unfold wordAt
  by_cases hk : (kindV (s.extract p (runE wordB s p))).2 = true
  · rw [if_pos hk]
    refine word_known g s p (runE wordB s p) tl w0 w hs hI h1 h2 h3 h4 60 _ ?_
    rw [kind_v, ← hk]
  · rw [if_neg hk]
    have hK : PLexBlanks.lex_Kind.f 60 (s.extract p (runE wordB s p)) = some (0, false) := by rw [kind_v, kindV_false _ hk]
    by_cases hn : nameV (s.extract p (runE wordB s p)) = true
    · rw [if_pos hn]
      exact word_name g s p (runE wordB s p) tl w0 w hs hI h1 h2 h3 h4 60 100 hK (by rw [name_v, hn])
    · rw [if_neg hn]
      exact word_fault g s p (runE wordB s p) tl w0 w hs hI h1 h2 h3 h4 60 100 hK (by rw [name_v, Bool.eq_false_iff.mpr hn])

theorem num_tok (g : Nat) (s : ByteArray) (p : Nat) (tl : TL) (w0 w : World) (hs : s.size ≤ 65536) (hI : IsS41 w0 w g s (p : Int) tl) (hp : p ≤ s.size) :
    Calls Tryd.prog 16 #[.pointer (some ⟨g, 0, none⟩)] w (TokE (numAt s p) p w) := by
  obtain ⟨h1, h2, h3, h4⟩ := runE_spec digitB s p hp
  refine (number_any g s p (runE digitB s p) tl w0 w hs hI h1 h2 h3 h4 _ rfl _ rfl).mono ?_
  intro e w' h
  unfold numAt
  cases hr : numR s (s.extract p (runE digitB s p)) (runE digitB s p) with
  | none => rw [hr] at h; exact h
  | some n => rw [hr] at h; exact h

theorem mark_tok (g : Nat) (s : ByteArray) (p : Nat) (tl : TL) (w0 w : World) (hs : s.size ≤ 65536) (hI : IsS41 w0 w g s (p : Int) tl) (hp : p < s.size) :
    Calls Tryd.prog 17 #[.pointer (some ⟨g, 0, none⟩)] w (TokE (markAt s p) p w) := by
  refine (mark_any g s p tl w0 w hs hI hp _ rfl).mono ?_
  intro e w' h
  unfold markAt
  cases hr : markV s p with
  | none => rw [hr] at h; exact h
  | some n => rw [hr] at h; exact h

theorem markF_some (s : ByteArray) (p : Nat) : ∀ (n : Nat) (x : Int × Nat), markF s p n = some x → 1 ≤ x.2 ∧ x.2 ≤ n
  | 0, x, h => by simp [markF] at h
  | n + 1, x, h => by
    simp only [markF] at h
    split at h
    · cases h; exact ⟨by simp, Nat.le_refl _⟩
    · have := markF_some s p n x h; omega

/-- Where a token stands. -/
theorem tokAt_span (s : ByteArray) (p : Nat) (hp : p < s.size) (t : Tok) (h : tokAt s p = .ok t) : t.f1 = p ∧ ∃ q : Nat, t.f2 = q ∧ p < q ∧ q ≤ s.size := by
  unfold tokAt at h
  by_cases h1 : letterB (bt s (p : Int)) = true
  · rw [if_pos h1] at h
    have hw : wordB (bt s (p : Int)) = true := by unfold wordB; rw [h1]; rfl
    have hlt := runE_lt wordB s p hp hw
    have hle := (runE_spec wordB s p (by omega)).2.1
    unfold wordAt at h
    split at h
    · cases h; exact ⟨rfl, _, rfl, hlt, hle⟩
    · split at h
      · cases h; exact ⟨rfl, _, rfl, hlt, hle⟩
      · cases h
  · rw [if_neg h1] at h
    by_cases h2 : digitB (bt s (p : Int)) = true
    · rw [if_pos h2] at h
      have hlt := runE_lt digitB s p hp h2
      have hle := (runE_spec digitB s p (by omega)).2.1
      unfold numAt at h
      split at h
      · cases h; exact ⟨rfl, _, rfl, hlt, hle⟩
      · cases h
    · rw [if_neg h2] at h
      unfold markAt at h
      split at h
      · rename_i x hx
        cases h
        have := markF_some s p _ x hx
        exact ⟨rfl, p + x.2, by push_cast; rfl, by omega, by omega⟩
      · cases h

end Go.Proofs.YthaejpkldpkddaaDoor.Scn
