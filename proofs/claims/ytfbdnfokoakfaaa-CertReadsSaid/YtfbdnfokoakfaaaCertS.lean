/- Certificates that may be, and their bytes, as plain functions. -/
import Derived.Test.YtfbdnfokoakfaaaCheckC
namespace Go.Proofs.Ytfbdnfokoakfaaa.Ct
open Go.RowKit Go.Proofs.YtfbdnfokoakfaaaW.PrintWords
set_option linter.unusedVariables false
set_option linter.unusedSimpArgs false

/-- Each entry, behind the one ahead, is well. -/
def OkL (L : Int) : Int → List En → Prop
  | _, [] => True
  | last, x :: r => stepS L last x = 0 ∧ OkL L x.at_ r

theorem checkF_ok (L : Int) (l : List En) : ∀ (f i : Nat) (last : Int), i + f = l.length + 1 → ((checkF L l f i last).2 = 0 ↔ OkL L last (l.drop i))
  | 0, i, last, h => by
    rw [List.drop_eq_nil_of_le (by omega)]
    simp [checkF, OkL]
  | f + 1, i, last, h => by
    rw [checkF]
    by_cases c : i < l.length
    · have hg : l.getD i en0 = l[i] := by simp [List.getD_eq_getElem?_getD, c]
      rw [if_pos c, List.drop_eq_getElem_cons c, hg]
      by_cases e : stepS L last l[i] = 0
      · rw [if_neg (by simpa using e), checkF_ok L l f (i + 1) _ (by omega)]
        exact ⟨fun h => ⟨e, h⟩, fun h => h.2⟩
      · rw [if_pos e]
        exact ⟨fun h => absurd h e, fun h => absurd h.1 e⟩
    · rw [if_neg c, List.drop_eq_nil_of_le (by omega)]
      simp [OkL]
theorem checkF_fst (L : Int) (l : List En) : ∀ (f i : Nat) (last : Int), (checkF L l f i last).2 = 0 → (checkF L l f i last).1 = 0
  | 0, i, last, h => rfl
  | f + 1, i, last, h => by
    rw [checkF] at h ⊢
    by_cases c : i < l.length
    · rw [if_pos c] at h ⊢
      by_cases e : stepS L last (l.getD i en0) = 0
      · rw [if_neg (by simpa using e)] at h ⊢
        exact checkF_fst L l f (i + 1) _ h
      · rw [if_pos e] at h
        exact absurd h e
    · rw [if_neg c]
/-- A certificate that may be. -/
def Good (L : Int) (l : List En) : Prop := 0 ≤ L ∧ L ≤ 16 ∧ l.length ≤ 4096 ∧ OkL L (-1) l
theorem check_good (L : Int) (l : List En) : (checkS L l).2 = 0 ↔ Good L l := by
  unfold checkS Good
  by_cases c1 : L < 0 ∨ 16 < L
  · rw [if_pos c1]
    simp
    omega
  · rw [if_neg c1]
    by_cases c2 : 4096 < l.length
    · rw [if_pos c2]
      simp
      omega
    · rw [if_neg c2, checkF_ok L l _ 0 (-1) (by omega), List.drop_zero]
      exact ⟨fun h => ⟨by omega, by omega, by omega, h⟩, fun h => h.2.2.2⟩
theorem check_one (L : Int) (l : List En) (h : Good L l) : checkS L l = (0, 0) := by
  have h2 := (check_good L l).2 h
  have h1 : (checkS L l).1 = 0 := by
    unfold checkS at h2 ⊢
    rw [if_neg (by have := h.1; have := h.2.1; omega), if_neg (by have := h.2.2.1; omega)] at h2 ⊢
    exact checkF_fst _ _ _ _ _ h2
  exact Prod.ext h1 h2

/-- An entry that is well. -/
theorem step_at {L last : Int} {x : En} (h : stepS L last x = 0) : 0 ≤ x.at_ ∧ x.at_ < 4096 ∧ last < x.at_ ∧ bodyS L x = 0 := by
  unfold stepS at h
  by_cases e : risesS last x.at_ = 0
  · rw [if_neg (by simpa using e)] at h
    unfold risesS at e
    by_cases c1 : x.at_ < 0 ∨ 4096 ≤ x.at_
    · rw [if_pos c1] at e; cases e
    · rw [if_neg c1] at e
      by_cases c2 : x.at_ = last
      · rw [if_pos c2] at e; cases e
      · rw [if_neg c2] at e
        by_cases c3 : x.at_ < last
        · rw [if_pos c3] at e; cases e
        · exact ⟨by omega, by omega, by omega, h⟩
  · rw [if_pos e] at h
    exact absurd h e
theorem body_dead {L : Int} {x : En} (h : bodyS L x = 0) (hd : x.dead = true) : x.fr = fr0 := by
  unfold bodyS at h
  rw [if_pos hd] at h
  by_cases e : eqF x.fr fr0 = true
  · exact (eqF_iff _ _).1 e
  · rw [if_neg e] at h; cases h
theorem body_live {L : Int} {x : En} (h : bodyS L x = 0) (hd : x.dead = false) : x.fr.l = L ∧ 0 ≤ x.fr.h ∧ x.fr.h ≤ 24 - L ∧ (∀ t, t ∈ x.fr.s.drop (L + x.fr.h).toNat → t = 0) ∧ (∀ t, t ∈ x.fr.s.take (L + x.fr.h).toNat → knownB t = true) := by
  unfold bodyS at h
  rw [if_neg (by rw [hd]; decide)] at h
  unfold frameS at h
  by_cases c : x.fr.l ≠ L ∨ x.fr.h < 0 ∨ 24 - L < x.fr.h
  · rw [if_pos c] at h; cases h
  · rw [if_neg c] at h
    have hl : x.fr.l = L := by
      by_cases e : x.fr.l = L
      · exact e
      · exact absurd (.inl e) c
    by_cases d : (x.fr.s.drop (L + x.fr.h).toNat).all (fun t => t == 0) = true
    · rw [if_pos d] at h
      by_cases e : (x.fr.s.take (L + x.fr.h).toNat).all knownB = true
      · refine ⟨hl, by omega, by omega, fun t ht => ?_, fun t ht => List.all_eq_true.1 e t ht⟩
        have := List.all_eq_true.1 d t ht
        simpa using this
      · rw [if_neg e] at h; cases h
    · rw [if_neg d] at h; cases h

/-- An entry's bytes, a certificate's bytes. -/
def encE (L : Int) (x : En) : List Int := [x.at_ / 256, x.at_ % 256] ++ (if x.dead = true then [0] else 1 :: x.fr.h :: x.fr.s.take (L + x.fr.h).toNat)
def encB (L : Int) : List En → List Int
  | [] => []
  | x :: r => encE L x ++ encB L r
def encS (L : Int) (l : List En) : List Int := [112, 118, 1, L, (l.length : Int) / 256, (l.length : Int) % 256] ++ encB L l
theorem encB_snoc (L : Int) : ∀ (l : List En) (x : En), encB L (l ++ [x]) = encB L l ++ encE L x
  | [], x => by simp [encB]
  | y :: r, x => by simp [encB, encB_snoc L r x]
theorem OkL_get (L : Int) : ∀ (l : List En) (last : Int) (i : Nat) (hi : i < l.length), OkL L last l → ∃ p, stepS L p l[i] = 0
  | [], _, i, hi, _ => by simp at hi
  | x :: r, last, 0, hi, h => ⟨last, h.1⟩
  | x :: r, last, i + 1, hi, h => OkL_get L r x.at_ i (by simpa using hi) h.2
theorem encE_len (L : Int) (x : En) (h0 : 0 ≤ L) (h1 : L ≤ 16) (h : bodyS L x = 0) : (encE L x).length ≤ 28 := by
  unfold encE
  cases hd : x.dead with
  | true => simp
  | false =>
    obtain ⟨_, g1, g2, _, _⟩ := body_live h hd
    simp [List.length_take]
    omega
theorem encB_len (L : Int) (h0 : 0 ≤ L) (h1 : L ≤ 16) : ∀ (l : List En) (last : Int), OkL L last l → (encB L l).length ≤ 28 * l.length
  | [], _, _ => by simp [encB]
  | x :: r, last, h => by
    have a := encE_len L x h0 h1 (step_at h.1).2.2.2
    have b := encB_len L h0 h1 r x.at_ h.2
    simp only [encB, List.length_append, List.length_cons]
    omega
theorem OkL_take (L : Int) : ∀ (l : List En) (last : Int) (i : Nat), OkL L last l → OkL L last (l.take i)
  | [], _, i, _ => by simp [OkL]
  | x :: r, last, 0, _ => by simp [OkL]
  | x :: r, last, i + 1, h => ⟨h.1, OkL_take L r x.at_ i h.2⟩
theorem encB_take (L : Int) (l : List En) (h0 : 0 ≤ L) (h1 : L ≤ 16) (h2 : l.length ≤ 4096) (h : OkL L (-1) l) (i : Nat) : (encB L (l.take i)).length ≤ 114688 := by
  have a := encB_len L h0 h1 _ _ (OkL_take L l (-1) i h)
  rw [List.length_take] at a
  omega
end Go.Proofs.Ytfbdnfokoakfaaa.Ct
