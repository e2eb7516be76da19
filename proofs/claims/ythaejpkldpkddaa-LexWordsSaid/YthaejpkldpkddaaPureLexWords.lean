/- For every number and every text, lex.Word and lex.Kind answer as the reference does. No condition. -/
import Derived.Test.YthaejpkldpkddaaPLexWordsx1
namespace Go.Proofs.Ythaejpkldpkddaa.Pure
open Go.RowKit Go.Proofs.Ythaejpkldpkddaa.PLexWords Go.Proofs.YthaejpkldpkddaaW.PrintWords Go.Proofs.YthaejpkldpkddaaW.PrintLast

/-- The place of a text among words, from a place on. -/
def place (s : List UInt8) : List ByteArray → Int → Option Int
  | [], _ => none
  | w :: r, i => if s = w.toList then some i else place s r (i + 1)

theorem index_loop (ws : List ByteArray) (s : ByteArray) (hw : ws.length ≤ 1000) : ∀ (d : Nat) (i k : Nat), i + d = ws.length → d < k →
    slices_Index_string_string.l0 k ws s (ws.length : Int) (i : Int) = some ((place s.toList (ws.drop i) (i : Int)).getD (-1)) := by
  intro d
  induction d with
  | zero =>
    intro i k hi hk
    obtain ⟨k, rfl⟩ : ∃ m, k = m + 1 := ⟨k - 1, by omega⟩
    simp only [slices_Index_string_string.l0]
    rw [if_neg (by omega), List.drop_eq_nil_of_le (by omega)]
    rfl
  | succ d ih =>
    intro i k hi hk
    obtain ⟨k, rfl⟩ : ∃ m, k = m + 1 := ⟨k - 1, by omega⟩
    have hl : i < ws.length := by omega
    simp only [slices_Index_string_string.l0]
    rw [if_pos (by omega), if_pos (by omega), if_pos (by omega), List.drop_eq_getElem_cons hl]
    have e : rdOf ByteArray.empty ws (i : Int) = ws[i] := by simp [rdOf, List.getD_eq_getElem?_getD, List.getElem?_eq_getElem hl]
    rw [e]
    simp only [place]
    by_cases h : s.toList = ws[i].toList
    · rw [if_pos h, if_pos h]; rfl
    · rw [if_neg h, if_neg h]
      have ew : wrap64 ((i : Int) + 1) = ((i + 1 : Nat) : Int) := by unfold wrap64; omega
      rw [ew, ih (i + 1) k (by omega) (by omega)]
      rfl

/-- The words, as the printed functions hold them. -/
def ws : List ByteArray := (lex_words.f).getD []
theorem ws_some : lex_words.f = some ws := rfl
theorem ws_len : ws.length = 47 := by decide +kernel

theorem ref_word2 : ∀ n : Fin 47, provisoref10_Word.f 1 (((n.val : Nat) : Int) + 3) = some (rdOf ByteArray.empty ws ((n.val : Nat) : Int)) := by decide +kernel

theorem ref_word (i k : Nat) (h : i < 47) : provisoref10_Word.f (k + 1) ((i : Int) + 3) = some (rdOf ByteArray.empty ws (i : Int)) :=
  at_rounds (g := fun k => provisoref10_Word.f k ((i : Int) + 3)) (fun k => provisoref10_Word.mono _ k) (k := 1) (by omega) (ref_word2 ⟨i, h⟩)

theorem ref_loop (s : ByteArray) : ∀ (d : Nat) (i k : Nat), i + d = 47 → d + 1 < k →
    provisoref10_Kind.l0 k s ((i : Int) + 3) = some (match place s.toList (ws.drop i) (i : Int) with | some j => (j + 3, true) | none => (0, false)) := by
  intro d
  induction d with
  | zero =>
    intro i k hi hk
    obtain ⟨k, rfl⟩ : ∃ m, k = m + 1 := ⟨k - 1, by omega⟩
    simp only [provisoref10_Kind.l0]
    rw [if_neg (by omega), List.drop_eq_nil_of_le (by rw [ws_len]; omega)]
    rfl
  | succ d ih =>
    intro i k hi hk
    obtain ⟨k, rfl⟩ : ∃ m, k = m + 2 := ⟨k - 2, by omega⟩
    have hl : i < ws.length := by rw [ws_len]; omega
    rw [provisoref10_Kind.l0]
    rw [if_pos (by omega), ref_word i k (by omega), List.drop_eq_getElem_cons hl]
    have e : rdOf ByteArray.empty ws (i : Int) = ws[i] := by simp [rdOf, List.getD_eq_getElem?_getD, List.getElem?_eq_getElem hl]
    rw [e]
    simp only [Option.bind_some, place]
    by_cases h : s.toList = ws[i].toList
    · rw [if_pos h, if_pos h.symm]
    · rw [if_neg h, if_neg (fun x => h x.symm)]
      have ew : wrap64 ((i : Int) + 3 + 1) = ((i + 1 : Nat) : Int) + 3 := by unfold wrap64; omega
      rw [ew, ih (i + 1) (k + 1) (by omega) (by omega)]
      rfl

theorem place_range (s : List UInt8) : ∀ (l : List ByteArray) (i : Int) (j : Int), place s l i = some j → i ≤ j ∧ j < i + l.length
  | [], _, _, h => by simp [place] at h
  | w :: r, i, j, h => by
    simp only [place] at h
    split at h
    · cases h; simp only [List.length_cons]; omega
    · have := place_range s r (i + 1) j h
      simp only [List.length_cons]; omega

theorem kinds_same (s : ByteArray) (k : Nat) (hk : 48 < k) : ∃ p, lex_Kind.f k s = some p ∧ provisoref10_Kind.f k s = some p := by
  unfold lex_Kind.f provisoref10_Kind.f slices_Index_string_string.f
  rw [ws_some]
  simp only [Option.bind_some]
  have a' : slices_Index_string_string.l0 k ws s (ws.length : Int) 0 = some ((place s.toList (ws.drop 0) 0).getD (-1)) := index_loop ws s (by rw [ws_len]; omega) 47 0 k (by rw [ws_len]) (by omega)
  have b' : provisoref10_Kind.l0 k s 3 = some (match place s.toList (ws.drop 0) 0 with | some j => (j + 3, true) | none => (0, false)) := ref_loop s 47 0 k rfl hk
  rw [a', b']
  simp only [Option.bind_some]
  cases h : place s.toList (ws.drop 0) 0 with
  | none => exact ⟨_, by simp only [Option.getD_none]; rw [if_pos (by omega)], rfl⟩
  | some j =>
    have r := place_range _ _ _ _ h
    rw [List.drop_zero, ws_len] at r
    refine ⟨(j + 3, true), ?_, rfl⟩
    simp only [Option.getD_some]
    rw [if_neg (by omega)]
    have : wrap64 (3 + j) = j + 3 := by unfold wrap64; omega
    rw [this]

theorem word_in : ∀ n : Fin 47, lex_Word.f (((n.val : Nat) : Int) + 3) = some (rdOf ByteArray.empty ws ((n.val : Nat) : Int)) := by decide +kernel

theorem words_same (a0 : Int) (k : Nat) : ∃ y, lex_Word.f a0 = some y ∧ provisoref10_Word.f (k + 1) a0 = some y := by
  by_cases h : a0 < 3
  · refine ⟨⟨#[]⟩, ?_, ?_⟩
    · unfold lex_Word.f; rw [if_pos h]
    · unfold provisoref10_Word.f
      simp only [Option.bind_some]
      rw [if_neg (by omega)]
      simp only [provisoref10_Word.j0]
      rw [if_neg (by decide), if_neg (by omega)]
  · by_cases h' : 50 ≤ a0
    · refine ⟨⟨#[]⟩, ?_, ?_⟩
      · unfold lex_Word.f; rw [if_neg h, if_pos h']
      · unfold provisoref10_Word.f
        simp only [Option.bind_some]
        rw [if_pos (by omega)]
        simp only [provisoref10_Word.j0]
        rw [if_neg (by simp; omega), if_pos (by omega), if_neg (by omega)]
    · obtain ⟨i, hi, rfl⟩ : ∃ i : Nat, i < 47 ∧ a0 = (i : Int) + 3 := ⟨(a0 - 3).toNat, by omega, by omega⟩
      exact ⟨_, word_in ⟨i, hi⟩, ref_word i k hi⟩

theorem while_word : lex_Word.f 24 = some (⟨#[119, 104, 105, 108, 101]⟩ : ByteArray) := by decide +kernel
theorem while_list : ((⟨#[119, 104, 105, 108, 101]⟩ : ByteArray).toList == ([119, 104, 105, 108, 101] : List UInt8)) = true := by decide +kernel

theorem LexWords : provisolaw10_LexWords.Pure := by
  intro a0 a1 w0 _
  refine ⟨49 + 1, ?_⟩
  obtain ⟨k, hk⟩ : ∃ k : Nat, k = 49 := ⟨49, rfl⟩
  rw [← hk]
  obtain ⟨p, hp, hp'⟩ := kinds_same a1 (k + 1) (by omega)
  obtain ⟨y, hy, hy'⟩ := words_same a0 k
  unfold provisolaw10_LexWords.f
  rw [hp, hp', hy, hy', while_word]
  simp only [Option.bind_some, if_true, beq_self_eq_true, while_list]

end Go.Proofs.Ythaejpkldpkddaa.Pure
