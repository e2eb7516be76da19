/- The reference's token at a place is the scanner's. -/
import Derived.Test.YthaejpkldpkddaaScnTok
import Derived.Test.YthaejpkldpkddaaBlankV
import Derived.Test.YthaejpkldpkddaaPLexScansx7
namespace Go.Proofs.Ythaejpkldpkddaa.Scn
open Go.RowKit Go.Proofs.YthaejpkldpkddaaW.PrintWords Go.Proofs.YthaejpkldpkddaaW.PrintLast Go.Proofs.YthaejpkldpkddaaW.PrintMore
set_option linter.unusedVariables false
set_option linter.unusedSimpArgs false

theorem ref_letter (c : Int) : PLexScans.provisoref10_letter.f c = some (letterB c) := by
  unfold PLexScans.provisoref10_letter.f letterB
  by_cases h2 : c ≥ 97
  · rw [if_pos h2]
    by_cases h3 : c ≤ 122
    · rw [if_pos h3]; simp [h2, h3]
    · have h4 : ¬ c ≤ 90 := by omega
      have h5 : ¬ c = 95 := by omega
      rw [if_neg h3, if_pos (by omega), if_neg h4]
      simp [h3, h4, h5]
  · rw [if_neg h2]
    by_cases h3 : c ≥ 65
    · rw [if_pos h3]
      by_cases h4 : c ≤ 90
      · rw [if_pos h4]; simp [h3, h4]
      · rw [if_neg h4]
        by_cases h5 : c = 95
        · simp [h5]
        · have : ¬ 97 ≤ c := h2
          simp [h4, h5, this]
    · rw [if_neg h3]
      have h5 : ¬ c = 95 := by omega
      have : ¬ 97 ≤ c := h2
      have : ¬ 65 ≤ c := h3
      simp [h5, *]
theorem ref_digit (c : Int) : PLexScans.provisoref10_digit.f c = some (digitB c) := by
  unfold PLexScans.provisoref10_digit.f digitB
  by_cases h : c ≥ 48
  · rw [if_pos h]; simp [h]
  · rw [if_neg h]; simp [h]

theorem ref_run (s : ByteArray) (hs : s.size ≤ 65536) : ∀ (f p k : Nat), p + f = s.size → f < k → PLexScans.provisoref10_run.l0 k s (p : Int) = some (runF wordB s f p : Int) := by
  intro f
  induction f with
  | zero =>
    intro p k hp hk
    obtain ⟨k, rfl⟩ : ∃ m, k = m + 1 := ⟨k - 1, by omega⟩
    rw [PLexScans.provisoref10_run.l0, if_neg (by omega)]
    rfl
  | succ f ih =>
    intro p k hp hk
    obtain ⟨k, rfl⟩ : ∃ m, k = m + 1 := ⟨k - 1, by omega⟩
    have ew : wrap64 ((p : Int) + 1) = ((p + 1 : Nat) : Int) := by unfold wrap64; omega
    rw [PLexScans.provisoref10_run.l0, if_pos (by omega), if_pos (by omega), ref_letter, Option.bind_some, ref_digit, ew, ih (p + 1) k (by omega) (by omega)]
    rw [show runF wordB s (f + 1) p = if p < s.size ∧ wordB (bt s (p : Int)) = true then runF wordB s f (p + 1) else p from rfl]
    have hw : wordB (bt s (p : Int)) = (letterB (bt s (p : Int)) || digitB (bt s (p : Int))) := rfl
    simp only [Option.bind_some]
    cases h1 : letterB (bt s (p : Int)) with
    | true => rw [if_pos rfl, if_pos ⟨by omega, by rw [hw, h1]; rfl⟩]
    | false =>
      rw [if_neg (by decide)]
      cases h2 : digitB (bt s (p : Int)) with
      | true => rw [if_pos rfl, if_pos ⟨by omega, by rw [hw, h2]; simp⟩]
      | false => rw [if_neg (by decide), if_neg (by rintro ⟨_, h⟩; rw [hw, h1, h2] at h; exact absurd h (by decide))]

theorem ref_number (d : ByteArray) (hs : d.size ≤ 65536) (hd : ∀ i : Nat, i < d.size → digitB (bt d (i : Int)) = true) : ∀ (f i k : Nat) (n : Int), i + f = d.size → f < k → 0 ≤ n → n ≤ 2147483648 →
    PLexScans.provisoref10_number.l0 k d n (i : Int) = some (match numF d f i n with | some m => (m, true) | none => (0, false)) := by
  intro f
  induction f with
  | zero =>
    intro i k n hi hk h0 h1
    obtain ⟨k, rfl⟩ : ∃ m, k = m + 1 := ⟨k - 1, by omega⟩
    rw [PLexScans.provisoref10_number.l0, if_neg (by omega)]
    rfl
  | succ f ih =>
    intro i k n hi hk h0 h1
    obtain ⟨k, rfl⟩ : ∃ m, k = m + 1 := ⟨k - 1, by omega⟩
    have ew : wrap64 ((i : Int) + 1) = ((i + 1 : Nat) : Int) := by unfold wrap64; omega
    have hc := hd i (by omega)
    simp only [digitB, Bool.and_eq_true, decide_eq_true_eq] at hc
    have e1 : wrap64 (10 * n) = n * 10 := by unfold wrap64; omega
    have e2 : (bt d (i : Int) - 48) % 256 = bt d (i : Int) - 48 := by omega
    have e3 : wrap64 (n * 10 + (bt d (i : Int) - 48)) = n * 10 + (bt d (i : Int) - 48) := by unfold wrap64; omega
    rw [PLexScans.provisoref10_number.l0, if_pos (by omega), if_pos (by omega), e1, e2, e3, ew]
    simp only [numF]
    by_cases hb : 2147483648 < n * 10 + (bt d (i : Int) - 48)
    · rw [if_pos hb, if_pos hb]
    · rw [if_neg hb, if_neg hb]
      exact ih (i + 1) k _ (by omega) (by omega) (by omega) (by omega)

/-! ### Marks -/
def matchB (s : ByteArray) (p : Nat) (w : ByteArray) : Bool := decide (p + w.size ≤ s.size) && decide ((s.extract p (p + w.size)).toList = w.toList)
def foldM (s : ByteArray) (p : Nat) : List ByteArray → Int → Int × Nat → Int × Nat
  | [], _, b => b
  | w :: r, i, b => foldM s p r (i + 1) (if b.2 < w.size ∧ matchB s p w = true then (i, w.size) else b)

/-- The first word that stands at p in n bytes. -/
def placeN (s : ByteArray) (p n : Nat) (l : List ByteArray) (i : Int) : Option Int := if p + n ≤ s.size then place (s.extract p (p + n)).toList l i else none

theorem toList_size (t : ByteArray) : t.toList.length = t.size := by rw [ByteArray.toList_eq, data_length]
theorem ext_size (s : ByteArray) (p n : Nat) (h : p + n ≤ s.size) : (s.extract p (p + n)).size = n := by rw [ByteArray.size_extract]; omega

theorem match_n (s : ByteArray) (p n : Nat) (w : ByteArray) (h : p + n ≤ s.size) (hw : w.size = n) : matchB s p w = decide ((s.extract p (p + n)).toList = w.toList) := by
  unfold matchB
  rw [hw, decide_eq_true h, Bool.true_and]
theorem no_match (s : ByteArray) (p n : Nat) (w : ByteArray) (h : ¬ p + n ≤ s.size) (hw : w.size = n) : matchB s p w = false := by
  unfold matchB
  rw [hw, decide_eq_false h, Bool.false_and]

theorem placeN_cons (s : ByteArray) (p n : Nat) (w : ByteArray) (l : List ByteArray) (i : Int) (h : w.size = n) : placeN s p n (w :: l) i = if matchB s p w = true then some i else placeN s p n l (i + 1) := by
  unfold placeN
  by_cases hp : p + n ≤ s.size
  · rw [if_pos hp, if_pos hp, match_n s p n w hp h, place]
    by_cases c : (s.extract p (p + n)).toList = w.toList
    · rw [if_pos c, if_pos (decide_eq_true c)]
    · rw [if_neg c, if_neg (by simp [c])]
  · rw [if_neg hp, if_neg hp, no_match s p n w hp h, if_neg (by decide)]
theorem placeN_other (s : ByteArray) (p n : Nat) (w : ByteArray) (l : List ByteArray) (i : Int) (h : w.size ≠ n) : placeN s p n (w :: l) i = placeN s p n l (i + 1) := by
  unfold placeN
  by_cases hp : p + n ≤ s.size
  · rw [if_pos hp, if_pos hp, place, if_neg]
    intro e
    have := congrArg List.length e
    rw [toList_size, toList_size, ext_size s p n hp] at this
    exact h this.symm
  · rw [if_neg hp, if_neg hp]

theorem fold_eq (s : ByteArray) (p : Nat) : ∀ (l : List ByteArray) (i : Int) (b : Int × Nat), (∀ w, w ∈ l → w.size = 1 ∨ w.size = 2) → b.2 ≤ 2 →
    foldM s p l i b = if b.2 = 2 then b else match placeN s p 2 l i with
      | some j => (j, 2)
      | none => if b.2 = 1 then b else match placeN s p 1 l i with
        | some j => (j, 1)
        | none => b
  | [], i, b, _, _ => by
    have e2 : placeN s p 2 [] i = none := by unfold placeN; split <;> rfl
    have e1 : placeN s p 1 [] i = none := by unfold placeN; split <;> rfl
    rw [e2, e1]
    simp only [foldM, ite_self]
  | w :: r, i, b, hl, hb => by
    have ih := fun b' h => fold_eq s p r (i + 1) b' (fun w' hw' => hl w' (List.mem_cons_of_mem _ hw')) h
    rw [foldM]
    rcases hl w List.mem_cons_self with h1 | h2
    · rw [placeN_other s p 2 w r i (by omega), placeN_cons s p 1 w r i h1, h1]
      by_cases c : b.2 < 1 ∧ matchB s p w = true
      · rw [if_pos c, ih _ (by simp), if_pos c.2]
        have hb0 : b.2 = 0 := by omega
        simp [hb0]
      · rw [if_neg c, ih b hb]
        by_cases b2 : b.2 = 2
        · simp [b2]
        · by_cases b1 : b.2 = 1
          · simp [b1]
          · have hm : ¬ matchB s p w = true := fun h => c ⟨by omega, h⟩
            rw [if_neg hm]
    · rw [placeN_cons s p 2 w r i h2, placeN_other s p 1 w r i (by omega), h2]
      by_cases c : b.2 < 2 ∧ matchB s p w = true
      · rw [if_pos c, ih _ (by simp), if_pos c.2]
        have hb0 : ¬ b.2 = 2 := by omega
        simp [hb0]
      · rw [if_neg c, ih b hb]
        by_cases b2 : b.2 = 2
        · simp [b2]
        · have hm : ¬ matchB s p w = true := fun h => c ⟨by omega, h⟩
          rw [if_neg hm]

theorem place_shift (t : List UInt8) (c : Int) : ∀ (l : List ByteArray) (i : Int), place t l (i + c) = (place t l i).map (· + c)
  | [], _ => rfl
  | w :: r, i => by
    simp only [place]
    by_cases h : t = w.toList
    · rw [if_pos h, if_pos h]; rfl
    · rw [if_neg h, if_neg h, show i + c + 1 = (i + 1) + c by omega]; exact place_shift t c r (i + 1)
theorem place_skip (t : List UInt8) : ∀ (l1 l2 : List ByteArray) (i : Int), (∀ w, w ∈ l1 → t ≠ w.toList) → place t (l1 ++ l2) i = place t l2 (i + l1.length)
  | [], l2, i, _ => by simp
  | w :: r, l2, i, h => by
    rw [List.cons_append, place, if_neg (h w List.mem_cons_self), place_skip t r l2 (i + 1) (fun w' hw => h w' (List.mem_cons_of_mem _ hw))]
    congr 1
    simp only [List.length_cons]
    omega

theorem ws_letters : ∀ w, w ∈ ws.take 22 → letterB (((w.toList.headD 0).toNat : Nat) : Int) = true := by
  have h : (ws.take 22).all (fun w => letterB (((w.toList.headD 0).toNat : Nat) : Int)) = true := by decide +kernel
  exact fun w hw => List.all_eq_true.1 h w hw
theorem ws_marks : ∀ w, w ∈ ws.drop 22 → w.size = 1 ∨ w.size = 2 := by
  have h : (ws.drop 22).all (fun w => decide (w.size = 1) || decide (w.size = 2)) = true := by decide +kernel
  intro w hw
  have := List.all_eq_true.1 h w hw
  simpa using this

theorem bt_head (t : ByteArray) (h : 0 < t.size) : bt t 0 = ((t.toList.headD 0).toNat : Int) := by
  rw [ByteArray.toList_eq]
  obtain ⟨⟨l⟩⟩ := t
  cases l with
  | nil => exact absurd h (by simp [ByteArray.size])
  | cons a r =>
    unfold bt
    rw [dif_pos (by simpa using h)]
    rfl

theorem place_marks (s : ByteArray) (p n : Nat) (hn : 1 ≤ n) (hp : p + n ≤ s.size) (hl : ¬ letterB (bt s (p : Int)) = true) : place (s.extract p (p + n)).toList ws 0 = place (s.extract p (p + n)).toList (ws.drop 22) 22 := by
  have h := place_skip (s.extract p (p + n)).toList (ws.take 22) (ws.drop 22) 0 ?_
  · rw [List.take_append_drop] at h
    rw [h, List.length_take, ws_len]
    rfl
  · intro w hw e
    apply hl
    have h1 := bt_head (s.extract p (p + n)) (by rw [ext_size s p n hp]; omega)
    have h2 := bt_ext s p (p + n) 0 hp (by omega)
    rw [Nat.add_zero] at h2
    rw [← h2, show ((0 : Nat) : Int) = 0 from rfl, h1, e]
    exact ws_letters w hw

theorem kind_marks (s : ByteArray) (p n : Nat) (hn : 1 ≤ n) (hp : p + n ≤ s.size) (hl : ¬ letterB (bt s (p : Int)) = true) :
    kindV (s.extract p (p + n)) = match placeN s p n (ws.drop 22) 25 with | some j => (j, true) | none => (0, false) := by
  unfold kindV placeN
  rw [place_marks s p n hn hp hl, if_pos hp, show (25 : Int) = 22 + 3 from rfl, place_shift]
  cases place (s.extract p (p + n)).toList (ws.drop 22) 22 with
  | none => rfl
  | some j => rfl

/-- The reference's mark is the scanner's. -/
theorem mark_fold (s : ByteArray) (p : Nat) (hp : p < s.size) (hl : ¬ letterB (bt s (p : Int)) = true) :
    foldM s p (ws.drop 22) 25 (0, 0) = match markV s p with | some x => x | none => (0, 0) := by
  rw [fold_eq s p _ _ _ ws_marks (by simp), if_neg (by simp), if_neg (by simp)]
  have k1 := kind_marks s p 1 (Nat.le_refl _) (by omega) hl
  unfold markV
  by_cases h2 : p + 2 ≤ s.size
  · have k2 := kind_marks s p 2 (by omega) h2 hl
    rw [show min 2 (s.size - p) = 1 + 1 by omega]
    simp only [markF, Nat.zero_add]
    rw [k1, k2]
    cases placeN s p 2 (ws.drop 22) 25 with
    | some j => simp
    | none =>
      cases placeN s p 1 (ws.drop 22) 25 with
      | some j => simp
      | none => simp
  · have e2 : placeN s p 2 (ws.drop 22) 25 = none := by unfold placeN; rw [if_neg h2]
    rw [show min 2 (s.size - p) = 0 + 1 by omega, e2]
    simp only [markF, Nat.zero_add]
    rw [k1]
    cases placeN s p 1 (ws.drop 22) 25 with
    | some j => simp
    | none => simp

theorem ref_word2 : ∀ n : Fin 47, PLexScans.provisoref10_Word.f 1 (((n.val : Nat) : Int) + 3) = some (rdOf ByteArray.empty ws ((n.val : Nat) : Int)) := by decide +kernel
theorem ref_word (i k : Nat) (h : i < 47) : PLexScans.provisoref10_Word.f (k + 1) ((i : Int) + 3) = some (rdOf ByteArray.empty ws (i : Int)) :=
  at_rounds (g := fun k => PLexScans.provisoref10_Word.f k ((i : Int) + 3)) (fun k => PLexScans.provisoref10_Word.mono _ k) (k := 1) (by omega) (ref_word2 ⟨i, h⟩)

theorem ref_mark_loop (s : ByteArray) (hs : s.size ≤ 65536) (p : Nat) (hp : p < s.size) : ∀ (d i k : Nat) (b : Int) (z : Nat), i + d = 47 → 22 ≤ i → d + 1 < k →
    PLexScans.provisoref10_mark.l0 k s (p : Int) b (z : Int) ((i : Int) + 3) = some ((foldM s p (ws.drop i) ((i : Int) + 3) (b, z)).1, ((foldM s p (ws.drop i) ((i : Int) + 3) (b, z)).2 : Int)) := by
  intro d
  induction d with
  | zero =>
    intro i k b z hi h22 hk
    obtain ⟨k, rfl⟩ : ∃ m, k = m + 1 := ⟨k - 1, by omega⟩
    rw [PLexScans.provisoref10_mark.l0, if_neg (by omega), List.drop_eq_nil_of_le (by rw [ws_len]; omega)]
    rfl
  | succ d ih =>
    intro i k b z hi h22 hk
    obtain ⟨k, rfl⟩ : ∃ m, k = m + 2 := ⟨k - 2, by omega⟩
    have hl : i < ws.length := by rw [ws_len]; omega
    have e : rdOf ByteArray.empty ws (i : Int) = ws[i] := by simp [rdOf, List.getD_eq_getElem?_getD, List.getElem?_eq_getElem hl]
    have hd : ws.drop i = ws[i] :: ws.drop (i + 1) := List.drop_eq_getElem_cons hl
    have hsz : ws[i].size = 1 ∨ ws[i].size = 2 := by
      refine ws_marks ws[i] ?_
      have h3 : (ws.drop 22)[i - 22]'(by rw [List.length_drop]; omega) = ws[i] := by
        rw [List.getElem_drop]
        congr 1
        omega
      rw [← h3]
      exact List.getElem_mem _
    have ew : wrap64 ((i : Int) + 3 + 1) = ((i + 1 : Nat) : Int) + 3 := by unfold wrap64; omega
    have es : wrap64 ((s.size : Int) - (p : Int)) = (s.size : Int) - (p : Int) := by unfold wrap64; omega
    rw [PLexScans.provisoref10_mark.l0, if_pos (by omega), ref_word i k (by omega), Option.bind_some, e, hd, foldM, ew, es]
    obtain ⟨W, hW⟩ : ∃ W, W = ws[i] := ⟨_, rfl⟩
    rw [← hW] at hsz ⊢
    have ea : wrap64 ((p : Int) + (W.size : Int)) = ((p + W.size : Nat) : Int) := by unfold wrap64; omega
    have ihn := ih (i + 1) (k + 1) b z (by omega) (by omega) (by omega)
    have ihm := ih (i + 1) (k + 1) ((i : Int) + 3) W.size (by omega) (by omega) (by omega)
    rw [show ((i + 1 : Nat) : Int) + 3 = (i : Int) + 3 + 1 by omega] at ihn ihm ⊢
    by_cases c1 : z < W.size
    · rw [if_pos (by omega)]
      by_cases c2 : p + W.size ≤ s.size
      · rw [if_pos (by omega), if_pos (by omega), ea, if_pos (by omega), if_pos (by omega)]
        simp only [Int.toNat_natCast]
        rw [match_n s p W.size W c2 rfl]
        by_cases c3 : (s.extract p (p + W.size)).toList = W.toList
        · rw [if_pos c3, ihm, if_pos ⟨c1, decide_eq_true c3⟩]
        · rw [if_neg c3, ihn, if_neg (fun h => c3 (of_decide_eq_true h.2))]
      · rw [if_neg (by omega), ihn, if_neg (fun h => by rw [no_match s p W.size W c2 rfl] at h; exact absurd h.2 (by decide))]
    · rw [if_neg (by omega), ihn, if_neg (fun h => c1 h.1)]

theorem ref_mark (s : ByteArray) (hs : s.size ≤ 65536) (p k : Nat) (hp : p < s.size) (hl : ¬ letterB (bt s (p : Int)) = true) (hk : 27 ≤ k) :
    PLexScans.provisoref10_mark.f k s (p : Int) = some (match markV s p with | some x => (x.1, (x.2 : Int)) | none => (0, 0)) := by
  have h := ref_mark_loop s hs p hp 25 22 k 0 0 rfl (Nat.le_refl _) (by omega)
  unfold PLexScans.provisoref10_mark.f
  rw [show (((22 : Nat) : Int)) + 3 = 25 from rfl, show ((0 : Nat) : Int) = 0 from rfl, mark_fold s p hp hl] at h
  rw [h]
  cases markV s p with
  | none => rfl
  | some x => rfl

theorem ref_kind_loop (t : ByteArray) : ∀ (d i k : Nat), i + d = 47 → d + 1 < k →
    PLexScans.provisoref10_Kind.l0 k t ((i : Int) + 3) = some (match place t.toList (ws.drop i) (i : Int) with | some j => (j + 3, true) | none => (0, false)) := by
  intro d
  induction d with
  | zero =>
    intro i k hi hk
    obtain ⟨k, rfl⟩ : ∃ m, k = m + 1 := ⟨k - 1, by omega⟩
    simp only [PLexScans.provisoref10_Kind.l0]
    rw [if_neg (by omega), List.drop_eq_nil_of_le (by rw [ws_len]; omega)]
    rfl
  | succ d ih =>
    intro i k hi hk
    obtain ⟨k, rfl⟩ : ∃ m, k = m + 2 := ⟨k - 2, by omega⟩
    have hl : i < ws.length := by rw [ws_len]; omega
    rw [PLexScans.provisoref10_Kind.l0]
    rw [if_pos (by omega), ref_word i k (by omega), List.drop_eq_getElem_cons hl]
    have e : rdOf ByteArray.empty ws (i : Int) = ws[i] := by simp [rdOf, List.getD_eq_getElem?_getD, List.getElem?_eq_getElem hl]
    rw [e]
    simp only [Option.bind_some, place]
    by_cases h : t.toList = ws[i].toList
    · rw [if_pos h, if_pos h.symm]
    · rw [if_neg h, if_neg (fun x => h x.symm)]
      have ew : wrap64 ((i : Int) + 3 + 1) = ((i + 1 : Nat) : Int) + 3 := by unfold wrap64; omega
      rw [ew, ih (i + 1) (k + 1) (by omega) (by omega)]
      rfl
theorem ref_kind (t : ByteArray) (k : Nat) (hk : 49 ≤ k) : PLexScans.provisoref10_Kind.f k t = some (kindV t) := by
  have h := ref_kind_loop t 47 0 k rfl (by omega)
  unfold PLexScans.provisoref10_Kind.f kindV
  rw [List.drop_zero] at h
  exact h

/-- The reference's answer at a place. -/
def oneV (r : Except Int Tok) : Int × Int × Int × Int × ByteArray × Int := match r with | .ok t => (t.f0, t.f1, t.f2, t.f3, t.f4, 0) | .error e => (0, 0, 0, 0, ⟨#[]⟩, e)

theorem ref_num_end (s : ByteArray) (hs : s.size ≤ 65536) (p : Nat) (hp : p ≤ s.size) (k : Nat) (hk : s.size + 2 ≤ k) :
    PLexScans.provisoref10_one.j1 (k + 1) s (p : Int) (runE digitB s p : Int) 0 0 0 0 ⟨#[]⟩ = some (oneV (numAt s p)) := by
  obtain ⟨h1, h2, h3, h4⟩ := runE_spec digitB s p hp
  obtain ⟨k, rfl⟩ : ∃ m, k = m + 1 := ⟨k - 1, by omega⟩
  unfold numAt numR
  obtain ⟨q, hq⟩ : ∃ q, q = runE digitB s p := ⟨_, rfl⟩
  rw [← hq] at h1 h2 h3 h4 ⊢
  have hsz : (s.extract p q).size = q - p := by rw [ByteArray.size_extract]; omega
  have hn := ref_number (s.extract p q) (by omega) (fun i hi => by rw [bt_ext s p q i h2 (by omega)]; exact h3 (p + i) (by omega) (by omega)) (s.extract p q).size 0 (k + 1) 0 (by omega) (by omega) (by omega) (by omega)
  rw [PLexScans.provisoref10_one.j1, if_pos (by omega), if_pos (by omega), if_pos (by omega)]
  simp only [Int.toNat_natCast, PLexScans.provisoref10_number.f]
  rw [show ((0 : Nat) : Int) = 0 from rfl] at hn
  rw [hn]
  cases hN : numF (s.extract p q) (s.extract p q).size 0 0 with
  | none =>
    simp only [Option.bind_some, Option.bind_none]
    rw [if_neg (by decide), PLexScans.provisoref10_one.j2, if_pos rfl]
    rfl
  | some n =>
    simp only [Option.bind_some, if_true]
    by_cases hqs : q < s.size
    · rw [if_pos (by omega), if_pos (by omega), ref_letter, Option.bind_some, PLexScans.provisoref10_one.j2]
      cases hL : letterB (bt s (q : Int)) with
      | true => rw [if_pos rfl, if_pos ⟨hqs, rfl⟩]; rfl
      | false => rw [if_neg (by decide), if_neg (fun h => absurd h.2 (by decide))]; rfl
    · rw [if_neg (by omega), PLexScans.provisoref10_one.j2, if_neg (by decide), if_neg (fun h => hqs h.1)]
      rfl

theorem ref_num_loop (s : ByteArray) (hs : s.size ≤ 65536) (p : Nat) (hp : p ≤ s.size) : ∀ (f x k : Nat), x + f = s.size → runF digitB s f x = runE digitB s p → f + s.size + 10 < k →
    PLexScans.provisoref10_one.l0 k s (p : Int) (x : Int) 0 0 0 0 ⟨#[]⟩ = some (oneV (numAt s p)) := by
  intro f
  induction f with
  | zero =>
    intro x k hx hr hk
    obtain ⟨k, rfl⟩ : ∃ m, k = m + 2 := ⟨k - 2, by omega⟩
    have hr' : x = runE digitB s p := hr
    rw [PLexScans.provisoref10_one.l0, if_neg (by omega), hr']
    exact ref_num_end s hs p hp k (by omega)
  | succ f ih =>
    intro x k hx hr hk
    obtain ⟨k, rfl⟩ : ∃ m, k = m + 2 := ⟨k - 2, by omega⟩
    have ew : wrap64 ((x : Int) + 1) = ((x + 1 : Nat) : Int) := by unfold wrap64; omega
    rw [show runF digitB s (f + 1) x = if x < s.size ∧ digitB (bt s (x : Int)) = true then runF digitB s f (x + 1) else x from rfl] at hr
    rw [PLexScans.provisoref10_one.l0, if_pos (by omega), if_pos (by omega), ref_digit, Option.bind_some]
    cases hD : digitB (bt s (x : Int)) with
    | true =>
      rw [if_pos rfl, ew]
      rw [if_pos ⟨by omega, hD⟩] at hr
      exact ih (x + 1) (k + 1) (by omega) hr (by omega)
    | false =>
      rw [if_neg (by decide)]
      rw [if_neg (fun h => by rw [hD] at h; exact absurd h.2 (by decide))] at hr
      rw [hr]
      exact ref_num_end s hs p hp k (by omega)

theorem ref_one (s : ByteArray) (hs : s.size ≤ 65536) (p : Nat) (hp : p < s.size) (k : Nat) (hk : 2 * s.size + 100 ≤ k) : PLexScans.provisoref10_one.f k s (p : Int) = some (oneV (tokAt s p)) := by
  unfold PLexScans.provisoref10_one.f tokAt
  rw [if_pos (by omega), if_pos (by omega), ref_letter, Option.bind_some]
  cases hL : letterB (bt s (p : Int)) with
  | true =>
    obtain ⟨h1, h2, h3, h4⟩ := runE_spec wordB s p (by omega)
    have hr : PLexScans.provisoref10_run.f k s (p : Int) = some (runE wordB s p : Int) := ref_run s hs (s.size - p) p k (by omega) (by omega)
    rw [if_pos rfl, if_pos rfl, hr, Option.bind_some, if_pos (by omega), if_pos (by omega)]
    simp only [Int.toNat_natCast]
    rw [ref_kind _ k (by omega), Option.bind_some]
    unfold wordAt
    by_cases hk2 : (kindV (s.extract p (runE wordB s p))).2 = true
    · rw [if_pos hk2, if_pos hk2]; rfl
    · rw [if_neg hk2, if_neg hk2, name_ref _ k (by omega), Option.bind_some]
      by_cases hn : nameV (s.extract p (runE wordB s p)) = true
      · rw [if_pos hn, if_pos hn]; rfl
      · rw [if_neg hn, if_neg hn]; rfl
  | false =>
    rw [if_neg (by decide), if_neg (by decide), ref_digit, Option.bind_some]
    cases hD : digitB (bt s (p : Int)) with
    | true =>
      rw [if_pos rfl, if_pos rfl]
      exact ref_num_loop s hs p (by omega) (s.size - p) p k (by omega) rfl (by omega)
    | false =>
      rw [if_neg (by decide), if_neg (by decide), ref_mark s hs p k hp (by rw [hL]; decide) (by omega), Option.bind_some]
      unfold markAt
      have hx := fun n x => markF_some s p n x
      cases hm : markV s p with
      | none => simp only []; rw [if_pos trivial]; rfl
      | some x =>
        obtain ⟨x1, x2⟩ := hx _ x hm
        have hle : p + x.2 ≤ s.size := by omega
        have ea : wrap64 ((p : Int) + (x.2 : Int)) = (p : Int) + (x.2 : Int) := by unfold wrap64; omega
        simp only []
        rw [if_neg (by omega), ea]
        rfl

end Go.Proofs.Ythaejpkldpkddaa.Scn
