/- Tokens written anew with blanks between are scanned as the same: pure. -/
import Derived.Test.YthaejpkldpkddaaDoorViewV
import Derived.Lib.ItoaNum
namespace Go.Proofs.YthaejpkldpkddaaDoor.Scn
open Go.RowKit Go.Proofs.YthaejpkldpkddaaDoorW.PrintWords Go.Proofs.YthaejpkldpkddaaDoorW.PrintLast Go.Proofs.YthaejpkldpkddaaDoorW.PrintMore
set_option linter.unusedVariables false
set_option linter.unusedSimpArgs false

/-! ### Bytes that stand at a place -/
theorem bt_lt (s : ByteArray) (i : Nat) (h : i < s.size) : bt s (i : Int) = ((s[i]'h).toNat : Int) := by
  unfold bt
  rw [dif_pos (by simpa using h)]
  simp only [Int.toNat_natCast]
theorem ba_ext (a b : ByteArray) (hs : a.size = b.size) (h : ∀ i : Nat, i < a.size → bt a (i : Int) = bt b (i : Int)) : a = b := by
  refine ByteArray.ext_getElem hs fun i h1 h2 => ?_
  have := h i h1
  rw [bt_lt a i h1, bt_lt b i h2] at this
  exact UInt8.toNat.inj (by omega)
theorem bt_app_l (a b : ByteArray) (i : Nat) (h : i < a.size) : bt (a ++ b) (i : Int) = bt a (i : Int) := by
  rw [bt_lt a i h, bt_lt (a ++ b) i (by rw [ByteArray.size_append]; omega), ByteArray.getElem_append_left h]
theorem bt_app_r (a b : ByteArray) (i : Nat) (h : i < b.size) : bt (a ++ b) ((a.size + i : Nat) : Int) = bt b (i : Int) := by
  rw [bt_lt b i h, bt_lt (a ++ b) _ (by rw [ByteArray.size_append]; omega), ByteArray.getElem_append_right (by omega)]
  simp
/-- w's bytes stand in u from p on. -/
structure StandAt (u : ByteArray) (p : Nat) (w : ByteArray) : Prop where
  le : p + w.size ≤ u.size
  eq : ∀ i : Nat, i < w.size → bt u ((p + i : Nat) : Int) = bt w (i : Int)
theorem StandAt.extract {u : ByteArray} {p : Nat} {w : ByteArray} (h : StandAt u p w) : u.extract p (p + w.size) = w := by
  have hs : (u.extract p (p + w.size)).size = w.size := by rw [ByteArray.size_extract]; have := h.le; omega
  refine ba_ext _ _ hs fun i hi => ?_
  rw [bt_ext u p _ i h.le (by omega)]
  exact h.eq i (by omega)
theorem stand_extract (s : ByteArray) (p q : Nat) (h1 : p ≤ q) (h2 : q ≤ s.size) : StandAt s p (s.extract p q) := by
  have hs : (s.extract p q).size = q - p := by rw [ByteArray.size_extract]; omega
  exact ⟨by omega, fun i hi => (bt_ext s p q i h2 (by omega)).symm⟩
theorem stand_app (a w b : ByteArray) : StandAt (a ++ (w ++ b)) a.size w := by
  refine ⟨by simp only [ByteArray.size_append]; omega, fun i hi => ?_⟩
  rw [bt_app_r a (w ++ b) i (by rw [ByteArray.size_append]; omega), bt_app_l w b i hi]
theorem StandAt.head {u : ByteArray} {p : Nat} {w : ByteArray} (h : StandAt u p w) (hw : 0 < w.size) : bt u (p : Int) = bt w 0 := h.eq 0 hw

theorem runE_is (P : Int → Bool) (s : ByteArray) (p q : Nat) (h1 : p ≤ q) (h2 : q ≤ s.size) (h3 : ∀ i : Nat, p ≤ i → i < q → P (bt s (i : Int)) = true) (h4 : q < s.size → P (bt s (q : Int)) = false) : runE P s p = q := by
  obtain ⟨a, b, c, d⟩ := runE_spec P s p (by omega)
  rcases Nat.lt_trichotomy (runE P s p) q with h | h | h
  · have := h3 _ a h
    rw [d (by omega)] at this
    exact absurd this (by decide)
  · exact h
  · have := c q h1 h
    rw [h4 (by omega)] at this
    exact absurd this (by decide)

/-! ### A number's digits -/
def numL : List UInt8 → Int → Option Int
  | [], n => some n
  | b :: l, n => if 2147483648 < n * 10 + ((b.toNat : Int) - 48) then none else numL l (n * 10 + ((b.toNat : Int) - 48))
theorem numL_append : ∀ (a b : List UInt8) (n : Int), numL (a ++ b) n = (numL a n).bind (numL b)
  | [], b, n => rfl
  | x :: a, b, n => by
    simp only [List.cons_append, numL]
    split
    · rfl
    · exact numL_append a b _
theorem numF_L (d : ByteArray) : ∀ (f i : Nat) (n : Int), i + f = d.size → numF d f i n = numL (d.data.toList.drop i) n
  | 0, i, n, h => by
    rw [List.drop_eq_nil_of_le (by rw [data_length]; omega)]; rfl
  | f + 1, i, n, h => by
    have hi : i < d.data.toList.length := by rw [data_length]; omega
    rw [List.drop_eq_getElem_cons hi]
    have hb : bt d (i : Int) = ((d.data.toList[i].toNat : Nat) : Int) := by
      rw [bt_lt d i (by omega)]
      rfl
    simp only [numF, numL, ← hb]
    split
    · rfl
    · exact numF_L d f (i + 1) _ (by omega)
theorem dig48 (k : Nat) (h : k < 10) : ((UInt8.ofNat (48 + k)).toNat : Int) = 48 + k := by
  rw [UInt8.toNat_ofNat']
  omega
theorem numL_dec : ∀ (u : Nat), u ≤ 2147483648 → numL (Lib.decDigits u) 0 = some (u : Int) := by
  intro u
  induction u using Nat.strongRecOn with
  | ind u ih =>
    intro h
    by_cases c : u < 10
    · rw [Lib.decDigits_one c]
      simp only [numL, dig48 u c]
      rw [if_neg (by omega)]
      congr 1; omega
    · rw [Lib.decDigits, dif_neg c, numL_append, ih (u / 10) (by omega) (by omega)]
      simp only [Option.bind_some, numL, dig48 (u % 10) (by omega)]
      rw [if_neg (by omega)]
      congr 1; omega
theorem dec_digits : ∀ (u : Nat) (b : UInt8), b ∈ Lib.decDigits u → 48 ≤ b.toNat ∧ b.toNat ≤ 57 := by
  intro u
  induction u using Nat.strongRecOn with
  | ind u ih =>
    intro b hb
    by_cases c : u < 10
    · rw [Lib.decDigits_one c, List.mem_singleton] at hb
      have := dig48 u c
      rw [hb]; omega
    · rw [Lib.decDigits, dif_neg c, List.mem_append, List.mem_singleton] at hb
      rcases hb with hb | hb
      · exact ih (u / 10) (by omega) b hb
      · have := dig48 (u % 10) (by omega)
        rw [hb]; omega
theorem dec_len (u : Nat) : 0 < (Lib.decDigits u).length := by
  by_cases c : u < 10
  · rw [Lib.decDigits_one c]; simp
  · rw [Lib.decDigits, dif_neg c]; simp
/-- What a number says is no less than 0, and not too great. -/
theorem numF_range (d : ByteArray) (hd : ∀ i : Nat, i < d.size → digitB (bt d (i : Int)) = true) : ∀ (f i : Nat) (n m : Int), i + f = d.size → 0 ≤ n → n ≤ 2147483648 → numF d f i n = some m → 0 ≤ m ∧ m ≤ 2147483648
  | 0, i, n, m, h, h1, h2, h3 => by simp only [numF] at h3; cases h3; exact ⟨h1, h2⟩
  | f + 1, i, n, m, h, h1, h2, h3 => by
    have hb := hd i (by omega)
    unfold digitB at hb
    simp only [Bool.and_eq_true, decide_eq_true_eq] at hb
    simp only [numF] at h3
    split at h3
    · cases h3
    · rename_i hno
      exact numF_range d hd f (i + 1) _ m (by omega) (by omega) (by omega) h3

/-! ### Words -/
def wordOf (k : Int) : ByteArray := if k < 3 then ⟨#[]⟩ else if k ≥ 50 then ⟨#[]⟩ else rdOf ByteArray.empty ws (k - 3)
theorem word_some (k : Int) : PLexBlanks.lex_Word.f k = some (wordOf k) := by
  unfold PLexBlanks.lex_Word.f wordOf
  by_cases h1 : k < 3
  · rw [if_pos h1, if_pos h1]
  · rw [if_neg h1, if_neg h1]
    by_cases h2 : k ≥ 50
    · rw [if_pos h2, if_pos h2]
    · rw [if_neg h2, if_neg h2, ws_some]
      have e : wrap64 (k - 3) = k - 3 := by unfold wrap64; omega
      simp only [Option.bind_some, e]
      rw [if_pos (by omega), if_pos (by rw [ws_len]; omega)]
theorem place_get (s : List UInt8) : ∀ (l : List ByteArray) (i j : Int), place s l i = some j → ∃ n : Nat, j = i + n ∧ ∃ h : n < l.length, s = l[n].toList
  | [], i, j, h => by simp [place] at h
  | w :: r, i, j, h => by
    simp only [place] at h
    split at h
    · rename_i e
      cases h
      exact ⟨0, by simp, by simp, e⟩
    · obtain ⟨n, e, h1, h2⟩ := place_get s r (i + 1) j h
      exact ⟨n + 1, by omega, by simp; omega, by simpa using h2⟩
theorem ws_clean : ∀ w, w ∈ ws → 0 < w.size ∧ (∀ b ∈ w.data.toList, b.toNat ≠ 32 ∧ b.toNat ≠ 9 ∧ b.toNat ≠ 10 ∧ b.toNat ≠ 13) ∧ w.data.toList.take 2 ≠ [47, 47] := by
  have h : ws.all (fun w => decide (0 < w.size) && w.data.toList.all (fun b => decide (b.toNat ≠ 32 ∧ b.toNat ≠ 9 ∧ b.toNat ≠ 10 ∧ b.toNat ≠ 13)) && decide (w.data.toList.take 2 ≠ [47, 47])) = true := by decide +kernel
  intro w hw
  have := List.all_eq_true.1 h w hw
  simp only [Bool.and_eq_true, decide_eq_true_eq] at this
  refine ⟨this.1.1, fun b hb => ?_, this.2⟩
  have := List.all_eq_true.1 this.1.2 b hb
  simpa using this
theorem kind_word (w0 : ByteArray) (h : (kindV w0).2 = true) : w0 ∈ ws ∧ wordOf (kindV w0).1 = w0 ∧ 3 ≤ (kindV w0).1 := by
  unfold kindV at h ⊢
  cases hp : place w0.toList ws 0 with
  | none => rw [hp] at h; cases h
  | some j =>
    simp only
    obtain ⟨n, e, hn, hs⟩ := place_get _ _ _ _ hp
    have hn47 : n < 47 := by rw [ws_len] at hn; exact hn
    have ew : w0 = ws[n] := by
      rw [ByteArray.toList_eq, ByteArray.toList_eq] at hs
      exact ByteArray.ext (Array.toList_inj.1 hs)
    refine ⟨ew ▸ List.getElem_mem hn, ?_, by omega⟩
    unfold wordOf
    rw [if_neg (by omega), if_neg (by omega)]
    have e2 : j + 3 - 3 = (n : Int) := by omega
    rw [e2]
    unfold rdOf
    simp only [Int.toNat_natCast]
    rw [List.getD_eq_getElem?_getD, List.getElem?_eq_getElem hn, Option.getD_some]
    exact ew.symm
theorem bt_mem (w : ByteArray) (i : Nat) (h : i < w.size) : ∃ b, b ∈ w.data.toList ∧ bt w (i : Int) = (b.toNat : Int) :=
  ⟨_, List.getElem_mem (l := w.data.toList) (by rw [data_length]; exact h), (bt_lt w i h).trans rfl⟩

/-! ### A token, written anew -/
def wrote (t : Tok) : ByteArray := if t.f0 = 1 then t.f4 else if t.f0 = 2 then ⟨(Lib.itoa t.f3).toArray⟩ else wordOf t.f0
def SameT (t t' : Tok) : Prop := t'.f0 = t.f0 ∧ t'.f3 = t.f3 ∧ t'.f4 = t.f4
def gapB (c : Int) : Prop := c = 32 ∨ c = 9 ∨ c = 10
theorem gap_word {c : Int} (h : gapB c) : wordB c = false := by rcases h with rfl | rfl | rfl <;> decide
theorem gap_digit {c : Int} (h : gapB c) : digitB c = false := by rcases h with rfl | rfl | rfl <;> decide
theorem gap_letter {c : Int} (h : gapB c) : letterB c = false := by rcases h with rfl | rfl | rfl <;> decide
theorem letter_bl {c : Int} (h : letterB c = true) : isBl c = false ∧ c ≠ 47 ∧ wordB c = true := by
  unfold letterB at h
  unfold isBl wordB letterB
  simp only [Bool.or_eq_true, Bool.and_eq_true, decide_eq_true_eq] at h
  refine ⟨?_, by omega, ?_⟩
  · simp only [Bool.or_eq_false_iff, decide_eq_false_iff_not]; omega
  · simp only [Bool.or_eq_true, Bool.and_eq_true, decide_eq_true_eq]; exact .inl h
theorem digit_bl {c : Int} (h : 48 ≤ c ∧ c ≤ 57) : isBl c = false ∧ c ≠ 47 ∧ letterB c = false ∧ digitB c = true := by
  unfold isBl letterB digitB
  refine ⟨?_, by omega, ?_, ?_⟩
  · simp only [Bool.or_eq_false_iff, decide_eq_false_iff_not]; omega
  · simp only [Bool.or_eq_false_iff, Bool.and_eq_false_iff, decide_eq_false_iff_not]; omega
  · simp only [Bool.and_eq_true, decide_eq_true_eq]; omega
/-- What follows a token's bytes: the end, or a blank. -/
def EndsAt (u : ByteArray) (q : Nat) : Prop := q < u.size → gapB (bt u (q : Int))
structure NewT (u : ByteArray) (p : Nat) (w : ByteArray) (t : Tok) : Prop where
  pos : 0 < w.size
  bl : isBl (bt u (p : Int)) = false
  rem : ¬ (bt u (p : Int) = 47 ∧ p + 1 < u.size ∧ bt u ((p + 1 : Nat) : Int) = 47)
  tok : ∃ t', tokAt u p = .ok t' ∧ t'.f2 = ((p + w.size : Nat) : Int) ∧ SameT t t'

theorem run_new (P : Int → Bool) (u w : ByteArray) (p : Nat) (hs : StandAt u p w) (he : EndsAt u (p + w.size)) (hg : ∀ c, gapB c → P c = false) (hw : ∀ i : Nat, i < w.size → P (bt w (i : Int)) = true) : runE P u p = p + w.size := by
  refine runE_is P u p _ (by omega) hs.le (fun i h1 h2 => ?_) (fun h => hg _ (he h))
  have := hs.eq (i - p) (by omega)
  rw [show p + (i - p) = i by omega] at this
  rw [this]
  exact hw _ (by omega)

/-- A word. -/
theorem word_new (s u : ByteArray) (x p : Nat) (hx : x < s.size) (h1 : letterB (bt s (x : Int)) = true) (t : Tok) (h : wordAt s x = .ok t) (hs : StandAt u p (wrote t)) (he : EndsAt u (p + (wrote t).size)) : NewT u p (wrote t) t := by
  have hq := runE_lt wordB s x hx (letter_bl h1).2.2
  obtain ⟨_, hq2, hq3, _⟩ := runE_spec wordB s x (by omega)
  obtain ⟨w0, hw0⟩ : ∃ w0, w0 = s.extract x (runE wordB s x) := ⟨_, rfl⟩
  have hsz : w0.size = runE wordB s x - x := by rw [hw0, ByteArray.size_extract]; omega
  have hwb : ∀ i : Nat, i < w0.size → bt w0 (i : Int) = bt s ((x + i : Nat) : Int) := fun i hi => by rw [hw0]; exact bt_ext s x _ i hq2 (by omega)
  unfold wordAt at h
  rw [← hw0] at h
  have key : wrote t = w0 → NewT u p (wrote t) t := by
    intro e
    rw [e] at hs he ⊢
    have h0 := hs.head (by omega)
    have h00 := hwb 0 (by omega)
    rw [Nat.add_zero] at h00
    have h01 : bt u (p : Int) = bt s (x : Int) := h0.trans h00
    have hl := letter_bl h1
    refine ⟨by omega, by rw [h01]; exact hl.1, fun hc => hl.2.1 (h01 ▸ hc.1), ?_⟩
    have hr := run_new wordB u w0 p hs he (fun c hc => gap_word hc) (fun i hi => by rw [hwb i hi]; exact hq3 _ (by omega) (by omega))
    unfold tokAt
    rw [h01, if_pos h1]
    unfold wordAt
    rw [hr, hs.extract]
    by_cases k1 : (kindV w0).2 = true
    · rw [if_pos k1] at h ⊢
      cases h
      exact ⟨_, rfl, rfl, rfl, rfl, rfl⟩
    · rw [if_neg k1] at h ⊢
      by_cases k2 : nameV w0 = true
      · rw [if_pos k2] at h ⊢
        cases h
        exact ⟨_, rfl, rfl, rfl, rfl, rfl⟩
      · rw [if_neg k2] at h; cases h
  apply key
  by_cases k1 : (kindV w0).2 = true
  · rw [if_pos k1] at h
    cases h
    have hk := kind_word w0 k1
    unfold wrote
    simp only
    rw [if_neg (by omega), if_neg (by omega)]
    exact hk.2.1
  · rw [if_neg k1] at h
    by_cases k2 : nameV w0 = true
    · rw [if_pos k2] at h
      cases h
      unfold wrote
      rw [if_pos rfl]
    · rw [if_neg k2] at h; cases h
/-- A number. -/
theorem num_new (s u : ByteArray) (x p : Nat) (hx : x < s.size) (h1 : ¬ letterB (bt s (x : Int)) = true) (h2 : digitB (bt s (x : Int)) = true) (t : Tok) (h : numAt s x = .ok t) (hs : StandAt u p (wrote t)) (he : EndsAt u (p + (wrote t).size)) : NewT u p (wrote t) t := by
  have hq := runE_lt digitB s x hx h2
  obtain ⟨_, hq2, hq3, _⟩ := runE_spec digitB s x (by omega)
  unfold numAt at h
  cases hr : numR s (s.extract x (runE digitB s x)) (runE digitB s x) with
  | none => rw [hr] at h; cases h
  | some n =>
    rw [hr] at h
    cases h
    obtain ⟨d, hd⟩ : ∃ d, d = s.extract x (runE digitB s x) := ⟨_, rfl⟩
    rw [← hd] at hr
    have hsz : d.size = runE digitB s x - x := by rw [hd, ByteArray.size_extract]; omega
    have hn : 0 ≤ n ∧ n ≤ 2147483648 := by
      unfold numR at hr
      cases hf : numF d d.size 0 0 with
      | none => rw [hf] at hr; cases hr
      | some m =>
        rw [hf] at hr
        simp only [Option.bind_some] at hr
        split at hr
        · cases hr
        · cases hr
          refine numF_range d (fun i hi => ?_) d.size 0 0 n (by omega) (by omega) (by omega) hf
          have e : bt d (i : Int) = bt s ((x + i : Nat) : Int) := by rw [hd]; exact bt_ext s x _ i hq2 (by omega)
          rw [e]
          exact hq3 _ (by omega) (by omega)
    have ew : wrote (⟨2, x, runE digitB s x, n, ⟨#[]⟩⟩ : Tok) = ⟨(Lib.decDigits n.toNat).toArray⟩ := by
      unfold wrote Lib.itoa
      simp only
      rw [if_neg (by decide), if_pos trivial, if_neg (by omega)]
    rw [ew] at hs he ⊢
    obtain ⟨W, hW⟩ : ∃ W : ByteArray, W = ⟨(Lib.decDigits n.toNat).toArray⟩ := ⟨_, rfl⟩
    have hWl : W.data.toList = Lib.decDigits n.toNat := by rw [hW]
    have hWs : W.size = (Lib.decDigits n.toNat).length := by rw [← data_length, hWl]
    rw [← hW] at hs he ⊢
    have hp0 : 0 < W.size := by rw [hWs]; exact dec_len _
    have hdg : ∀ i : Nat, i < W.size → 48 ≤ bt W (i : Int) ∧ bt W (i : Int) ≤ 57 := fun i hi => by
      obtain ⟨b, hb, e⟩ := bt_mem W i hi
      rw [hWl] at hb
      have := dec_digits _ b hb
      rw [e]; omega
    have h0 := hs.head hp0
    have hd0 := digit_bl (hdg 0 hp0)
    have h0' : bt u (p : Int) = bt W ((0 : Nat) : Int) := h0
    refine ⟨hp0, by rw [h0']; exact hd0.1, fun hc => hd0.2.1 (h0' ▸ hc.1), ?_⟩
    have hr2 := run_new digitB u W p hs he (fun c hc => gap_digit hc) (fun i hi => (digit_bl (hdg i hi)).2.2.2)
    have hn2 : numR u W (p + W.size) = some n := by
      unfold numR
      rw [numF_L W W.size 0 0 (by omega), List.drop_zero, hWl, numL_dec _ (by omega)]
      simp only [Option.bind_some]
      rw [if_neg (fun hc => by have := gap_letter (he hc.1); rw [this] at hc; exact absurd hc.2 (by decide))]
      congr 1; omega
    unfold tokAt
    rw [h0', if_neg (by rw [hd0.2.2.1]; decide), if_pos hd0.2.2.2]
    unfold numAt
    rw [hr2, hs.extract, hn2]
    exact ⟨_, rfl, rfl, rfl, rfl, rfl⟩

theorem take_two : ∀ (L : List UInt8) (hl : 2 ≤ L.length), L[0] = 47 → L[1] = 47 → L.take 2 = [47, 47]
  | a :: b :: r, _, h0, h1 => by
    simp only [List.getElem_cons_zero, List.getElem_cons_succ] at h0 h1
    rw [h0, h1]; rfl
theorem markF_kind (s : ByteArray) (p : Nat) : ∀ (n : Nat) (x : Int × Nat), markF s p n = some x → (kindV (s.extract p (p + x.2))).2 = true ∧ (kindV (s.extract p (p + x.2))).1 = x.1
  | 0, x, h => by simp [markF] at h
  | n + 1, x, h => by
    rw [markF] at h
    split at h
    · rename_i hk; cases h; exact ⟨hk, rfl⟩
    · exact markF_kind s p n x h
/-- A mark. -/
theorem mark_new (s u : ByteArray) (x p : Nat) (hx : x < s.size) (h1 : ¬ letterB (bt s (x : Int)) = true) (h2 : ¬ digitB (bt s (x : Int)) = true) (t : Tok) (h : markAt s x = .ok t) (hs : StandAt u p (wrote t)) (he : EndsAt u (p + (wrote t).size)) : NewT u p (wrote t) t := by
  unfold markAt at h
  cases hm : markV s x with
  | none => rw [hm] at h; cases h
  | some y =>
    rw [hm] at h
    cases h
    obtain ⟨hy1, hy2⟩ := markF_some s x _ y hm
    obtain ⟨hk1, hk2⟩ := markF_kind s x _ y hm
    have hle : x + y.2 ≤ s.size := by omega
    obtain ⟨w0, hw0⟩ : ∃ w0, w0 = s.extract x (x + y.2) := ⟨_, rfl⟩
    rw [← hw0] at hk1 hk2
    have hsz : w0.size = y.2 := by rw [hw0, ByteArray.size_extract]; omega
    have hwb : ∀ i : Nat, i < w0.size → bt w0 (i : Int) = bt s ((x + i : Nat) : Int) := fun i hi => by rw [hw0]; exact bt_ext s x _ i hle (by omega)
    obtain ⟨hmem, hword, h3⟩ := kind_word w0 hk1
    obtain ⟨hc1, hc2, hc3⟩ := ws_clean w0 hmem
    have ew : wrote (⟨y.1, x, x + y.2, 0, ⟨#[]⟩⟩ : Tok) = w0 := by
      unfold wrote
      simp only
      rw [if_neg (by omega), if_neg (by omega), ← hk2]
      exact hword
    rw [ew] at hs he ⊢
    have h0 := hs.head hc1
    have h00 := hwb 0 hc1
    rw [Nat.add_zero] at h00
    have h01 : bt u (p : Int) = bt s (x : Int) := h0.trans h00
    have hcl : ∀ i : Nat, i < w0.size → bt w0 (i : Int) ≠ 32 ∧ bt w0 (i : Int) ≠ 9 ∧ bt w0 (i : Int) ≠ 10 ∧ bt w0 (i : Int) ≠ 13 := fun i hi => by
      obtain ⟨b, hb, e⟩ := bt_mem w0 i hi
      have := hc2 b hb
      rw [e]; omega
    have hcl0 := hcl 0 hc1
    have h0' : bt u (p : Int) = bt w0 ((0 : Nat) : Int) := h0
    refine ⟨hc1, ?_, fun hc => ?_, ?_⟩
    · rw [h0']
      unfold isBl
      simp only [Bool.or_eq_false_iff, decide_eq_false_iff_not]
      omega
    · by_cases c : 2 ≤ w0.size
      · have e1 := hs.eq 1 (by omega)
        rw [hc.2.2] at e1
        apply hc3
        have l0 := bt_lt w0 0 (by omega)
        have l1 := bt_lt w0 1 (by omega)
        rw [h0'] at hc
        have b0 : w0.data.toList[0]'(by rw [data_length]; omega) = 47 := UInt8.toNat.inj (by
          have : ((w0.data.toList[0]'(by rw [data_length]; omega)).toNat : Int) = bt w0 ((0 : Nat) : Int) := l0.symm
          have e47 : (47 : UInt8).toNat = 47 := rfl
          omega)
        have b1 : w0.data.toList[1]'(by rw [data_length]; omega) = 47 := UInt8.toNat.inj (by
          have : ((w0.data.toList[1]'(by rw [data_length]; omega)).toNat : Int) = bt w0 ((1 : Nat) : Int) := l1.symm
          have e47 : (47 : UInt8).toNat = 47 := rfl
          omega)
        have hl : 2 ≤ w0.data.toList.length := by rw [data_length]; exact c
        exact take_two _ hl b0 b1
      · have e2 : w0.size = 1 := by omega
        have hg := he (by rw [e2]; exact hc.2.1)
        rw [e2, hc.2.2] at hg
        rcases hg with hg | hg | hg <;> omega
    · unfold tokAt
      rw [h01, if_neg h1, if_neg h2]
      have hmv : markV u p = some y := by
        unfold markV
        have hpl := hs.le
        rcases (by omega : y.2 = 2 ∨ y.2 = 1) with c | c
        · rw [show min 2 (u.size - p) = 1 + 1 by omega, markF]
          have he2 := hs.extract
          rw [hsz, c] at he2
          rw [show p + (1 + 1) = p + 2 from rfl, he2, if_pos hk1, hk2]
          congr 1
          ext1
          · rfl
          · exact c.symm
        · have he1 := hs.extract
          rw [hsz, c] at he1
          have hone : markF u p 1 = some y := by
            rw [markF, show p + (0 + 1) = p + 1 from rfl, he1, if_pos hk1, hk2]
            congr 1
            ext1
            · rfl
            · exact c.symm
          by_cases d : u.size - p = 1
          · rw [d]; exact hone
          · rw [show min 2 (u.size - p) = 1 + 1 by omega, markF, if_neg]
            · exact hone
            · intro hk
              obtain ⟨hm2, _, _⟩ := kind_word _ hk
              obtain ⟨_, hd2, _⟩ := ws_clean _ hm2
              have hsz2 : (u.extract p (p + (1 + 1))).size = 2 := by rw [ByteArray.size_extract]; omega
              obtain ⟨b, hb, e⟩ := bt_mem (u.extract p (p + (1 + 1))) 1 (by omega)
              rw [bt_ext u p _ 1 (by omega) (by omega)] at e
              have hg := he (by omega)
              rw [hsz, c] at hg
              have := hd2 b hb
              rcases hg with hg | hg | hg <;> omega
      unfold markAt
      rw [hmv]
      refine ⟨_, rfl, ?_, rfl, rfl, rfl⟩
      simp only
      rw [hsz]; omega
theorem tok_new (s u : ByteArray) (x p : Nat) (hx : x < s.size) (t : Tok) (h : tokAt s x = .ok t) (hs : StandAt u p (wrote t)) (he : EndsAt u (p + (wrote t).size)) : NewT u p (wrote t) t := by
  unfold tokAt at h
  by_cases h1 : letterB (bt s (x : Int)) = true
  · rw [if_pos h1] at h; exact word_new s u x p hx h1 t h hs he
  · rw [if_neg h1] at h
    by_cases h2 : digitB (bt s (x : Int)) = true
    · rw [if_pos h2] at h; exact num_new s u x p hx h1 h2 t h hs he
    · rw [if_neg h2] at h; exact mark_new s u x p hx h1 h2 t h hs he

/-! ### The gaps -/
def g0 : ByteArray := ⟨#[32]⟩
def g1 : ByteArray := ⟨#[10]⟩
def g2 : ByteArray := ⟨#[32, 47, 47, 32, 120, 32, 121, 10]⟩
def g3 : ByteArray := ⟨#[9, 32, 13]⟩
def IsGap (g : ByteArray) : Prop := g = g0 ∨ g = g1 ∨ g = g2 ∨ g = g3
theorem gap_pos {g : ByteArray} (h : IsGap g) : 0 < g.size := by rcases h with rfl | rfl | rfl | rfl <;> decide
theorem gap_len {g : ByteArray} (h : IsGap g) : g.size ≤ 8 := by rcases h with rfl | rfl | rfl | rfl <;> decide
theorem gap_head {g : ByteArray} (h : IsGap g) : gapB (bt g 0) := by
  unfold gapB
  rcases h with rfl | rfl | rfl | rfl <;> decide
theorem bF_bl (s : ByteArray) (f p : Nat) (h : p < s.size) (hb : isBl (bt s (p : Int)) = true) : blankF s (f + 1) false p = blankF s f false (p + 1) := by
  rw [show blankF s (f + 1) false p = if p < s.size then (if isBl (bt s (p : Int)) = true then blankF s f false (p + 1) else if bt s (p : Int) = 47 ∧ p + 1 < s.size ∧ bt s ((p + 1 : Nat) : Int) = 47 then blankF s f true (p + 2) else p) else p from rfl, if_pos h, if_pos hb]
theorem bF_rem (s : ByteArray) (f p : Nat) (h : p + 1 < s.size) (h1 : bt s (p : Int) = 47) (h2 : bt s ((p + 1 : Nat) : Int) = 47) : blankF s (f + 1) false p = blankF s f true (p + 2) := by
  rw [show blankF s (f + 1) false p = if p < s.size then (if isBl (bt s (p : Int)) = true then blankF s f false (p + 1) else if bt s (p : Int) = 47 ∧ p + 1 < s.size ∧ bt s ((p + 1 : Nat) : Int) = 47 then blankF s f true (p + 2) else p) else p from rfl, if_pos (by omega), if_neg (by rw [h1]; decide), if_pos ⟨h1, h, h2⟩]
theorem bF_in (s : ByteArray) (f p : Nat) (h : p < s.size) (h1 : bt s (p : Int) ≠ 10) : blankF s (f + 1) true p = blankF s f true (p + 1) := by
  rw [show blankF s (f + 1) true p = if p < s.size then (if bt s (p : Int) = 10 then blankF s f false (p + 1) else blankF s f true (p + 1)) else p from rfl, if_pos h, if_neg h1]
theorem bF_out (s : ByteArray) (f p : Nat) (h : p < s.size) (h1 : bt s (p : Int) = 10) : blankF s (f + 1) true p = blankF s f false (p + 1) := by
  rw [show blankF s (f + 1) true p = if p < s.size then (if bt s (p : Int) = 10 then blankF s f false (p + 1) else blankF s f true (p + 1)) else p from rfl, if_pos h, if_pos h1]
theorem bF_stop (s : ByteArray) (f p : Nat) (h1 : isBl (bt s (p : Int)) = false) (h2 : ¬ (bt s (p : Int) = 47 ∧ p + 1 < s.size ∧ bt s ((p + 1 : Nat) : Int) = 47)) : blankF s (f + 1) false p = p := by
  rw [show blankF s (f + 1) false p = if p < s.size then (if isBl (bt s (p : Int)) = true then blankF s f false (p + 1) else if bt s (p : Int) = 47 ∧ p + 1 < s.size ∧ bt s ((p + 1 : Nat) : Int) = 47 then blankF s f true (p + 2) else p) else p from rfl]
  by_cases c : p < s.size
  · rw [if_pos c, if_neg (by rw [h1]; decide), if_neg h2]
  · rw [if_neg c]
theorem gap_blank (u g : ByteArray) (p : Nat) (hg : IsGap g) (hs : StandAt u p g) (hlt : p + g.size < u.size) (h1 : isBl (bt u ((p + g.size : Nat) : Int)) = false) (h2 : ¬ (bt u ((p + g.size : Nat) : Int) = 47 ∧ p + g.size + 1 < u.size ∧ bt u ((p + g.size + 1 : Nat) : Int) = 47)) : blankV u p = p + g.size := by
  have he := hs.eq
  unfold blankV
  rcases hg with rfl | rfl | rfl | rfl
  · have hz : g0.size = 1 := rfl
    rw [hz] at hlt h1 h2 he ⊢
    have e0 : bt u (p : Int) = 32 := (he 0 (by omega)).trans (by decide)
    obtain ⟨k, hk⟩ : ∃ k, u.size - p + 1 = k + 2 := ⟨u.size - p + 1 - 2, by omega⟩
    rw [hk, bF_bl u _ p (by omega) (by rw [e0]; decide), bF_stop u _ _ h1 h2]
  · have hz : g1.size = 1 := rfl
    rw [hz] at hlt h1 h2 he ⊢
    have e0 : bt u (p : Int) = 10 := (he 0 (by omega)).trans (by decide)
    obtain ⟨k, hk⟩ : ∃ k, u.size - p + 1 = k + 2 := ⟨u.size - p + 1 - 2, by omega⟩
    rw [hk, bF_bl u _ p (by omega) (by rw [e0]; decide), bF_stop u _ _ h1 h2]
  · have hz : g2.size = 8 := rfl
    rw [hz] at hlt h1 h2 he ⊢
    have e0 : bt u (p : Int) = 32 := (he 0 (by omega)).trans (by decide)
    have e1 : bt u ((p + 1 : Nat) : Int) = 47 := (he 1 (by omega)).trans (by decide)
    have e2 : bt u ((p + 1 + 1 : Nat) : Int) = 47 := (he 2 (by omega)).trans (by decide)
    have e3 : bt u ((p + 1 + 2 : Nat) : Int) = 32 := (he 3 (by omega)).trans (by decide)
    have e4 : bt u ((p + 1 + 2 + 1 : Nat) : Int) = 120 := (he 4 (by omega)).trans (by decide)
    have e5 : bt u ((p + 1 + 2 + 1 + 1 : Nat) : Int) = 32 := (he 5 (by omega)).trans (by decide)
    have e6 : bt u ((p + 1 + 2 + 1 + 1 + 1 : Nat) : Int) = 121 := (he 6 (by omega)).trans (by decide)
    have e7 : bt u ((p + 1 + 2 + 1 + 1 + 1 + 1 : Nat) : Int) = 10 := (he 7 (by omega)).trans (by decide)
    obtain ⟨k, hk⟩ : ∃ k, u.size - p + 1 = k + 8 := ⟨u.size - p + 1 - 8, by omega⟩
    rw [hk, bF_bl u _ p (by omega) (by rw [e0]; decide), bF_rem u _ _ (by omega) e1 e2, bF_in u _ _ (by omega) (by rw [e3]; decide), bF_in u _ _ (by omega) (by rw [e4]; decide), bF_in u _ _ (by omega) (by rw [e5]; decide), bF_in u _ _ (by omega) (by rw [e6]; decide), bF_out u _ _ (by omega) e7]
    exact bF_stop u _ _ h1 h2
  · have hz : g3.size = 3 := rfl
    rw [hz] at hlt h1 h2 he ⊢
    have e0 : bt u (p : Int) = 9 := (he 0 (by omega)).trans (by decide)
    have e1 : bt u ((p + 1 : Nat) : Int) = 32 := (he 1 (by omega)).trans (by decide)
    have e2 : bt u ((p + 1 + 1 : Nat) : Int) = 13 := (he 2 (by omega)).trans (by decide)
    obtain ⟨k, hk⟩ : ∃ k, u.size - p + 1 = k + 4 := ⟨u.size - p + 1 - 4, by omega⟩
    rw [hk, bF_bl u _ p (by omega) (by rw [e0]; decide), bF_bl u _ _ (by omega) (by rw [e1]; decide), bF_bl u _ _ (by omega) (by rw [e2]; decide)]
    exact bF_stop u _ _ h1 h2

/-! ### All tokens -/
def joinT : List (ByteArray × Tok) → ByteArray
  | [] => ⟨#[]⟩
  | y :: r => y.1 ++ (wrote y.2 ++ joinT r)
theorem ba_nil (a : ByteArray) : a ++ (⟨#[]⟩ : ByteArray) = a := ba_ext _ _ (by rw [ByteArray.size_append]; rfl) (fun i hi => bt_app_l _ _ i (by rw [ByteArray.size_append] at hi; exact hi))
theorem nil_ba (a : ByteArray) : (⟨#[]⟩ : ByteArray) ++ a = a := ByteArray.ext (by simp [ByteArray.data_append])
theorem joinT_snoc : ∀ (r : List (ByteArray × Tok)) (y : ByteArray × Tok), joinT (r ++ [y]) = joinT r ++ (y.1 ++ wrote y.2)
  | [], y => by simp only [List.nil_append, joinT, ba_nil, nil_ba]
  | x :: r, y => by
    simp only [List.cons_append, joinT, joinT_snoc r y, ByteArray.append_assoc]
inductive AllT : List (ByteArray × Tok) → List Tok → Prop
  | nil : AllT [] []
  | cons {y : ByteArray × Tok} {t : Tok} {r : List (ByteArray × Tok)} {m : List Tok} : SameT y.2 t → AllT r m → AllT (y :: r) (t :: m)
theorem AllT.len : ∀ {r : List (ByteArray × Tok)} {m : List Tok}, AllT r m → r.length = m.length
  | _, _, .nil => rfl
  | _, _, .cons _ h => by rw [List.length_cons, List.length_cons, h.len]
theorem AllT.get : ∀ {r : List (ByteArray × Tok)} {m : List Tok}, AllT r m → ∀ (i : Nat) (h1 : i < r.length) (h2 : i < m.length), SameT r[i].2 m[i]
  | _, _, .cons h _, 0, _, _ => h
  | _, _, .cons _ h, i + 1, h1, h2 => h.get i (by simpa using h1) (by simpa using h2)
theorem join_toks (s : ByteArray) : ∀ (r : List (ByteArray × Tok)) (pre u : ByteArray), u = pre ++ joinT r → (∀ y ∈ r, IsGap y.1 ∧ ∃ x : Nat, x < s.size ∧ tokAt s x = .ok y.2) →
    ∃ m, Toks u (blankV u pre.size) m ∧ AllT r m
  | [], pre, u, hu, _ => by
    have e : u = pre := by rw [hu, joinT, ba_nil]
    refine ⟨[], .nil ?_, .nil⟩
    rw [e, blankV_end _ _ (Nat.le_refl _)]
    exact Nat.le_refl _
  | (g, t) :: r, pre, u, hu, hr => by
    obtain ⟨hg, x, hx, ht⟩ := hr _ List.mem_cons_self
    simp only at hg ht
    simp only [joinT] at hu
    have hu2 : u = (pre ++ g) ++ (wrote t ++ joinT r) := by rw [hu, ByteArray.append_assoc]
    have hu3 : u = ((pre ++ g) ++ wrote t) ++ joinT r := by rw [hu2]; simp only [ByteArray.append_assoc]
    have sg : StandAt u pre.size g := by rw [hu]; exact stand_app _ _ _
    have sw : StandAt u (pre ++ g).size (wrote t) := by rw [hu2]; exact stand_app _ _ _
    have he : EndsAt u ((pre ++ g).size + (wrote t).size) := by
      intro hlt
      cases r with
      | nil =>
        exfalso
        rw [hu3, joinT, ba_nil] at hlt
        simp only [ByteArray.size_append] at hlt
        omega
      | cons y r =>
        have hgy := (hr y (List.mem_cons_of_mem _ List.mem_cons_self)).1
        have sy : StandAt u ((pre ++ g) ++ wrote t).size y.1 := by rw [hu3, joinT]; exact stand_app _ _ _
        have := sy.head (gap_pos hgy)
        rw [ByteArray.size_append] at this
        rw [this]
        exact gap_head hgy
    have hn := tok_new s u x _ hx t ht sw he
    rw [ByteArray.size_append] at hn sw he
    have hbl := gap_blank u g pre.size hg sg (by have := sw.le; have := hn.pos; omega) hn.bl hn.rem
    obtain ⟨t', h1, h2, h3⟩ := hn.tok
    obtain ⟨m, hm, hf⟩ := join_toks s r ((pre ++ g) ++ wrote t) u hu3 (fun y hy => hr y (List.mem_cons_of_mem _ hy))
    refine ⟨t' :: m, ?_, .cons h3 hf⟩
    rw [hbl]
    refine .cons (by have := sw.le; have := hn.pos; omega) h1 ?_
    rw [h2]
    simp only [Int.toNat_natCast]
    rw [ByteArray.size_append, ByteArray.size_append] at hm
    exact hm
/-- LexBlanks: what is written anew is scanned as the same, unless it is too long. -/
theorem blanks_law (s : ByteArray) (l : List Tok) (h : scanV s = .ok l) (r : List (ByteArray × Tok)) (hr : r.map Prod.snd = l) (hg : ∀ y ∈ r, IsGap y.1) :
    if 65536 < (joinT r).size then scanV (joinT r) = .error (0, 4) else ∃ m, scanV (joinT r) = .ok m ∧ m.length = l.length ∧ ∀ i (h1 : i < l.length) (h2 : i < m.length), SameT l[i] m[i] := by
  obtain ⟨ht, hl, hs⟩ := scanV_toks s l h
  by_cases c : 65536 < (joinT r).size
  · rw [if_pos c]
    unfold scanV
    rw [if_pos c]
  · rw [if_neg c]
    have hall : ∀ y ∈ r, IsGap y.1 ∧ ∃ x : Nat, x < s.size ∧ tokAt s x = .ok y.2 := by
      intro y hy
      refine ⟨hg y hy, ?_⟩
      have hm : y.2 ∈ l := by rw [← hr]; exact List.mem_map_of_mem hy
      obtain ⟨i, hi, e⟩ := List.getElem_of_mem hm
      obtain ⟨x, q, h1, h2, h3, h4, h5, h6, h7⟩ := toks_get s l _ i hi ht (blankV_le s 0 (by omega)).2 (blankV_twice s 0 (by omega))
      exact ⟨x, by omega, by rw [← e]; exact h6⟩
    obtain ⟨m, hm, hf⟩ := join_toks s r ⟨#[]⟩ (joinT r) (nil_ba _).symm hall
    have hlen : m.length = l.length := by rw [← hf.len, ← hr, List.length_map]
    refine ⟨m, toks_scanV _ m hm (by omega) (by omega), hlen, fun i h1 h2 => ?_⟩
    have hri : i < r.length := by rw [hf.len]; exact h2
    have := hf.get i hri h2
    have e : l[i] = r[i].2 := by
      have : l[i]? = (r.map Prod.snd)[i]? := by rw [hr]
      rw [List.getElem?_map, List.getElem?_eq_getElem h1, List.getElem?_eq_getElem hri] at this
      simpa using this
    rw [e]
    exact this
end Go.Proofs.YthaejpkldpkddaaDoor.Scn
