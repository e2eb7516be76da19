/- What a piece of a text says: blanks, tokens and the whole scan, of the bytes from a to b. -/
import Derived.Test.YthaejpkldpkddaaDoorScanV
namespace Go.Proofs.YthaejpkldpkddaaDoor.Scn
open Go.RowKit Go.Proofs.YthaejpkldpkddaaDoorW.PrintWords Go.Proofs.YthaejpkldpkddaaDoorW.PrintLast Go.Proofs.YthaejpkldpkddaaDoorW.PrintMore
set_option linter.unusedVariables false
set_option linter.unusedSimpArgs false

theorem scanF_len (s : ByteArray) : ∀ (f p : Nat) (l r : List Tok), l.length ≤ 16384 → scanF s f p l = .ok r → r.length ≤ 16384
  | 0, p, l, r, hl, h => by simp only [scanF] at h; cases h; exact hl
  | f + 1, p, l, r, hl, h => by
    rw [scanF] at h
    split at h
    · split at h
      · cases h
      · split at h
        · cases h
        · exact scanF_len s f _ _ r (by rw [List.length_append, List.length_singleton]; omega) h
    · cases h; exact hl
theorem scanV_len (s : ByteArray) (r : List Tok) (h : scanV s = .ok r) : r.length ≤ 16384 := by
  unfold scanV at h
  split at h
  · cases h
  · exact scanF_len s _ _ _ r (by simp) h

theorem ext_len (s : ByteArray) (a b : Nat) (h : b ≤ s.size) : (s.extract a b).size = b - a := by rw [ByteArray.size_extract]; omega
theorem bt_view (s : ByteArray) (a b p : Nat) (hb : b ≤ s.size) (ha : a ≤ p) (h : p < b) : bt (s.extract a b) ((p - a : Nat) : Int) = bt s (p : Int) := by
  rw [bt_ext s a b (p - a) hb (by omega), show a + (p - a) = p by omega]
theorem ext_view (s : ByteArray) (a b p q : Nat) (ha : a ≤ p) (hq : q ≤ b) (h : p ≤ q) : (s.extract a b).extract (p - a) (q - a) = s.extract p q := by
  rw [ByteArray.extract_extract, show a + (p - a) = p by omega, show min (a + (q - a)) b = q by omega]

/-! ### Blanks -/
theorem blank_view (s : ByteArray) (a b : Nat) (hb : b ≤ s.size) : ∀ (f : Nat) (m : Bool) (p g : Nat), a ≤ p → p ≤ b → s.size < p + f → b < p + g → blankF s f m p ≤ b → blankF (s.extract a b) g m (p - a) = blankF s f m p - a
  | 0, m, p, g, h1, h2, h3, h4, h5 => by omega
  | f + 1, m, p, g, h1, h2, h3, h4, h5 => by
    obtain ⟨g, rfl⟩ : ∃ k, g = k + 1 := ⟨g - 1, by omega⟩
    have hu := ext_len s a b hb
    by_cases e : p = b
    · have hle := (blankF_le s (f + 1) m p (by omega)).1
      have : blankF s (f + 1) m p = b := by omega
      rw [this, e]
      cases m <;> (simp only [blankF]; rw [if_neg (by omega)])
    · have hp : p < b := by omega
      have hbt := bt_view s a b p hb h1 hp
      cases m with
      | false =>
        rw [show blankF s (f + 1) false p = if p < s.size then (if isBl (bt s (p : Int)) = true then blankF s f false (p + 1) else if bt s (p : Int) = 47 ∧ p + 1 < s.size ∧ bt s ((p + 1 : Nat) : Int) = 47 then blankF s f true (p + 2) else p) else p from rfl, if_pos (by omega)] at h5 ⊢
        rw [show blankF (s.extract a b) (g + 1) false (p - a) = if p - a < (s.extract a b).size then (if isBl (bt (s.extract a b) ((p - a : Nat) : Int)) = true then blankF (s.extract a b) g false (p - a + 1) else if bt (s.extract a b) ((p - a : Nat) : Int) = 47 ∧ p - a + 1 < (s.extract a b).size ∧ bt (s.extract a b) ((p - a + 1 : Nat) : Int) = 47 then blankF (s.extract a b) g true (p - a + 2) else p - a) else p - a from rfl, if_pos (by omega), hbt]
        by_cases c : isBl (bt s (p : Int)) = true
        · rw [if_pos c] at h5
          rw [if_pos c, if_pos c, show p - a + 1 = p + 1 - a by omega]
          exact blank_view s a b hb f false (p + 1) g (by omega) (by omega) (by omega) (by omega) h5
        · rw [if_neg c] at h5
          rw [if_neg c, if_neg c]
          by_cases d : bt s (p : Int) = 47 ∧ p + 1 < s.size ∧ bt s ((p + 1 : Nat) : Int) = 47
          · rw [if_pos d] at h5
            have hle := (blankF_le s f true (p + 2) (by omega)).1
            have hb2 := bt_view s a b (p + 1) hb (by omega) (by omega)
            rw [if_pos d, if_pos ⟨d.1, by omega, by rw [show p - a + 1 = p + 1 - a by omega, hb2]; exact d.2.2⟩, show p - a + 2 = p + 2 - a by omega]
            exact blank_view s a b hb f true (p + 2) g (by omega) (by omega) (by omega) (by omega) h5
          · rw [if_neg d, if_neg]
            rintro ⟨d1, d2, d3⟩
            have hb2 := bt_view s a b (p + 1) hb (by omega) (by omega)
            rw [show p - a + 1 = p + 1 - a by omega, hb2] at d3
            exact d ⟨d1, by omega, d3⟩
      | true =>
        rw [show blankF s (f + 1) true p = if p < s.size then (if bt s (p : Int) = 10 then blankF s f false (p + 1) else blankF s f true (p + 1)) else p from rfl, if_pos (by omega)] at h5 ⊢
        rw [show blankF (s.extract a b) (g + 1) true (p - a) = if p - a < (s.extract a b).size then (if bt (s.extract a b) ((p - a : Nat) : Int) = 10 then blankF (s.extract a b) g false (p - a + 1) else blankF (s.extract a b) g true (p - a + 1)) else p - a from rfl, if_pos (by omega), hbt, show p - a + 1 = p + 1 - a by omega]
        by_cases c : bt s (p : Int) = 10
        · rw [if_pos c] at h5
          rw [if_pos c, if_pos c]
          exact blank_view s a b hb f false (p + 1) g (by omega) (by omega) (by omega) (by omega) h5
        · rw [if_neg c] at h5
          rw [if_neg c, if_neg c]
          exact blank_view s a b hb f true (p + 1) g (by omega) (by omega) (by omega) (by omega) h5
theorem blankV_view (s : ByteArray) (a b p : Nat) (hb : b ≤ s.size) (h1 : a ≤ p) (h2 : p ≤ b) (h : blankV s p ≤ b) : blankV (s.extract a b) (p - a) = blankV s p - a := by
  unfold blankV
  exact blank_view s a b hb _ false p _ h1 h2 (by omega) (by rw [ext_len s a b hb]; omega) h

/-- Where the blanks end: at the end, or at a byte that is none. -/
theorem blank_stop (s : ByteArray) : ∀ (f : Nat) (m : Bool) (p : Nat), p ≤ s.size → s.size < p + f →
    blankF s f m p = s.size ∨ (blankF s f m p < s.size ∧ ¬ isBl (bt s (blankF s f m p : Int)) = true ∧ ¬ (bt s (blankF s f m p : Int) = 47 ∧ blankF s f m p + 1 < s.size ∧ bt s ((blankF s f m p + 1 : Nat) : Int) = 47))
  | 0, m, p, h1, h2 => by omega
  | f + 1, false, p, h1, h2 => by
    rw [show blankF s (f + 1) false p = if p < s.size then (if isBl (bt s (p : Int)) = true then blankF s f false (p + 1) else if bt s (p : Int) = 47 ∧ p + 1 < s.size ∧ bt s ((p + 1 : Nat) : Int) = 47 then blankF s f true (p + 2) else p) else p from rfl]
    by_cases c : p < s.size
    · rw [if_pos c]
      by_cases d : isBl (bt s (p : Int)) = true
      · rw [if_pos d]; exact blank_stop s f false (p + 1) (by omega) (by omega)
      · rw [if_neg d]
        by_cases e : bt s (p : Int) = 47 ∧ p + 1 < s.size ∧ bt s ((p + 1 : Nat) : Int) = 47
        · rw [if_pos e]; exact blank_stop s f true (p + 2) (by omega) (by omega)
        · rw [if_neg e]; exact .inr ⟨c, d, e⟩
    · rw [if_neg c]; exact .inl (by omega)
  | f + 1, true, p, h1, h2 => by
    rw [show blankF s (f + 1) true p = if p < s.size then (if bt s (p : Int) = 10 then blankF s f false (p + 1) else blankF s f true (p + 1)) else p from rfl]
    by_cases c : p < s.size
    · rw [if_pos c]
      by_cases d : bt s (p : Int) = 10
      · rw [if_pos d]; exact blank_stop s f false (p + 1) (by omega) (by omega)
      · rw [if_neg d]; exact blank_stop s f true (p + 1) (by omega) (by omega)
    · rw [if_neg c]; exact .inl (by omega)
theorem blankV_end (s : ByteArray) (p : Nat) (h : s.size ≤ p) : blankV s p = p := by
  unfold blankV
  simp only [blankF]
  rw [if_neg (by omega)]
theorem blankV_twice (s : ByteArray) (p : Nat) (h : p ≤ s.size) : blankV s (blankV s p) = blankV s p := by
  rcases blank_stop s (s.size - p + 1) false p h (by omega) with e | ⟨e1, e2, e3⟩
  · exact blankV_end s _ (by unfold blankV; omega)
  · show blankV s (blankF s (s.size - p + 1) false p) = blankF s (s.size - p + 1) false p
    generalize blankF s (s.size - p + 1) false p = q at e1 e2 e3 ⊢
    unfold blankV
    rw [show blankF s (s.size - q + 1) false q = if q < s.size then (if isBl (bt s (q : Int)) = true then blankF s (s.size - q) false (q + 1) else if bt s (q : Int) = 47 ∧ q + 1 < s.size ∧ bt s ((q + 1 : Nat) : Int) = 47 then blankF s (s.size - q) true (q + 2) else q) else q from rfl, if_pos e1, if_neg e2, if_neg e3]

/-! ### Tokens -/
theorem run_view (P : Int → Bool) (s : ByteArray) (a b : Nat) (hb : b ≤ s.size) : ∀ (f p g : Nat), a ≤ p → p ≤ b → p + f = s.size → p + g = b → runF P s f p ≤ b → runF P (s.extract a b) g (p - a) = runF P s f p - a
  | f, p, 0, h1, h2, h3, h4, h5 => by
    have := (runF_spec P s f p h3).1
    show p - a = _
    omega
  | 0, p, g + 1, h1, h2, h3, h4, h5 => by omega
  | f + 1, p, g + 1, h1, h2, h3, h4, h5 => by
    have hu := ext_len s a b hb
    have hbt := bt_view s a b p hb h1 (by omega)
    rw [show runF P s (f + 1) p = if p < s.size ∧ P (bt s (p : Int)) = true then runF P s f (p + 1) else p from rfl] at h5 ⊢
    rw [show runF P (s.extract a b) (g + 1) (p - a) = if p - a < (s.extract a b).size ∧ P (bt (s.extract a b) ((p - a : Nat) : Int)) = true then runF P (s.extract a b) g (p - a + 1) else p - a from rfl, hbt]
    by_cases c : P (bt s (p : Int)) = true
    · rw [if_pos ⟨by omega, c⟩] at h5
      rw [if_pos ⟨by omega, c⟩, if_pos ⟨by omega, c⟩, show p - a + 1 = p + 1 - a by omega]
      exact run_view P s a b hb f (p + 1) g (by omega) (by omega) (by omega) (by omega) h5
    · rw [if_neg (fun h => c h.2), if_neg (fun h => c h.2)]
theorem runE_view (P : Int → Bool) (s : ByteArray) (a b p : Nat) (hb : b ≤ s.size) (h1 : a ≤ p) (h2 : p ≤ b) (h : runE P s p ≤ b) : runE P (s.extract a b) (p - a) = runE P s p - a := by
  unfold runE
  exact run_view P s a b hb _ p _ h1 h2 (by omega) (by rw [ext_len s a b hb]; omega) h

theorem markF_less (s : ByteArray) (p : Nat) : ∀ (n m : Nat) (x : Int × Nat), markF s p n = some x → x.2 ≤ m → m ≤ n → markF s p m = some x
  | 0, m, x, h, _, _ => by simp [markF] at h
  | n + 1, m, x, h, h1, h2 => by
    by_cases e : m = n + 1
    · rw [e]; exact h
    · simp only [markF] at h
      split at h
      · cases h; simp at h1; omega
      · exact markF_less s p n m x h h1 (by omega)
theorem markF_view (s : ByteArray) (a b p : Nat) (ha : a ≤ p) : ∀ (n : Nat), p + n ≤ b → markF (s.extract a b) (p - a) n = markF s p n
  | 0, h => rfl
  | n + 1, h => by
    simp only [markF]
    rw [show p - a + (n + 1) = p + (n + 1) - a by omega, ext_view s a b p (p + (n + 1)) ha h (by omega), markF_view s a b p ha n (by omega)]

def backT (t : Tok) (a : Nat) : Tok := ⟨t.f0, t.f1 - a, t.f2 - a, t.f3, t.f4⟩

theorem tokAt_view (s : ByteArray) (a b p : Nat) (hb : b ≤ s.size) (ha : a ≤ p) (hp : p < b) (t : Tok) (h : tokAt s p = .ok t) (ht : t.f2 ≤ b) : tokAt (s.extract a b) (p - a) = .ok (backT t a) := by
  have hu := ext_len s a b hb
  have hbt := bt_view s a b p hb ha hp
  unfold tokAt at h ⊢
  rw [hbt]
  by_cases h1 : letterB (bt s (p : Int)) = true
  · rw [if_pos h1] at h
    rw [if_pos h1]
    have hq := (runE_spec wordB s p (by omega)).1
    have key : runE wordB s p ≤ b → runE wordB (s.extract a b) (p - a) = runE wordB s p - a := runE_view wordB s a b p hb ha (by omega)
    unfold wordAt at h ⊢
    by_cases k1 : (kindV (s.extract p (runE wordB s p))).2 = true
    · rw [if_pos k1] at h
      cases h
      have hle : runE wordB s p ≤ b := by simp at ht; omega
      rw [key hle, ext_view s a b p _ ha hle hq, if_pos k1]
      simp only [backT]
      congr 2 <;> omega
    · rw [if_neg k1] at h
      by_cases k2 : nameV (s.extract p (runE wordB s p)) = true
      · rw [if_pos k2] at h
        cases h
        have hle : runE wordB s p ≤ b := by simp at ht; omega
        rw [key hle, ext_view s a b p _ ha hle hq, if_neg k1, if_pos k2]
        simp only [backT]
        congr 2 <;> omega
      · rw [if_neg k2] at h; cases h
  · rw [if_neg h1] at h
    rw [if_neg h1]
    by_cases h2 : digitB (bt s (p : Int)) = true
    · rw [if_pos h2] at h
      rw [if_pos h2]
      have hq := (runE_spec digitB s p (by omega)).1
      have key : runE digitB s p ≤ b → runE digitB (s.extract a b) (p - a) = runE digitB s p - a := runE_view digitB s a b p hb ha (by omega)
      unfold numAt at h ⊢
      cases hr : numR s (s.extract p (runE digitB s p)) (runE digitB s p) with
      | none => rw [hr] at h; cases h
      | some n =>
        rw [hr] at h
        cases h
        have hle : runE digitB s p ≤ b := by simp at ht; omega
        have hn : numR (s.extract a b) (s.extract p (runE digitB s p)) (runE digitB s p - a) = some n := by
          unfold numR at hr ⊢
          cases hf : numF (s.extract p (runE digitB s p)) (s.extract p (runE digitB s p)).size 0 0 with
          | none => rw [hf] at hr; cases hr
          | some m =>
            rw [hf] at hr
            simp only [Option.bind_some] at hr ⊢
            split at hr
            · cases hr
            · rename_i hno
              rw [if_neg, hr]
              rintro ⟨c1, c2⟩
              rw [bt_view s a b _ hb (by omega) (by omega)] at c2
              exact hno ⟨by omega, c2⟩
        rw [key hle, ext_view s a b p _ ha hle hq, hn]
        simp only [backT]
        congr 2 <;> omega
    · rw [if_neg h2] at h
      rw [if_neg h2]
      unfold markAt at h ⊢
      cases hm : markV s p with
      | none => rw [hm] at h; cases h
      | some x =>
        rw [hm] at h
        cases h
        have hle : p + x.2 ≤ b := by simp at ht; omega
        have hx := markF_some s p _ x hm
        have hm2 : markV (s.extract a b) (p - a) = some x := by
          unfold markV
          rw [hu, markF_view s a b p ha _ (by omega)]
          exact markF_less s p _ _ x hm (by omega) (by omega)
        rw [hm2]
        simp only [backT]
        congr 2 <;> omega

/-! ### The scan -/
/-- The tokens from p on, where no blank stands. -/
inductive Toks (s : ByteArray) : Nat → List Tok → Prop
  | nil {p : Nat} : s.size ≤ p → Toks s p []
  | cons {p : Nat} {t : Tok} {l : List Tok} : p < s.size → tokAt s p = .ok t → Toks s (blankV s t.f2.toNat) l → Toks s p (t :: l)

theorem scanF_toks (s : ByteArray) : ∀ (f p : Nat) (l r : List Tok), p ≤ s.size → s.size < p + f → scanF s f p l = .ok r → ∃ ts, r = l ++ ts ∧ Toks s p ts
  | 0, p, l, r, h1, h2, h => by omega
  | f + 1, p, l, r, h1, h2, h => by
    rw [scanF] at h
    by_cases c : p < s.size
    · rw [if_pos c] at h
      split at h
      · cases h
      · cases ht : tokAt s p with
        | error e => rw [ht] at h; cases h
        | ok t =>
          rw [ht] at h
          obtain ⟨e1, q, e2, hq1, hq2⟩ := tokAt_span s p c t ht
          have hb := blankV_le s q hq2
          have e3 : t.f2.toNat = q := by omega
          have h' : scanF s f (blankV s t.f2.toNat) (l ++ [t]) = .ok r := h
          rw [e3] at h'
          obtain ⟨ts, rfl, hts⟩ := scanF_toks s f _ _ r hb.2 (by omega) h'
          exact ⟨t :: ts, by simp, .cons c ht (by rw [e3]; exact hts)⟩
    · rw [if_neg c] at h
      cases h
      exact ⟨[], by simp, .nil (by omega)⟩
theorem scanV_toks (s : ByteArray) (r : List Tok) (h : scanV s = .ok r) : Toks s (blankV s 0) r ∧ r.length ≤ 16384 ∧ s.size ≤ 65536 := by
  have hl := scanV_len s r h
  unfold scanV at h
  split at h
  · cases h
  · obtain ⟨ts, rfl, hts⟩ := scanF_toks s _ _ _ r (blankV_le s 0 (by omega)).2 (by omega) h
    exact ⟨by simpa using hts, hl, by omega⟩
theorem toks_scanF (s : ByteArray) : ∀ (ts : List Tok) (f p : Nat) (l : List Tok), p ≤ s.size → s.size < p + f → l.length + ts.length ≤ 16384 → Toks s p ts → scanF s f p l = .ok (l ++ ts)
  | ts, 0, p, l, h1, h2, h3, h => by omega
  | [], f + 1, p, l, h1, h2, h3, h => by
    cases h with
    | nil h => rw [scanF, if_neg (by omega)]; simp
  | t :: ts, f + 1, p, l, h1, h2, h3, h => by
    cases h with
    | cons c ht h =>
      rw [List.length_cons] at h3
      obtain ⟨e1, q, e2, hq1, hq2⟩ := tokAt_span s p c t ht
      have hb := blankV_le s q hq2
      have e3 : t.f2.toNat = q := by omega
      rw [scanF, if_pos c, if_neg (by omega), ht]
      show scanF s f (blankV s t.f2.toNat) (l ++ [t]) = _
      rw [toks_scanF s ts f _ _ (by rw [e3]; exact hb.2) (by rw [e3]; omega) (by rw [List.length_append, List.length_singleton]; omega) h]
      simp
theorem toks_scanV (s : ByteArray) (r : List Tok) (h : Toks s (blankV s 0) r) (hl : r.length ≤ 16384) (hs : s.size ≤ 65536) : scanV s = .ok r := by
  unfold scanV
  rw [if_neg (by omega), toks_scanF s r _ _ [] (blankV_le s 0 (by omega)).2 (by omega) (by simpa using hl) h]
  simp

/-- A token, where it stands. -/
theorem toks_get (s : ByteArray) : ∀ (ts : List Tok) (p i : Nat) (hi : i < ts.length), Toks s p ts → p ≤ s.size → blankV s p = p →
    ∃ x y : Nat, ts[i].f1 = x ∧ ts[i].f2 = y ∧ p ≤ x ∧ x < y ∧ y ≤ s.size ∧ tokAt s x = .ok ts[i] ∧ blankV s x = x
  | [], p, i, hi, _, _, _ => by simp at hi
  | t :: ts, p, 0, hi, h, hp, hb => by
    cases h with
    | cons c ht h =>
      obtain ⟨e1, q, e2, hq1, hq2⟩ := tokAt_span s p c t ht
      exact ⟨p, q, e1, e2, Nat.le_refl _, hq1, hq2, ht, hb⟩
  | t :: ts, p, i + 1, hi, h, hp, hb => by
    cases h with
    | cons c ht h =>
      obtain ⟨e1, q, e2, hq1, hq2⟩ := tokAt_span s p c t ht
      have e3 : t.f2.toNat = q := by omega
      rw [e3] at h
      have hbl := blankV_le s q hq2
      obtain ⟨x, y, h1, h2, h3, h4, h5, h6, h7⟩ := toks_get s ts _ i (by simpa using hi) h hbl.2 (blankV_twice s q hq2)
      exact ⟨x, y, h1, h2, by omega, h4, h5, h6, h7⟩

/-- LexAlone: a token by itself. -/
theorem alone (s : ByteArray) (r : List Tok) (h : scanV s = .ok r) (i : Nat) (hi : i < r.length) :
    ∃ x y : Nat, r[i].f1 = x ∧ r[i].f2 = y ∧ x < y ∧ y ≤ s.size ∧ s.size ≤ 65536 ∧ scanV (s.extract x y) = .ok [backT r[i] x] := by
  obtain ⟨ht, hl, hs⟩ := scanV_toks s r h
  obtain ⟨x, y, h1, h2, h3, h4, h5, h6, h7⟩ := toks_get s r _ i hi ht (blankV_le s 0 (by omega)).2 (blankV_twice s 0 (by omega))
  refine ⟨x, y, h1, h2, h4, h5, hs, ?_⟩
  have hu := ext_len s x y h5
  have hv := tokAt_view s x y x h5 (Nat.le_refl _) h4 _ h6 (by omega)
  rw [Nat.sub_self] at hv
  have hb := blankV_view s x y x h5 (Nat.le_refl _) (by omega) (by omega)
  rw [h7, Nat.sub_self] at hb
  refine toks_scanV _ _ ?_ (by simp) (by omega)
  rw [hb]
  refine .cons (by omega) hv ?_
  have e : (backT r[i] x).f2.toNat = y - x := by simp only [backT, h2]; omega
  rw [e]
  have hbe := (blankV_le (s.extract x y) (y - x) (by omega)).1
  exact .nil (by omega)

/-- LexBegins: the tokens of a beginning. -/
theorem begins_toks (s : ByteArray) : ∀ (ts : List Tok) (p k E : Nat) (hk : k < ts.length), Toks s p ts → p ≤ s.size → ts[k].f2 = (E : Int) →
    p < E ∧ E ≤ s.size ∧ Toks (s.extract 0 E) p (ts.take (k + 1))
  | [], p, k, E, hk, _, _, _ => by simp at hk
  | t :: ts, p, 0, E, hk, h, hp, hE => by
    cases h with
    | cons c ht h =>
      obtain ⟨e1, q, e2, hq1, hq2⟩ := tokAt_span s p c t ht
      have hE' : t.f2 = (E : Int) := hE
      have hqE : q = E := by omega
      subst hqE
      have hu := ext_len s 0 q hq2
      have hv := tokAt_view s 0 q p hq2 (by omega) hq1 t ht (by omega)
      refine ⟨hq1, hq2, ?_⟩
      have hb0 : backT t 0 = t := by cases t; simp [backT]
      rw [hb0] at hv
      refine .cons (by omega) hv ?_
      have e3 : t.f2.toNat = q := by omega
      rw [e3]
      have := (blankV_le (s.extract 0 q) q (by omega)).1
      simp only [List.take_zero]
      exact .nil (by omega)
  | t :: ts, p, k + 1, E, hk, h, hp, hE => by
    cases h with
    | cons c ht h =>
      obtain ⟨e1, q, e2, hq1, hq2⟩ := tokAt_span s p c t ht
      have e3 : t.f2.toNat = q := by omega
      rw [e3] at h
      have hbl := blankV_le s q hq2
      obtain ⟨h1, h2, h3⟩ := begins_toks s ts _ k E (by simpa using hk) h hbl.2 hE
      have hu := ext_len s 0 E h2
      have hv := tokAt_view s 0 E p h2 (by omega) (by omega) t ht (by omega)
      have hb0 : backT t 0 = t := by cases t; simp [backT]
      rw [hb0] at hv
      refine ⟨by omega, h2, ?_⟩
      rw [List.take_succ_cons]
      refine .cons (by omega) hv ?_
      have hbv := blankV_view s 0 E q h2 (by omega) (by omega) (by omega)
      simp only [Nat.sub_zero] at hbv
      rw [e3, hbv]
      exact h3
theorem begins (s : ByteArray) (r : List Tok) (h : scanV s = .ok r) (k : Nat) (hk : k < r.length) :
    ∃ E : Nat, r[k].f2 = (E : Int) ∧ E ≤ s.size ∧ s.size ≤ 65536 ∧ scanV (s.extract 0 E) = .ok (r.take (k + 1)) := by
  obtain ⟨ht, hl, hs⟩ := scanV_toks s r h
  have hb0 := blankV_le s 0 (by omega)
  obtain ⟨x, y, h1, h2, h3, h4, h5, h6, h7⟩ := toks_get s r _ k hk ht hb0.2 (blankV_twice s 0 (by omega))
  obtain ⟨g1, g2, g3⟩ := begins_toks s r _ k y hk ht hb0.2 h2
  refine ⟨y, h2, h5, hs, ?_⟩
  have hu := ext_len s 0 y h5
  refine toks_scanV _ _ ?_ (by rw [List.length_take]; omega) (by omega)
  have hbv := blankV_view s 0 y 0 h5 (Nat.le_refl _) (by omega) (by omega)
  simp only [Nat.sub_zero] at hbv
  rw [hbv]
  exact g3

/-- LexLost: the tokens behind a place, with blanks alone between. -/
inductive Lost (s : ByteArray) : Nat → List Tok → Prop
  | nil {p : Nat} : p ≤ s.size → blankV (s.extract p s.size) 0 = (s.extract p s.size).size → Lost s p []
  | cons {p x y : Nat} {t : Tok} {l : List Tok} : t.f1 = (x : Int) → t.f2 = (y : Int) → p ≤ x → x < y → y ≤ s.size → blankV (s.extract p x) 0 = (s.extract p x).size → Lost s y l → Lost s p (t :: l)
theorem toks_lost (s : ByteArray) : ∀ (ts : List Tok) (p : Nat), p ≤ s.size → Toks s (blankV s p) ts → Lost s p ts
  | [], p, hp, h => by
    have hb := blankV_le s p hp
    cases h with
    | nil h =>
      refine .nil hp ?_
      have hv := blankV_view s p s.size p (Nat.le_refl _) (Nat.le_refl _) hp hb.2
      rw [Nat.sub_self] at hv
      rw [hv, ext_len s p s.size (Nat.le_refl _)]
      omega
  | t :: ts, p, hp, h => by
    have hb := blankV_le s p hp
    cases h with
    | cons c ht h =>
      obtain ⟨e1, q, e2, hq1, hq2⟩ := tokAt_span s _ c t ht
      have e3 : t.f2.toNat = q := by omega
      rw [e3] at h
      have hv := blankV_view s p (blankV s p) p hb.2 (Nat.le_refl _) hb.1 (Nat.le_refl _)
      rw [Nat.sub_self] at hv
      exact .cons e1 e2 hb.1 hq1 hq2 (by rw [hv, ext_len s p _ hb.2]) (toks_lost s ts q hq2 h)
theorem scan_lost (s : ByteArray) (r : List Tok) (h : scanV s = .ok r) : Lost s 0 r := toks_lost s r 0 (Nat.zero_le _) (scanV_toks s r h).1
end Go.Proofs.YthaejpkldpkddaaDoor.Scn
