/- lex.Line: which line and place it answers, as a plain function of the bytes. -/
import Derived.Test.YthaejpkldpkddaaPLexLinesx0
import Derived.Lib.Hide
namespace Go.Proofs.Ythaejpkldpkddaa.Line
open Go.RowKit Go.Proofs.YthaejpkldpkddaaW.PrintWords Go.Proofs.YthaejpkldpkddaaW.PrintLast Go.Proofs.YthaejpkldpkddaaW.PrintMore
attribute [local go_sem] max2_int min2_int max_two min_two

/-- The line, and where it begins, behind the first p bytes. -/
def st (s : ByteArray) : Nat → Int × Int
  | 0 => (1, 0)
  | p + 1 => if bt s (p : Int) = 10 then ((st s p).1 + 1, (p : Int) + 1) else st s p

theorem st_range (s : ByteArray) : ∀ p : Nat, 1 ≤ (st s p).1 ∧ (st s p).1 ≤ p + 1 ∧ 0 ≤ (st s p).2 ∧ (st s p).2 ≤ p
  | 0 => by simp [st]
  | p + 1 => by
    have := st_range s p
    simp only [st]
    split
    · show 1 ≤ (st s p).1 + 1 ∧ (st s p).1 + 1 ≤ ((p + 1 : Nat) : Int) + 1 ∧ 0 ≤ (p : Int) + 1 ∧ (p : Int) + 1 ≤ ((p + 1 : Nat) : Int)
      omega
    · omega

/-- Bytes without a line's end turn nothing. -/
theorem st_clear (s : ByteArray) (p : Nat) : ∀ n : Nat, (∀ j, j < n → bt s ((p + j : Nat) : Int) ≠ 10) → st s (p + n) = st s p
  | 0, _ => rfl
  | n + 1, h => by
    rw [show p + (n + 1) = (p + n) + 1 by omega, st, if_neg (h n (by omega)), st_clear s p n (fun j hj => h j (by omega))]

theorem get_bt (s : ByteArray) (i k : Nat) (h : i + k < s.size) : ((s.get! (i + k)).toNat : Int) = bt s ((i + k : Nat) : Int) := by
  have h' : (((i + k : Nat) : Int)).toNat < s.size := by rw [Int.toNat_natCast]; exact h
  unfold bt
  rw [dif_pos h']
  simp only [Int.toNat_natCast]
  have : s.get! (i + k) = s[i + k]'h := get_at s (i + k) h
  rw [this]

/-- What a rune that is not of one byte steps over: no byte of it is a line's end, and it lies in the text. -/
theorem decode_clear (s : ByteArray) (p : Nat) (h : p < s.size) (hb : 128 ≤ bt s (p : Int)) :
    p + (Utf8.decode s p).2 ≤ s.size ∧ ∀ j, j < (Utf8.decode s p).2 → bt s ((p + j : Nat) : Int) ≠ 10 := by
  have g0 := get_bt s p 0 (by omega)
  have hn : ¬ (s.get! (p + 0)).toNat < 128 := by
    have : ((s.get! (p + 0)).toNat : Int) = bt s (p : Int) := g0
    omega
  have one : ∀ j, j < 1 → bt s ((p + j : Nat) : Int) ≠ 10 := by
    intro j hj
    obtain rfl : j = 0 := by omega
    rw [Nat.add_zero]
    omega
  have cont : ∀ k, (decide (p + k < s.size) && (s.get! (p + k)).toNat / 64 == 2) = true → p + k < s.size ∧ bt s ((p + k : Nat) : Int) ≠ 10 := by
    intro k hk
    simp only [Bool.and_eq_true, decide_eq_true_eq, beq_iff_eq] at hk
    have := get_bt s p k hk.1
    exact ⟨hk.1, by omega⟩
  simp only [Utf8.decode, hn, if_false]
  split
  · rename_i h1
    simp only [Bool.and_eq_true] at h1
    have c1 := cont 1 (by simp only [Bool.and_eq_true]; exact h1.2)
    split
    · refine ⟨by simp only []; omega, fun j hj => ?_⟩
      simp only [] at hj
      have : j = 0 ∨ j = 1 := by omega
      rcases this with rfl | rfl
      · exact one 0 (by omega)
      · exact c1.2
    · exact ⟨by simp only []; omega, one⟩
  · split
    · rename_i h1
      simp only [Bool.and_eq_true] at h1
      have c1 := cont 1 (by simp only [Bool.and_eq_true]; exact h1.1.2)
      have c2 := cont 2 (by simp only [Bool.and_eq_true]; exact h1.2)
      split
      · refine ⟨by simp only []; omega, fun j hj => ?_⟩
        simp only [] at hj
        have : j = 0 ∨ j = 1 ∨ j = 2 := by omega
        rcases this with rfl | rfl | rfl
        · exact one 0 (by omega)
        · exact c1.2
        · exact c2.2
      · exact ⟨by simp only []; omega, one⟩
    · split
      · rename_i h1
        simp only [Bool.and_eq_true] at h1
        have c1 := cont 1 (by simp only [Bool.and_eq_true]; exact h1.1.1.2)
        have c2 := cont 2 (by simp only [Bool.and_eq_true]; exact h1.1.2)
        have c3 := cont 3 (by simp only [Bool.and_eq_true]; exact h1.2)
        split
        · refine ⟨by simp only []; omega, fun j hj => ?_⟩
          simp only [] at hj
          have : j = 0 ∨ j = 1 ∨ j = 2 ∨ j = 3 := by omega
          rcases this with rfl | rfl | rfl | rfl
          · exact one 0 (by omega)
          · exact c1.2
          · exact c2.2
          · exact c3.2
        · exact ⟨by simp only []; omega, one⟩
      · exact ⟨by simp only []; omega, one⟩

/-- One rune: the state behind it, in the rune's own word. -/
theorem st_rune (s : ByteArray) (p : Nat) (h : p < s.size) : p + (Utf8.decode s p).2 ≤ s.size ∧ 1 ≤ (Utf8.decode s p).2 ∧
    st s (p + (Utf8.decode s p).2) = if (Utf8.decode s p).1 = 10 then ((st s p).1 + 1, (p : Int) + 1) else st s p := by
  have hb : ((s[p]'h).toNat : Int) = bt s (p : Int) := by
    have := get_bt s p 0 (by omega)
    rw [get_at s p h] at this
    exact this
  by_cases ha : (s[p]'h).toNat < 128
  · rw [decode_ascii s p h ha]
    refine ⟨by simp only []; omega, Nat.le_refl _, ?_⟩
    simp only [st]
    by_cases e : (s[p]'h).toNat = 10
    · rw [if_pos (by omega), if_pos e]
    · rw [if_neg (by omega), if_neg e]
  · obtain ⟨h1, h2⟩ := decode_clear s p h (by omega)
    obtain ⟨h3, h4⟩ := decode_high s p h (by omega)
    exact ⟨h1, h4, by rw [if_neg (by omega)]; exact st_clear s p _ h2⟩

/-- A beginning of a text has the text's own bytes. -/
theorem bt_take (s : ByteArray) (n p : Nat) (hn : n ≤ s.size) (h : p < n) : bt (s.extract 0 n) (p : Int) = bt s (p : Int) := by
  have hs : (s.extract 0 n).size = n := by rw [ByteArray.size_extract]; omega
  unfold bt
  rw [dif_pos (by simp [hs]; omega), dif_pos (by simp; omega)]
  simp [ByteArray.getElem_extract]
theorem st_take (s : ByteArray) (n : Nat) (hn : n ≤ s.size) : ∀ p : Nat, p ≤ n → st (s.extract 0 n) p = st s p
  | 0, _ => rfl
  | p + 1, h => by simp only [st]; rw [bt_take s n p hn (by omega), st_take s n hn p (by omega)]

set_option maxHeartbeats 1000000 in
set_option maxRecDepth 1000000 in
theorem line_core (s : ByteArray) (n : Nat) (hs : s.size ≤ 140737488351232) (hn : n ≤ s.size) (w : World) :
    Calls Try.prog 9 #[.string s, .int .i64 (n : Int)] w fun e w' => e = .returned (.tuple #[.int .i64 (st s n).1, .int .i64 ((n : Int) - (st s n).2 + 1)]) ∧ Below w.heap.size w w' := by
  go_enter Try.func9, Try.ntmps9
  go_wp2
  have hz : (s.extract 0 n).size = n := by rw [ByteArray.size_extract]; omega
  obtain ⟨t, ht⟩ : ∃ t, t = s.extract 0 n := ⟨_, rfl⟩
  rw [← ht] at hz ⊢
  have hst : Hid (st t n = st s n) := Lib.hid (by rw [ht]; exact st_take s n hn n (Nat.le_refl _))
  clear ht
  go_loopw [6, 7] (fun x y w' => ∃ p : Nat, p ≤ n ∧ w' = w.iter t p ∧ x = .int .i64 (st t p).1 ∧ y = .int .i64 (st t p).2) (fun _ _ w' => n - w'.iterPos w.heap.size)
  case atStart => exact ⟨0, by omega, rfl, rfl, rfl⟩
  case round =>
    obtain ⟨p, hp, rfl, rfl, rfl⟩ := hrel
    have hr := st_range t p
    by_cases hlt : p < n
    · have hnx : ∀ ty, (Instr.next (.pointer (some ⟨w.heap.size, 0, none⟩)) true ty).run Try.prog (w.iter t p) = _ := fun ty => run_next_any w t p ty (by omega)
      obtain ⟨h1, h2, h3⟩ := st_rune t p (by omega)
      have H3 := Lib.hid h3
      clear h3
      by_cases e : (Utf8.decode t p).1 = 10
      · have E := Lib.hid e
        have e' : (((Utf8.decode t p).1 : Int) == 10) = true := by rw [e]; rfl
        clear e
        go_wp2
        go_roundw
        case rel => exact ⟨p + (Utf8.decode t p).2, by omega, rfl, by rw [H3.out, if_pos E.out], by rw [H3.out, if_pos E.out]⟩
        case measure => simp; omega
      · have E := Lib.hid e
        have e' : (((Utf8.decode t p).1 : Int) == 10) = false := by simp; omega
        clear e
        go_wp2
        go_roundw
        case rel => exact ⟨p + (Utf8.decode t p).2, by omega, rfl, by rw [H3.out, if_neg E.out], by rw [H3.out, if_neg E.out]⟩
        case measure => simp; omega
    · have hnx : ∀ ty, (Instr.next (.pointer (some ⟨w.heap.size, 0, none⟩)) true ty).run Try.prog (w.iter t p) = _ := fun ty => run_next_end w t p ty (by omega)
      obtain rfl : p = n := by omega
      go_wp2
      go_ret2
      exact ⟨by rw [hst.out]; rfl, (Below.refl _ _).alloc (Nat.le_refl _) _⟩

set_option maxHeartbeats 1000000 in
set_option maxRecDepth 1000000 in
theorem line_high (s : ByteArray) (a : Int) (hs : s.size ≤ 140737488351232) (ha : (s.size : Int) < a) (w : World) :
    Calls Try.prog 9 #[.string s, .int .i64 a] w fun e w' => e = .returned (.tuple #[.int .i64 (st s s.size).1, .int .i64 ((s.size : Int) - (st s s.size).2 + 1)]) ∧ Below w.heap.size w w' := by
  go_enter Try.func9, Try.ntmps9
  go_wp2
  go_loopw [6, 7] (fun x y w' => ∃ p : Nat, p ≤ s.size ∧ w' = w.iter s p ∧ x = .int .i64 (st s p).1 ∧ y = .int .i64 (st s p).2) (fun _ _ w' => s.size - w'.iterPos w.heap.size)
  case atStart => exact ⟨0, by omega, rfl, rfl, rfl⟩
  case round =>
    obtain ⟨p, hp, rfl, rfl, rfl⟩ := hrel
    have hr := st_range s p
    by_cases hlt : p < s.size
    · have hnx : ∀ ty, (Instr.next (.pointer (some ⟨w.heap.size, 0, none⟩)) true ty).run Try.prog (w.iter s p) = _ := fun ty => run_next_any w s p ty (by omega)
      obtain ⟨h1, h2, h3⟩ := st_rune s p (by omega)
      have H3 := Lib.hid h3
      clear h3
      by_cases e : (Utf8.decode s p).1 = 10
      · have E := Lib.hid e
        have e' : (((Utf8.decode s p).1 : Int) == 10) = true := by rw [e]; rfl
        clear e
        go_wp2
        go_roundw
        case rel => exact ⟨p + (Utf8.decode s p).2, by omega, rfl, by rw [H3.out, if_pos E.out], by rw [H3.out, if_pos E.out]⟩
        case measure => simp; omega
      · have E := Lib.hid e
        have e' : (((Utf8.decode s p).1 : Int) == 10) = false := by simp; omega
        clear e
        go_wp2
        go_roundw
        case rel => exact ⟨p + (Utf8.decode s p).2, by omega, rfl, by rw [H3.out, if_neg E.out], by rw [H3.out, if_neg E.out]⟩
        case measure => simp; omega
    · have hnx : ∀ ty, (Instr.next (.pointer (some ⟨w.heap.size, 0, none⟩)) true ty).run Try.prog (w.iter s p) = _ := fun ty => run_next_end w s p ty (by omega)
      have hps := Lib.hid (show p = s.size by omega)
      go_wp2
      go_ret2
      exact ⟨by rw [← hps.out]; rfl, (Below.refl _ _).alloc (Nat.le_refl _) _⟩

set_option maxHeartbeats 1000000 in
set_option maxRecDepth 1000000 in
theorem line_low (s : ByteArray) (a : Int) (hs : s.size ≤ 140737488351232) (ha : a < 0) (w : World) :
    Calls Try.prog 9 #[.string s, .int .i64 a] w fun e w' => e = .returned (.tuple #[.int .i64 (st s 0).1, .int .i64 (((0 : Nat) : Int) - (st s 0).2 + 1)]) ∧ Below w.heap.size w w' := by
  go_enter Try.func9, Try.ntmps9
  go_wp2
  go_loopw [6, 7] (fun x y w' => w' = w.iter ByteArray.empty 0 ∧ x = .int .i64 1 ∧ y = .int .i64 0) (fun _ _ w' => 0)
  case atStart => exact ⟨rfl, rfl, rfl⟩
  case round =>
    obtain ⟨rfl, rfl, rfl⟩ := hrel
    have hnx : ∀ ty, (Instr.next (.pointer (some ⟨w.heap.size, 0, none⟩)) true ty).run Try.prog (w.iter ByteArray.empty 0) = _ := fun ty => run_next_end w ByteArray.empty 0 ty (by simp)
    go_wp2
    go_ret2
    exact ⟨rfl, (Below.refl _ _).alloc (Nat.le_refl _) _⟩
/-- The place, clamped into the text. -/
def clamp (s : ByteArray) (a : Int) : Nat := if a < 0 then 0 else if (s.size : Int) < a then s.size else a.toNat
theorem clamp_le (s : ByteArray) (a : Int) : clamp s a ≤ s.size := by unfold clamp; (repeat' split) <;> omega

/-- lex.Line at every text and place. -/
theorem line_any (s : ByteArray) (a : Int) (hs : s.size ≤ 140737488351232) (w : World) :
    Calls Try.prog 9 #[.string s, .int .i64 a] w fun e w' => e = .returned (.tuple #[.int .i64 (st s (clamp s a)).1, .int .i64 ((clamp s a : Int) - (st s (clamp s a)).2 + 1)]) ∧ Below w.heap.size w w' := by
  unfold clamp
  split
  · rename_i h; exact line_low s a hs h w
  · split
    · rename_i h; exact line_high s a hs h w
    · have e : a = ((a.toNat : Nat) : Int) := by omega
      have := line_core s a.toNat hs (by omega) w
      rw [← e] at this ⊢
      exact this

end Go.Proofs.Ythaejpkldpkddaa.Line
