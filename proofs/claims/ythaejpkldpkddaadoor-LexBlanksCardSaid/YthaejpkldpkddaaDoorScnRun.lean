/- lex.scanner's run: the longest run of letters and digits, or of digits. -/
import Derived.Test.YthaejpkldpkddaaDoorScnBlanks
import Derived.Test.YthaejpkldpkddaaDoorPLexBlanksx3
import Derived.Test.YthaejpkldpkddaaDoorLexK
import Derived.Lib.Hide
namespace Go.Proofs.YthaejpkldpkddaaDoor.Scn
open Go.RowKit Go.Proofs.YthaejpkldpkddaaDoorW.PrintWords Go.Proofs.YthaejpkldpkddaaDoorW.PrintLast Go.Proofs.YthaejpkldpkddaaDoorW.PrintMore
set_option linter.unusedVariables false
set_option linter.unusedSimpArgs false
theorem drewN_set (w : World) (n : Nat) (a : Addr) (v : Value) : (w.drewN n).setCell a v = (w.setCell a v).drewN n := by
  unfold World.drewN World.setCell
  split <;> rfl
theorem drewN_new (w : World) (n : Nat) (o : Obj) : (w.drewN n).alloc o = (w.alloc o).drewN n := rfl
attribute [local go_sem] drewN_set drewN_new

theorem cut_str (s : ByteArray) (p i : Nat) (h : p ≤ i) (hi : i ≤ s.size) (W : World) : (Instr.slice 9 (.string s) (some (.int .i64 (p : Int))) (some (.int .i64 (i : Int))) none).run Tryd.prog W = .ok (.string (s.extract p i)) W := by
  have := run_slice_string (P := Tryd.prog) W 9 s .i64 .i64 (p : Int) (i : Int) Tryd.underlying9 (by omega) (by omega) (by omega)
  simpa using this

def letterB (c : Int) : Bool := decide (c = 95) || (decide (97 ≤ c) && decide (c ≤ 122)) || (decide (65 ≤ c) && decide (c ≤ 90))
def digitB (c : Int) : Bool := decide (48 ≤ c) && decide (c ≤ 57)
def wordB (c : Int) : Bool := letterB c || digitB c

theorem letter_is (c : Int) : PLexBlanks.lex_letter.f c = some (letterB c) := by
  unfold PLexBlanks.lex_letter.f letterB
  by_cases h1 : c = 95
  · rw [if_pos h1]; simp [h1]
  · rw [if_neg h1]
    by_cases h2 : c ≥ 97
    · rw [if_pos h2]
      by_cases h3 : c ≤ 122
      · rw [if_pos h3]; simp [h2, h3]
      · rw [if_neg h3, if_pos (by omega)]
        have : ¬ c ≤ 90 := by omega
        simp [h1, h3, this]
    · rw [if_neg h2]
      by_cases h3 : c ≥ 65
      · rw [if_pos h3]; simp [h1, h2, h3]
      · rw [if_neg h3]; simp [h1, h2, h3]
theorem digit_is (c : Int) : PLexBlanks.lex_digit.f c = some (digitB c) := by
  unfold PLexBlanks.lex_digit.f digitB
  by_cases h : c ≥ 48
  · rw [if_pos h]; simp [h]
  · rw [if_neg h]; simp [h]
theorem letter_any (c : Int) (w : World) : Calls Tryd.prog 13 #[.int .u8 c] w fun e w' => e = .returned (.bool (letterB c)) ∧ Drawn0 w w' := PLexBlanks.lex_letter.calls c _ w (letter_is c)
theorem digit_any (c : Int) (w : World) : Calls Tryd.prog 15 #[.int .u8 c] w fun e w' => e = .returned (.bool (digitB c)) ∧ Drawn0 w w' := PLexBlanks.lex_digit.calls c _ w (digit_is c)

set_option maxHeartbeats 1000000 in
set_option maxRecDepth 100000 in
theorem word1_any (c : Int) (w : World) : Calls Tryd.prog 21 #[.int .u8 c] w fun e w' => e = .returned (.bool (wordB c)) ∧ Drawn0 w w' := by
  unfold wordB
  cases h : letterB c with
  | true =>
    go_enter Tryd.func21, Tryd.ntmps21
    go_wp2_with (go_at_call 13; refine (letter_any _ _).mono ?_; rintro e w1 ⟨rfl, ⟨⟨n1, rfl⟩⟩⟩)
    go_ret
    exact ⟨rfl, ⟨⟨_, rfl⟩⟩⟩
  | false =>
    go_enter Tryd.func21, Tryd.ntmps21
    go_wp2_with (first | (go_at_call 13; refine (letter_any _ _).mono ?_; rintro e w1 ⟨rfl, ⟨⟨n1, rfl⟩⟩⟩) | (go_at_call 15; refine (digit_any _ _).mono ?_; rintro e w1 ⟨rfl, ⟨⟨n2, rfl⟩⟩⟩))
    go_ret
    exact ⟨by simp, ⟨⟨_, rfl⟩⟩⟩

set_option maxHeartbeats 2000000 in
set_option maxRecDepth 100000 in
theorem run_word (g : Nat) (s : ByteArray) (p q : Nat) (tl : TL) (w0 w : World) (hs : s.size ≤ 65536) (hI : IsS41 w0 w g s (p : Int) tl) (hpq : p ≤ q) (hq : q ≤ s.size)
    (hall : ∀ i : Nat, p ≤ i → i < q → wordB (bt s (i : Int)) = true) (hend : q < s.size → wordB (bt s (q : Int)) = false) :
    Calls Tryd.prog 20 #[.pointer (some ⟨g, 0, none⟩), .func (.func 21) #[] #[]] w fun e w' => e = .returned (.string (s.extract p q)) ∧ Drawn0 w w' := by
  obtain ⟨A2, c2, hb, hg, rfl, rfl⟩ := hI
  have h0 := cellS41_0 hb
  have h1 := cellS41_1 hb
  have HA := Lib.hid hall
  have HE := Lib.hid hend
  clear hall hend hb
  go_enter Tryd.func20, Tryd.ntmps20
  go_wp2
  go_loopw [5] (fun x w' => ∃ i n : Nat, p ≤ i ∧ i ≤ q ∧ x = .int .i64 (i : Int) ∧ w' = w.drewN n) (fun x _ => q - (intOf x).toNat)
  case atStart => exact ⟨p, 0, Nat.le_refl _, hpq, rfl, rfl⟩
  case round =>
    obtain ⟨i, n, hi1, hi2, rfl, rfl⟩ := hrel
    by_cases hlt : i < q
    · have hsz : i < s.size := by omega
      have hbt : ((s[i]'hsz).toNat : Int) = bt s (i : Int) := bt_at s (i : Int) (by simpa using hsz)
      have hw : wordB ((s[i]'hsz).toNat : Int) = true := by rw [hbt]; exact HA.out i hi1 hlt
      clear hbt
      go_wp2_with (go_at_call 21; refine (word1_any _ _).mono ?_; rintro e w1 ⟨rfl, ⟨⟨n1, rfl⟩⟩⟩)
      go_roundw
      case rel => exact ⟨i + 1, n + n1, by omega, by omega, by go_num, by simp⟩
      case measure => simp [intOf]; omega
    · have hiq := Lib.hid (show i = q by omega)
      have hsl := cut_str s p i hi1 (by omega)
      by_cases hsz : i < s.size
      · have hbt : ((s[i]'hsz).toNat : Int) = bt s (i : Int) := bt_at s (i : Int) (by simpa using hsz)
        have hw : wordB ((s[i]'hsz).toNat : Int) = false := by rw [hbt, hiq.out]; exact HE.out (by have := hiq.out; omega)
        clear hbt
        go_wp2_with (go_at_call 21; refine (word1_any _ _).mono ?_; rintro e w1 ⟨rfl, ⟨⟨n1, rfl⟩⟩⟩)
        go_quiet (fail)
        go_wp2
        go_ret
        exact ⟨by rw [← hiq.out]; rfl, by repeat (first | exact Drawn0.refl _ | apply Drawn0.step)⟩
      · go_wp2
        go_quiet (fail)
        go_wp2
        go_ret
        exact ⟨by rw [← hiq.out]; rfl, by repeat (first | exact Drawn0.refl _ | apply Drawn0.step)⟩
set_option maxHeartbeats 2000000 in
set_option maxRecDepth 100000 in
theorem run_digit (g : Nat) (s : ByteArray) (p q : Nat) (tl : TL) (w0 w : World) (hs : s.size ≤ 65536) (hI : IsS41 w0 w g s (p : Int) tl) (hpq : p ≤ q) (hq : q ≤ s.size)
    (hall : ∀ i : Nat, p ≤ i → i < q → digitB (bt s (i : Int)) = true) (hend : q < s.size → digitB (bt s (q : Int)) = false) :
    Calls Tryd.prog 20 #[.pointer (some ⟨g, 0, none⟩), .func (.func 15) #[] #[]] w fun e w' => e = .returned (.string (s.extract p q)) ∧ Drawn0 w w' := by
  obtain ⟨A2, c2, hb, hg, rfl, rfl⟩ := hI
  have h0 := cellS41_0 hb
  have h1 := cellS41_1 hb
  have HA := Lib.hid hall
  have HE := Lib.hid hend
  clear hall hend hb
  go_enter Tryd.func20, Tryd.ntmps20
  go_wp2
  go_loopw [5] (fun x w' => ∃ i n : Nat, p ≤ i ∧ i ≤ q ∧ x = .int .i64 (i : Int) ∧ w' = w.drewN n) (fun x _ => q - (intOf x).toNat)
  case atStart => exact ⟨p, 0, Nat.le_refl _, hpq, rfl, rfl⟩
  case round =>
    obtain ⟨i, n, hi1, hi2, rfl, rfl⟩ := hrel
    by_cases hlt : i < q
    · have hsz : i < s.size := by omega
      have hbt : ((s[i]'hsz).toNat : Int) = bt s (i : Int) := bt_at s (i : Int) (by simpa using hsz)
      have hw : digitB ((s[i]'hsz).toNat : Int) = true := by rw [hbt]; exact HA.out i hi1 hlt
      clear hbt
      go_wp2_with (go_at_call 15; refine (digit_any _ _).mono ?_; rintro e w1 ⟨rfl, ⟨⟨n1, rfl⟩⟩⟩)
      go_roundw
      case rel => exact ⟨i + 1, n + n1, by omega, by omega, by go_num, by simp⟩
      case measure => simp [intOf]; omega
    · have hiq := Lib.hid (show i = q by omega)
      have hsl := cut_str s p i hi1 (by omega)
      by_cases hsz : i < s.size
      · have hbt : ((s[i]'hsz).toNat : Int) = bt s (i : Int) := bt_at s (i : Int) (by simpa using hsz)
        have hw : digitB ((s[i]'hsz).toNat : Int) = false := by rw [hbt, hiq.out]; exact HE.out (by have := hiq.out; omega)
        clear hbt
        go_wp2_with (go_at_call 15; refine (digit_any _ _).mono ?_; rintro e w1 ⟨rfl, ⟨⟨n1, rfl⟩⟩⟩)
        go_quiet (fail)
        go_wp2
        go_ret
        exact ⟨by rw [← hiq.out]; rfl, by repeat (first | exact Drawn0.refl _ | apply Drawn0.step)⟩
      · go_wp2
        go_quiet (fail)
        go_wp2
        go_ret
        exact ⟨by rw [← hiq.out]; rfl, by repeat (first | exact Drawn0.refl _ | apply Drawn0.step)⟩

end Go.Proofs.YthaejpkldpkddaaDoor.Scn
