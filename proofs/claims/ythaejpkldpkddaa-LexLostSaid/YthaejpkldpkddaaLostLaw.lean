/- provisolaw10.LexLost: its walk. -/
import Derived.Test.YthaejpkldpkddaaAwake
namespace Go.Proofs.Ythaejpkldpkddaa.Scn
open Go.RowKit Go.Proofs.YthaejpkldpkddaaW.PrintWords Go.Proofs.YthaejpkldpkddaaW.PrintLast Go.Proofs.YthaejpkldpkddaaW.PrintMore
set_option linter.unusedVariables false
set_option linter.unusedSimpArgs false
attribute [local go_sem] drewN_set drewN_new

set_option maxHeartbeats 4000000 in
set_option maxRecDepth 100000 in
theorem lost_law (s : ByteArray) (w : World) (hs : s.size ≤ 140737488351232) : Calls Try.prog 5 #[.string s] w fun e w' => e = .returned (.bool true) ∧ Below w.heap.size w w' := by
  have HS := Lib.hid (fun W => scan_any s W)
  have HL := Lib.hid (scan_lost s)
  have HZ := Lib.hid (fun r h => (scanV_toks s r h).2)
  have HA := Lib.hid awake_any
  obtain ⟨R, hR⟩ : ∃ R, R = scanV s := ⟨_, rfl⟩
  rw [← hR] at HS HL HZ
  clear hR
  cases R with
  | error x =>
    clear HL HZ
    go_enter Try.func5, Try.ntmps5
    go_wp2_with (first | (go_at_call 15; refine (HA.out _).mono ?_; rintro e w1 ⟨rfl, b1⟩) | (go_at_call 16; refine (HS.out _).mono ?_; rintro e w2 ⟨rfl, b2⟩))
    go_ret
    exact ⟨rfl, b1.trans (b2.mono b1.size)⟩
  | ok l =>
    have hl : Lost s 0 l := HL.out l rfl
    obtain ⟨hl1, hs1⟩ := HZ.out l rfl
    have hu36 := Try.underlying36
    have HLL := Lib.hid hl
    clear HL HZ hl
    go_enter Try.func5, Try.ntmps5
    go_wp2_with (first | (go_at_call 15; refine (HA.out _).mono ?_; rintro e w1 ⟨rfl, b1⟩) | (go_at_call 16; refine (HS.out _).mono ?_; rintro e w2 ⟨A, c, rfl, ho, b2⟩))
    have hb : Below w.heap.size w w2 := b1.trans (b2.mono b1.size)
    have HC := Lib.hid (Kd.R_reads' ho).2.2
    have HB := Lib.hid hb
    clear ho hb b1 b2
    go_loopg [5, 22] (l.length + 1) (fun f v5 v22 W => ∃ (i p : Nat), v5 = .int .i64 (p : Int) ∧ v22 = .int .i64 (i : Int) ∧ i + f = l.length + 1 ∧ p ≤ s.size ∧ Hid (Lost s p (l.drop i)) ∧ Hid (PLexScans.k36.C W A l.length l) ∧ Hid (Below w.heap.size w W))
    case atStart => exact ⟨0, 0, rfl, rfl, by omega, Nat.zero_le _, by simpa using HLL, HC, HB⟩
    case round =>
      obtain ⟨i, p, rfl, rfl, hi, hp, HD, HC2, HB2⟩ := hrel
      clear HC HB HLL
      by_cases hlt : i < l.length
      · have hD := HD.out
        rw [List.drop_eq_getElem_cons hlt] at hD
        cases hD with
        | @cons _ x y _ _ hx hy h1 h2 h3 hbl hrest =>
        obtain ⟨ad, e1, c0, c1, c2, c3, c4⟩ := PLexScans.at_T36 HC2.out (i : Int) (by omega) (by omega)
        have hrd : PLexScans.rd_T36 l (i : Int) = l[i] := by simp [PLexScans.rd_T36, List.getD_eq_getElem?_getD, hlt]
        rw [hrd] at c0 c1 c2 c3 c4
        simp only [Int.toNat_natCast] at c0 c1 c2 c3 c4
        rw [hx] at c1
        rw [hy] at c2
        cases e1
        have hcut := cut_str s p x h1 (by omega)
        have hsz : (s.extract p x).size ≤ 65536 := by rw [ext_len s p x (by omega)]; omega
        have HBK := Lib.hid (show ∀ W, Calls Try.prog 17 #[.string (s.extract p x)] W fun e w' => e = .returned (.bool true) ∧ Drawn0 W w' from fun W => by have h := blank_any (s.extract p x) hsz W; rw [decide_eq_true hbl] at h; exact h)
        have HR := Lib.hid hrest
        have d1 : decide ((i : Int) < (l.length : Int)) = true := by simp; omega
        have d2 : decide ((x : Int) < (p : Int)) = false := by simp; omega
        have d3 : decide ((y : Int) ≤ (x : Int)) = false := by simp; omega
        have d4 : decide ((s.size : Int) < (y : Int)) = false := by simp; omega
        clear hx hy hbl hrest hrd hsz
        go_wp2_with (go_at_call 17; refine (HBK.out _).mono ?_; rintro e w1 ⟨rfl, ⟨⟨n1, rfl⟩⟩⟩)
        obtain ⟨f, rfl⟩ : ∃ f, gk = f + 1 := ⟨gk - 1, by omega⟩
        go_roundg f
        case measure => omega
        case rel => exact ⟨i + 1, y, rfl, by simp, by omega, h3, HR, Lib.hid (Kd.C_below HC2.out (pw_below_drewN (below_alloc (Below.refl _ _) _) _)), Lib.hid (pw_below_drewN (below_alloc HB2.out _) _)⟩
      · have hd : decide ((i : Int) < (l.length : Int)) = false := by simp; omega
        have hD := HD.out
        rw [List.drop_eq_nil_of_le (by omega)] at hD
        cases hD with
        | nil h1 hbl =>
        have hcut : ∀ W, (Instr.slice 9 (.string s) (some (.int .i64 (p : Int))) none none).run Try.prog W = .ok (.string (s.extract p s.size)) W := fun W => by
          have := run_slice_string_from_if (P := Try.prog) W 9 s .i64 (p : Int) Try.underlying9
          rw [if_pos (by omega)] at this
          simpa using this
        have hsz : (s.extract p s.size).size ≤ 65536 := by rw [ext_len s p s.size (Nat.le_refl _)]; omega
        have HBK := Lib.hid (show ∀ W, Calls Try.prog 17 #[.string (s.extract p s.size)] W fun e w' => e = .returned (.bool true) ∧ Drawn0 W w' from fun W => by have h := blank_any (s.extract p s.size) hsz W; rw [decide_eq_true hbl] at h; exact h)
        clear hbl hsz
        go_wp2_with (go_at_call 17; refine (HBK.out _).mono ?_; rintro e w1 ⟨rfl, ⟨⟨n1, rfl⟩⟩⟩)
        go_ret
        exact ⟨rfl, pw_below_drewN HB2.out _⟩
theorem lost_row (s : ByteArray) (w : World) (hs : s.size ≤ 140737488351232) : Calls Try.prog 5 #[.string s] w fun e w' => e = .returned (.bool true) ∧ Below w.heap.size w w' := lost_law s w hs
end Go.Proofs.Ythaejpkldpkddaa.Scn
