/- The reference's sameExprs: its walk. Printed by tools/mk11r.py. -/
import Derived.Test.YtpimociplmpfcaaSameC
import Derived.Deep.RegionWith
namespace Go.Proofs.Ytpimociplmpfcaa.Sam
open Go.RowKit Go.Proofs.YtpimociplmpfcaaW.PrintWords Go.Proofs.YtpimociplmpfcaaW.PrintLast Go.Proofs.YtpimociplmpfcaaW.PrintMore Go.Proofs.Ytpimociplmpfcaa.PParseSames
set_option linter.unusedVariables false
set_option linter.unusedSimpArgs false
attribute [local go_sem] drewN_set drewN_new

set_option maxHeartbeats 8000000 in
set_option maxRecDepth 100000 in
theorem q26 (P : S49 → S49 → Bool) (a b : List S49) (A : Option Addr) (c : Nat) (A' : Option Addr) (c' : Nat) (w : World) (ha : Kd.C k49 w A a.length a) (hca : a.length ≤ c) (hb : Kd.C k49 w A' b.length b) (hcb : b.length ≤ c')
    (hk : ∀ x y, x ∈ a → y ∈ b → ∀ (A4a : Option Addr) (c4a : Nat) (A4b : Option Addr) (c4b : Nat), ∀ W, Kd.C k49 W A4a x.f4.length x.f4 → x.f4.length ≤ c4a → Kd.C k49 W A4b y.f4.length y.f4 → y.f4.length ≤ c4b → Calls Try.prog 30 #[.agg #[.int .i64 x.f0, .int .i64 x.f1, .string x.f2, .int .i64 x.f3, .slice A4a x.f4.length c4a, .int .u8 x.f5, .int .i64 x.f6, .int .i64 x.f7], .agg #[.int .i64 y.f0, .int .i64 y.f1, .string y.f2, .int .i64 y.f3, .slice A4b y.f4.length c4b, .int .u8 y.f5, .int .i64 y.f6, .int .i64 y.f7]] W fun e w' => e = .returned (.bool (P x y)) ∧ Below W.heap.size W w') :
    Calls Try.prog 26 #[.slice A a.length c, .slice A' b.length c'] w fun e w' => e = .returned (.bool (sameL P a b)) ∧ Below w.heap.size w w' := by
  have HK := Lib.hid hk
  have HA := Lib.hid ha
  have HB := Lib.hid hb
  have hu := Try.underlying49
  have hmax := ha.2.1
  clear hk ha hb
  by_cases hl : a.length = b.length
  · have d0 : (a.length == b.length) = true := beq_iff_eq.2 hl
    have HL := Lib.hid hl
    rw [← hl] at hcb
    obtain ⟨n, hn⟩ : ∃ n, n = a.length := ⟨_, rfl⟩
    have hnb : b.length = n := by rw [hn]; exact hl.symm
    have HN := Lib.hid (And.intro hn hnb)
    refine calls_of_args (args' := #[.slice A n c, .slice A' n c']) (by rw [hnb, hn]) ?_
    rw [← hn] at hmax
    have hA := HA.out
    have hB := HB.out
    rw [← hn] at hA
    rw [hnb] at hB
    have St := Lib.hid (And.intro hA (And.intro hB (Below.refl w.heap.size w)))
    clear hl d0 hcb hca hn hnb hA hB HA HB HL
    go_enter Try.func26, Try.ntmps26
    go_wp2
    go_loopg [13] (n + 1) (fun f v13 W => ∃ i : Nat, v13 = .int .i64 (i : Int) ∧ i + f = n + 1 ∧ i ≤ n ∧ Hid (∀ (j : Nat) (h1 : j < a.length) (h2 : j < b.length), j < i → P a[j] b[j] = true) ∧ Hid (Kd.C k49 W A n a ∧ Kd.C k49 W A' n b ∧ Below w.heap.size w W))
    case atStart => exact ⟨0, rfl, by omega, Nat.zero_le _, Lib.hid (fun j _ _ h => absurd h (Nat.not_lt_zero _)), St⟩
    case round =>
      obtain ⟨i, rfl, hi, hil, HP, St1⟩ := hrel
      clear St
      by_cases hlt : i < n
      · have d1 : decide ((i : Int) < (n : Int)) = true := by simp; omega
        have hia : i < a.length := by have := HN.out.1; omega
        have hib : i < b.length := by have := HN.out.2; omega
        obtain ⟨ada, A4a, c4a, eqa, h0a, h1a, h2a, h3a, h4a, h5a, h6a, h7a, l4a, g4a⟩ := at_T49 St1.out.1 (i : Int) (by omega) (by omega)
        obtain ⟨adb, A4b, c4b, eqb, h0b, h1b, h2b, h3b, h4b, h5b, h6b, h7b, l4b, g4b⟩ := at_T49 St1.out.2.1 (i : Int) (by omega) (by omega)
        have hra : rd_T49 a (i : Int) = a[i] := by simp [rd_T49, List.getD_eq_getElem?_getD, hia]
        have hrb : rd_T49 b (i : Int) = b[i] := by simp [rd_T49, List.getD_eq_getElem?_getD, hib]
        obtain ⟨x, hx⟩ : ∃ x, x = rd_T49 a (i : Int) := ⟨_, rfl⟩
        obtain ⟨y, hy⟩ : ∃ y, y = rd_T49 b (i : Int) := ⟨_, rfl⟩
        rw [← hx] at h0a h1a h2a h3a h4a h5a h6a h7a l4a g4a
        rw [← hy] at h0b h1b h2b h3b h4b h5b h6b h7b l4b g4b
        simp only [Int.toNat_natCast] at h0a h1a h2a h3a h4a h5a h6a h7a h0b h1b h2b h3b h4b h5b h6b h7b
        have hma : x ∈ a := by rw [hx, hra]; exact List.getElem_mem hia
        have hmb : y ∈ b := by rw [hy, hrb]; exact List.getElem_mem hib
        have HX := Lib.hid (And.intro (hx.trans hra) (hy.trans hrb))
        have HM := Lib.hid (And.intro hma hmb)
        clear hx hy hra hrb hma hmb
        cases eqa; cases eqb
        have GG4a := Lib.hid g4a
        have GG4b := Lib.hid g4b

        have hlb : (adb.add (i * 8)).block < wr.heap.size := cell_lt h0b
        have hlb1 : (adb.add (i * 8)).block < wr.heap.size + 1 := by omega
        have hlbn : (adb.add (i * 8)).block ≠ wr.heap.size := by omega
        obtain ⟨f, rfl⟩ : ∃ f, gk = f + 1 := ⟨gk - 1, by omega⟩
        obtain ⟨r, hr⟩ : ∃ r, r = P x y := ⟨_, rfl⟩
        have HC := HK.out x y HM.out.1 HM.out.2
        rw [← hr] at HC
        have HCall := Lib.hid HC
        have HRr := Lib.hid hr
        clear HC hr g4a g4b
        cases r with
        | true =>
          go_wp2
          go_region_with (go_at_call 30; refine (HCall.out _ _ _ _ _ (Kd.C_below GG4a.out (by first | exact Below.refl _ _ | exact below_drew (Below.refl _ _) | exact pw_below_drewN (Below.refl _ _) _)) l4a (Kd.C_below GG4b.out (by first | exact Below.refl _ _ | exact below_drew (Below.refl _ _) | exact pw_below_drewN (Below.refl _ _) _)) l4b).mono ?_; rintro e w5 ⟨rfl, hb5⟩; have HB5 := Lib.hid hb5; clear hb5)
          all_goals (
            go_wp2
            have St5 : Hid (Kd.C k49 w5 (some ada) n a ∧ Kd.C k49 w5 (some adb) n b ∧ Below w.heap.size w w5) := by
              have hb : Below wr.heap.size wr w5 := (show Below wr.heap.size wr wr.drew from below_drew (Below.refl _ _)).trans HB5.out
              exact Lib.hid ⟨Kd.C_below St1.out.1 hb, Kd.C_below St1.out.2.1 hb, St1.out.2.2.trans (hb.mono St1.out.2.2.size)⟩
            go_roundg f
            case measure => omega
            case rel =>
              refine ⟨i + 1, by simp, by omega, by omega, Lib.hid (fun j h1 h2 hj => ?_), St5⟩
              by_cases e : j = i
              · subst e
                rw [← HX.out.1, ← HX.out.2]; exact HRr.out.symm
              · exact HP.out j h1 h2 (by omega))
        | false =>
          go_wp2
          go_region_with (go_at_call 30; refine (HCall.out _ _ _ _ _ (Kd.C_below GG4a.out (by first | exact Below.refl _ _ | exact below_drew (Below.refl _ _) | exact pw_below_drewN (Below.refl _ _) _)) l4a (Kd.C_below GG4b.out (by first | exact Below.refl _ _ | exact below_drew (Below.refl _ _) | exact pw_below_drewN (Below.refl _ _) _)) l4b).mono ?_; rintro e w5 ⟨rfl, hb5⟩; have HB5 := Lib.hid hb5; clear hb5)
          all_goals (
            go_wp2
            go_ret
            have hb : Below wr.heap.size wr w5 := (show Below wr.heap.size wr wr.drew from below_drew (Below.refl _ _)).trans HB5.out
            exact ⟨by rw [sameL_bad P a b i hia hib (by rw [← HX.out.1, ← HX.out.2]; exact HRr.out.symm)]; rfl, St1.out.2.2.trans (hb.mono St1.out.2.2.size)⟩)
      · have d1 : decide ((i : Int) < (n : Int)) = false := by simp; omega
        go_wp2
        go_ret
        exact ⟨by rw [sameL_all P a b (by rw [HN.out.2, HN.out.1]) (fun j h1 h2 => HP.out j h1 h2 (by have := HN.out.1; omega))]; rfl, St1.out.2.2⟩
  · have d0 : (a.length == b.length) = false := beq_eq_false_iff_ne.2 hl
    have HF := Lib.hid (sameL_ne P a b hl)
    have d2 : ((a.length : Int) == (b.length : Int)) = false := beq_eq_false_iff_ne.2 (by omega)
    clear hl HK HA HB
    go_enter Try.func26, Try.ntmps26
    go_wp2
    go_ret
    exact ⟨by rw [HF.out]; rfl, Below.refl _ _⟩
end Go.Proofs.Ytpimociplmpfcaa.Sam
