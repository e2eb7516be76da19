/- slices.EqualFunc over the elements of programs. Printed by tools/mk11q.py. -/
import Derived.Test.YtpimociplmpfcaaExprC
namespace Go.Proofs.Ytpimociplmpfcaa.Sam
open Go.RowKit Go.Proofs.YtpimociplmpfcaaW.PrintWords Go.Proofs.YtpimociplmpfcaaW.PrintLast Go.Proofs.YtpimociplmpfcaaW.PrintMore Go.Proofs.Ytpimociplmpfcaa.PParseSames
set_option linter.unusedVariables false
set_option linter.unusedSimpArgs false
attribute [local go_sem] drewN_set drewN_new
theorem cell_lt {W : World} {p : Addr} {v : Value} (h : W.cell? p = some v) : p.block < W.heap.size := by
  rcases Nat.lt_or_ge p.block W.heap.size with h1 | h1
  · exact h1
  · unfold World.cell? at h
    rw [Array.getElem?_eq_none h1] at h
    cases h

set_option maxHeartbeats 8000000 in
set_option maxRecDepth 100000 in
theorem q28 (P : S49 → S49 → Bool) (a b : List S49) (A : Option Addr) (c : Nat) (A' : Option Addr) (c' : Nat) (w : World) (ha : Kd.C k49 w A a.length a) (hca : a.length ≤ c) (hb : Kd.C k49 w A' b.length b) (hcb : b.length ≤ c')
    (hk : ∀ x y, x ∈ a → y ∈ b → ∀ (A4a : Option Addr) (c4a : Nat) (A4b : Option Addr) (c4b : Nat), ∀ W, Kd.C k49 W A4a x.f4.length x.f4 → x.f4.length ≤ c4a → Kd.C k49 W A4b y.f4.length y.f4 → y.f4.length ≤ c4b → Calls Try.prog 29 #[.agg #[.int .i64 x.f0, .int .i64 x.f1, .string x.f2, .int .i64 x.f3, .slice A4a x.f4.length c4a, .int .u8 x.f5, .int .i64 x.f6, .int .i64 x.f7], .agg #[.int .i64 y.f0, .int .i64 y.f1, .string y.f2, .int .i64 y.f3, .slice A4b y.f4.length c4b, .int .u8 y.f5, .int .i64 y.f6, .int .i64 y.f7]] W fun e w' => e = .returned (.bool (P x y)) ∧ Below W.heap.size W w') :
    Calls Try.prog 28 #[.slice A a.length c, .slice A' b.length c', .func (.func 29) #[] #[]] w fun e w' => e = .returned (.bool (sameL P a b)) ∧ Below w.heap.size w w' := by
  have HK := Lib.hid hk
  have HA := Lib.hid ha
  have HB := Lib.hid hb
  have hu := Try.underlying49
  have hmax := ha.2.1
  clear hk ha hb
  by_cases hl : a.length = b.length
  · have d0 : (a.length == b.length) = true := beq_iff_eq.2 hl
    have HL := Lib.hid hl
    rw [← hl] at hcb
    obtain ⟨n, hn⟩ : ∃ n, n = a.length := ⟨_, rfl⟩
    have hnb : b.length = n := by rw [hn]; exact hl.symm
    have HN := Lib.hid (And.intro hn hnb)
    refine calls_of_args (args' := #[.slice A n c, .slice A' n c', .func (.func 29) #[] #[]]) (by rw [hnb, hn]) ?_
    rw [← hn] at hmax
    have hA := HA.out
    have hB := HB.out
    rw [← hn] at hA
    rw [hnb] at hB
    have St := Lib.hid (And.intro hA (And.intro hB (Below.refl w.heap.size w)))
    clear hl d0 hcb hca hn hnb hA hB HA HB HL
    go_enter Try.func28, Try.ntmps28
    go_wp2
    go_loopg [17] (n + 1) (fun f v17 W => ∃ i : Nat, v17 = .int .i64 (i : Int) ∧ i + f = n + 1 ∧ i ≤ n ∧ Hid (∀ (j : Nat) (h1 : j < a.length) (h2 : j < b.length), j < i → P a[j] b[j] = true) ∧ Hid (Kd.C k49 W A n a ∧ Kd.C k49 W A' n b ∧ Below w.heap.size w W))
    case atStart => exact ⟨0, rfl, by omega, Nat.zero_le _, Lib.hid (fun j _ _ h => absurd h (Nat.not_lt_zero _)), St⟩
    case round =>
      obtain ⟨i, rfl, hi, hil, HP, St1⟩ := hrel
      clear St
      by_cases hlt : i < n
      · have d1 : decide ((i : Int) < (n : Int)) = true := by simp; omega
        have hia : i < a.length := by have := HN.out.1; omega
        have hib : i < b.length := by have := HN.out.2; omega
        obtain ⟨ada, A4a, c4a, eqa, h0a, h1a, h2a, h3a, h4a, h5a, h6a, h7a, l4a, g4a⟩ := at_T49 St1.out.1 (i : Int) (by omega) (by omega)
        obtain ⟨adb, A4b, c4b, eqb, h0b, h1b, h2b, h3b, h4b, h5b, h6b, h7b, l4b, g4b⟩ := at_T49 St1.out.2.1 (i : Int) (by omega) (by omega)
        have hra : rd_T49 a (i : Int) = a[i] := by simp [rd_T49, List.getD_eq_getElem?_getD, hia]
        have hrb : rd_T49 b (i : Int) = b[i] := by simp [rd_T49, List.getD_eq_getElem?_getD, hib]
        obtain ⟨x, hx⟩ : ∃ x, x = rd_T49 a (i : Int) := ⟨_, rfl⟩
        obtain ⟨y, hy⟩ : ∃ y, y = rd_T49 b (i : Int) := ⟨_, rfl⟩
        rw [← hx] at h0a h1a h2a h3a h4a h5a h6a h7a l4a g4a
        rw [← hy] at h0b h1b h2b h3b h4b h5b h6b h7b l4b g4b
        simp only [Int.toNat_natCast] at h0a h1a h2a h3a h4a h5a h6a h7a h0b h1b h2b h3b h4b h5b h6b h7b
        have hma : x ∈ a := by rw [hx, hra]; exact List.getElem_mem hia
        have hmb : y ∈ b := by rw [hy, hrb]; exact List.getElem_mem hib
        have HX := Lib.hid (And.intro (hx.trans hra) (hy.trans hrb))
        have HM := Lib.hid (And.intro hma hmb)
        clear hx hy hra hrb hma hmb
        cases eqa; cases eqb
        have GG4a := Lib.hid g4a
        have GG4b := Lib.hid g4b

        have hlb : (adb.add (i * 8)).block < wr.heap.size := cell_lt h0b
        have hlb1 : (adb.add (i * 8)).block < wr.heap.size + 1 := by omega
        have hlbn : (adb.add (i * 8)).block ≠ wr.heap.size := by omega
        have hb2 : Hid (∀ (o1 o2 : Obj), Below wr.heap.size wr ((wr.alloc o1).alloc o2)) := Lib.hid (fun o1 o2 => below_alloc (below_alloc (Below.refl _ _) _) _)
        obtain ⟨f, rfl⟩ : ∃ f, gk = f + 1 := ⟨gk - 1, by omega⟩
        obtain ⟨r, hr⟩ : ∃ r, r = P x y := ⟨_, rfl⟩
        have HC := HK.out x y HM.out.1 HM.out.2
        rw [← hr] at HC
        have HCall := Lib.hid HC
        have HRr := Lib.hid hr
        clear HC hr g4a g4b
        cases r with
        | true =>
          go_wp2_with (go_at_call 29; refine (HCall.out _ _ _ _ _ (Kd.C_below GG4a.out (hb2.out _ _)) l4a (Kd.C_below GG4b.out (hb2.out _ _)) l4b).mono ?_; rintro e w5 ⟨rfl, hb5⟩; have HB5 := Lib.hid hb5; clear hb5)
          have St5 : Hid (Kd.C k49 w5 (some ada) n a ∧ Kd.C k49 w5 (some adb) n b ∧ Below w.heap.size w w5) := by
            have hb := (hb2.out (.cells #[.int .i64 x.f0, .int .i64 x.f1, .string x.f2, .int .i64 x.f3, .slice A4a x.f4.length c4a, .int .u8 x.f5, .int .i64 x.f6, .int .i64 x.f7] 49) (.cells #[.int .i64 y.f0, .int .i64 y.f1, .string y.f2, .int .i64 y.f3, .slice A4b y.f4.length c4b, .int .u8 y.f5, .int .i64 y.f6, .int .i64 y.f7] 49)).trans (HB5.out.mono (hb2.out _ _).size)
            exact Lib.hid ⟨Kd.C_below St1.out.1 hb, Kd.C_below St1.out.2.1 hb, St1.out.2.2.trans (hb.mono St1.out.2.2.size)⟩
          go_roundg f
          case measure => omega
          case rel =>
            refine ⟨i + 1, by simp, by omega, by omega, Lib.hid (fun j h1 h2 hj => ?_), St5⟩
            by_cases e : j = i
            · subst e
              rw [← HX.out.1, ← HX.out.2]; exact HRr.out.symm
            · exact HP.out j h1 h2 (by omega)
        | false =>
          go_wp2_with (go_at_call 29; refine (HCall.out _ _ _ _ _ (Kd.C_below GG4a.out (hb2.out _ _)) l4a (Kd.C_below GG4b.out (hb2.out _ _)) l4b).mono ?_; rintro e w5 ⟨rfl, hb5⟩; have HB5 := Lib.hid hb5; clear hb5)
          go_ret
          have hb := (hb2.out (.cells #[.int .i64 x.f0, .int .i64 x.f1, .string x.f2, .int .i64 x.f3, .slice A4a x.f4.length c4a, .int .u8 x.f5, .int .i64 x.f6, .int .i64 x.f7] 49) (.cells #[.int .i64 y.f0, .int .i64 y.f1, .string y.f2, .int .i64 y.f3, .slice A4b y.f4.length c4b, .int .u8 y.f5, .int .i64 y.f6, .int .i64 y.f7] 49)).trans (HB5.out.mono (hb2.out _ _).size)
          exact ⟨by rw [sameL_bad P a b i hia hib (by rw [← HX.out.1, ← HX.out.2]; exact HRr.out.symm)]; rfl, St1.out.2.2.trans (hb.mono St1.out.2.2.size)⟩
      · have d1 : decide ((i : Int) < (n : Int)) = false := by simp; omega
        go_wp2
        go_ret
        exact ⟨by rw [sameL_all P a b (by rw [HN.out.2, HN.out.1]) (fun j h1 h2 => HP.out j h1 h2 (by have := HN.out.1; omega))]; rfl, St1.out.2.2⟩
  · have d0 : (a.length == b.length) = false := beq_eq_false_iff_ne.2 hl
    have HF := Lib.hid (sameL_ne P a b hl)
    have d2 : ((a.length : Int) == (b.length : Int)) = false := beq_eq_false_iff_ne.2 (by omega)
    clear hl HK HA HB
    go_enter Try.func28, Try.ntmps28
    go_wp2
    go_ret
    exact ⟨by rw [HF.out]; rfl, Below.refl _ _⟩

set_option maxHeartbeats 8000000 in
set_option maxRecDepth 100000 in
theorem q21 (P : S34 → S34 → Bool) (a b : List S34) (A : Option Addr) (c : Nat) (A' : Option Addr) (c' : Nat) (w : World) (ha : Kd.C k34 w A a.length a) (hca : a.length ≤ c) (hb : Kd.C k34 w A' b.length b) (hcb : b.length ≤ c')
    (hk : ∀ x y, x ∈ a → y ∈ b → ∀ W, Calls Try.prog 22 #[.agg #[.int .i64 x.f0, .string x.f1, .string x.f2, .int .u8 x.f3], .agg #[.int .i64 y.f0, .string y.f1, .string y.f2, .int .u8 y.f3]] W fun e w' => e = .returned (.bool (P x y)) ∧ Below W.heap.size W w') :
    Calls Try.prog 21 #[.slice A a.length c, .slice A' b.length c', .func (.func 22) #[] #[]] w fun e w' => e = .returned (.bool (sameL P a b)) ∧ Below w.heap.size w w' := by
  have HK := Lib.hid hk
  have HA := Lib.hid ha
  have HB := Lib.hid hb
  have hu := Try.underlying34
  have hmax := ha.2.1
  clear hk ha hb
  by_cases hl : a.length = b.length
  · have d0 : (a.length == b.length) = true := beq_iff_eq.2 hl
    have HL := Lib.hid hl
    rw [← hl] at hcb
    obtain ⟨n, hn⟩ : ∃ n, n = a.length := ⟨_, rfl⟩
    have hnb : b.length = n := by rw [hn]; exact hl.symm
    have HN := Lib.hid (And.intro hn hnb)
    refine calls_of_args (args' := #[.slice A n c, .slice A' n c', .func (.func 22) #[] #[]]) (by rw [hnb, hn]) ?_
    rw [← hn] at hmax
    have hA := HA.out
    have hB := HB.out
    rw [← hn] at hA
    rw [hnb] at hB
    have St := Lib.hid (And.intro hA (And.intro hB (Below.refl w.heap.size w)))
    clear hl d0 hcb hca hn hnb hA hB HA HB HL
    go_enter Try.func21, Try.ntmps21
    go_wp2
    go_loopg [17] (n + 1) (fun f v17 W => ∃ i : Nat, v17 = .int .i64 (i : Int) ∧ i + f = n + 1 ∧ i ≤ n ∧ Hid (∀ (j : Nat) (h1 : j < a.length) (h2 : j < b.length), j < i → P a[j] b[j] = true) ∧ Hid (Kd.C k34 W A n a ∧ Kd.C k34 W A' n b ∧ Below w.heap.size w W))
    case atStart => exact ⟨0, rfl, by omega, Nat.zero_le _, Lib.hid (fun j _ _ h => absurd h (Nat.not_lt_zero _)), St⟩
    case round =>
      obtain ⟨i, rfl, hi, hil, HP, St1⟩ := hrel
      clear St
      by_cases hlt : i < n
      · have d1 : decide ((i : Int) < (n : Int)) = true := by simp; omega
        have hia : i < a.length := by have := HN.out.1; omega
        have hib : i < b.length := by have := HN.out.2; omega
        obtain ⟨ada, eqa, h0a, h1a, h2a, h3a⟩ := at_T34 St1.out.1 (i : Int) (by omega) (by omega)
        obtain ⟨adb, eqb, h0b, h1b, h2b, h3b⟩ := at_T34 St1.out.2.1 (i : Int) (by omega) (by omega)
        have hra : rd_T34 a (i : Int) = a[i] := by simp [rd_T34, List.getD_eq_getElem?_getD, hia]
        have hrb : rd_T34 b (i : Int) = b[i] := by simp [rd_T34, List.getD_eq_getElem?_getD, hib]
        obtain ⟨x, hx⟩ : ∃ x, x = rd_T34 a (i : Int) := ⟨_, rfl⟩
        obtain ⟨y, hy⟩ : ∃ y, y = rd_T34 b (i : Int) := ⟨_, rfl⟩
        rw [← hx] at h0a h1a h2a h3a
        rw [← hy] at h0b h1b h2b h3b
        simp only [Int.toNat_natCast] at h0a h1a h2a h3a h0b h1b h2b h3b
        have hma : x ∈ a := by rw [hx, hra]; exact List.getElem_mem hia
        have hmb : y ∈ b := by rw [hy, hrb]; exact List.getElem_mem hib
        have HX := Lib.hid (And.intro (hx.trans hra) (hy.trans hrb))
        have HM := Lib.hid (And.intro hma hmb)
        clear hx hy hra hrb hma hmb
        cases eqa; cases eqb

        have hlb : (adb.add (i * 4)).block < wr.heap.size := cell_lt h0b
        have hlb1 : (adb.add (i * 4)).block < wr.heap.size + 1 := by omega
        have hlbn : (adb.add (i * 4)).block ≠ wr.heap.size := by omega
        have hb2 : Hid (∀ (o1 o2 : Obj), Below wr.heap.size wr ((wr.alloc o1).alloc o2)) := Lib.hid (fun o1 o2 => below_alloc (below_alloc (Below.refl _ _) _) _)
        obtain ⟨f, rfl⟩ : ∃ f, gk = f + 1 := ⟨gk - 1, by omega⟩
        obtain ⟨r, hr⟩ : ∃ r, r = P x y := ⟨_, rfl⟩
        have HC := HK.out x y HM.out.1 HM.out.2
        rw [← hr] at HC
        have HCall := Lib.hid HC
        have HRr := Lib.hid hr
        clear HC hr 
        cases r with
        | true =>
          go_wp2_with (go_at_call 22; refine (HCall.out   _  ).mono ?_; rintro e w5 ⟨rfl, hb5⟩; have HB5 := Lib.hid hb5; clear hb5)
          have St5 : Hid (Kd.C k34 w5 (some ada) n a ∧ Kd.C k34 w5 (some adb) n b ∧ Below w.heap.size w w5) := by
            have hb := (hb2.out (.cells #[.int .i64 x.f0, .string x.f1, .string x.f2, .int .u8 x.f3] 34) (.cells #[.int .i64 y.f0, .string y.f1, .string y.f2, .int .u8 y.f3] 34)).trans (HB5.out.mono (hb2.out _ _).size)
            exact Lib.hid ⟨Kd.C_below St1.out.1 hb, Kd.C_below St1.out.2.1 hb, St1.out.2.2.trans (hb.mono St1.out.2.2.size)⟩
          go_roundg f
          case measure => omega
          case rel =>
            refine ⟨i + 1, by simp, by omega, by omega, Lib.hid (fun j h1 h2 hj => ?_), St5⟩
            by_cases e : j = i
            · subst e
              rw [← HX.out.1, ← HX.out.2]; exact HRr.out.symm
            · exact HP.out j h1 h2 (by omega)
        | false =>
          go_wp2_with (go_at_call 22; refine (HCall.out   _  ).mono ?_; rintro e w5 ⟨rfl, hb5⟩; have HB5 := Lib.hid hb5; clear hb5)
          go_ret
          have hb := (hb2.out (.cells #[.int .i64 x.f0, .string x.f1, .string x.f2, .int .u8 x.f3] 34) (.cells #[.int .i64 y.f0, .string y.f1, .string y.f2, .int .u8 y.f3] 34)).trans (HB5.out.mono (hb2.out _ _).size)
          exact ⟨by rw [sameL_bad P a b i hia hib (by rw [← HX.out.1, ← HX.out.2]; exact HRr.out.symm)]; rfl, St1.out.2.2.trans (hb.mono St1.out.2.2.size)⟩
      · have d1 : decide ((i : Int) < (n : Int)) = false := by simp; omega
        go_wp2
        go_ret
        exact ⟨by rw [sameL_all P a b (by rw [HN.out.2, HN.out.1]) (fun j h1 h2 => HP.out j h1 h2 (by have := HN.out.1; omega))]; rfl, St1.out.2.2⟩
  · have d0 : (a.length == b.length) = false := beq_eq_false_iff_ne.2 hl
    have HF := Lib.hid (sameL_ne P a b hl)
    have d2 : ((a.length : Int) == (b.length : Int)) = false := beq_eq_false_iff_ne.2 (by omega)
    clear hl HK HA HB
    go_enter Try.func21, Try.ntmps21
    go_wp2
    go_ret
    exact ⟨by rw [HF.out]; rfl, Below.refl _ _⟩

set_option maxHeartbeats 8000000 in
set_option maxRecDepth 100000 in
theorem q23 (P : S47 → S47 → Bool) (a b : List S47) (A : Option Addr) (c : Nat) (A' : Option Addr) (c' : Nat) (w : World) (ha : Kd.C k47 w A a.length a) (hca : a.length ≤ c) (hb : Kd.C k47 w A' b.length b) (hcb : b.length ≤ c')
    (hk : ∀ x y, x ∈ a → y ∈ b → ∀ (A5a : Option Addr) (c5a : Nat) (A6a : Option Addr) (c6a : Nat) (A7a : Option Addr) (c7a : Nat) (A5b : Option Addr) (c5b : Nat) (A6b : Option Addr) (c6b : Nat) (A7b : Option Addr) (c7b : Nat), ∀ W, Kd.C k49 W A5a x.f5.length x.f5 → x.f5.length ≤ c5a → Kd.C k47 W A6a x.f6.length x.f6 → x.f6.length ≤ c6a → Kd.C k47 W A7a x.f7.length x.f7 → x.f7.length ≤ c7a → Kd.C k49 W A5b y.f5.length y.f5 → y.f5.length ≤ c5b → Kd.C k47 W A6b y.f6.length y.f6 → y.f6.length ≤ c6b → Kd.C k47 W A7b y.f7.length y.f7 → y.f7.length ≤ c7b → Calls Try.prog 24 #[.agg #[.int .i64 x.f0, .int .i64 x.f1, .string x.f2, .string x.f3, .int .i64 x.f4, .slice A5a x.f5.length c5a, .slice A6a x.f6.length c6a, .slice A7a x.f7.length c7a, .int .u8 x.f8, .int .i64 x.f9], .agg #[.int .i64 y.f0, .int .i64 y.f1, .string y.f2, .string y.f3, .int .i64 y.f4, .slice A5b y.f5.length c5b, .slice A6b y.f6.length c6b, .slice A7b y.f7.length c7b, .int .u8 y.f8, .int .i64 y.f9]] W fun e w' => e = .returned (.bool (P x y)) ∧ Below W.heap.size W w') :
    Calls Try.prog 23 #[.slice A a.length c, .slice A' b.length c', .func (.func 24) #[] #[]] w fun e w' => e = .returned (.bool (sameL P a b)) ∧ Below w.heap.size w w' := by
  have HK := Lib.hid hk
  have HA := Lib.hid ha
  have HB := Lib.hid hb
  have hu := Try.underlying47
  have hmax := ha.2.1
  clear hk ha hb
  by_cases hl : a.length = b.length
  · have d0 : (a.length == b.length) = true := beq_iff_eq.2 hl
    have HL := Lib.hid hl
    rw [← hl] at hcb
    obtain ⟨n, hn⟩ : ∃ n, n = a.length := ⟨_, rfl⟩
    have hnb : b.length = n := by rw [hn]; exact hl.symm
    have HN := Lib.hid (And.intro hn hnb)
    refine calls_of_args (args' := #[.slice A n c, .slice A' n c', .func (.func 24) #[] #[]]) (by rw [hnb, hn]) ?_
    rw [← hn] at hmax
    have hA := HA.out
    have hB := HB.out
    rw [← hn] at hA
    rw [hnb] at hB
    have St := Lib.hid (And.intro hA (And.intro hB (Below.refl w.heap.size w)))
    clear hl d0 hcb hca hn hnb hA hB HA HB HL
    go_enter Try.func23, Try.ntmps23
    go_wp2
    go_loopg [17] (n + 1) (fun f v17 W => ∃ i : Nat, v17 = .int .i64 (i : Int) ∧ i + f = n + 1 ∧ i ≤ n ∧ Hid (∀ (j : Nat) (h1 : j < a.length) (h2 : j < b.length), j < i → P a[j] b[j] = true) ∧ Hid (Kd.C k47 W A n a ∧ Kd.C k47 W A' n b ∧ Below w.heap.size w W))
    case atStart => exact ⟨0, rfl, by omega, Nat.zero_le _, Lib.hid (fun j _ _ h => absurd h (Nat.not_lt_zero _)), St⟩
    case round =>
      obtain ⟨i, rfl, hi, hil, HP, St1⟩ := hrel
      clear St
      by_cases hlt : i < n
      · have d1 : decide ((i : Int) < (n : Int)) = true := by simp; omega
        have hia : i < a.length := by have := HN.out.1; omega
        have hib : i < b.length := by have := HN.out.2; omega
        obtain ⟨ada, A5a, c5a, A6a, c6a, A7a, c7a, eqa, h0a, h1a, h2a, h3a, h4a, h5a, h6a, h7a, h8a, h9a, l5a, g5a, l6a, g6a, l7a, g7a⟩ := at_T47 St1.out.1 (i : Int) (by omega) (by omega)
        obtain ⟨adb, A5b, c5b, A6b, c6b, A7b, c7b, eqb, h0b, h1b, h2b, h3b, h4b, h5b, h6b, h7b, h8b, h9b, l5b, g5b, l6b, g6b, l7b, g7b⟩ := at_T47 St1.out.2.1 (i : Int) (by omega) (by omega)
        have hra : rd_T47 a (i : Int) = a[i] := by simp [rd_T47, List.getD_eq_getElem?_getD, hia]
        have hrb : rd_T47 b (i : Int) = b[i] := by simp [rd_T47, List.getD_eq_getElem?_getD, hib]
        obtain ⟨x, hx⟩ : ∃ x, x = rd_T47 a (i : Int) := ⟨_, rfl⟩
        obtain ⟨y, hy⟩ : ∃ y, y = rd_T47 b (i : Int) := ⟨_, rfl⟩
        rw [← hx] at h0a h1a h2a h3a h4a h5a h6a h7a h8a h9a l5a g5a l6a g6a l7a g7a
        rw [← hy] at h0b h1b h2b h3b h4b h5b h6b h7b h8b h9b l5b g5b l6b g6b l7b g7b
        simp only [Int.toNat_natCast] at h0a h1a h2a h3a h4a h5a h6a h7a h8a h9a h0b h1b h2b h3b h4b h5b h6b h7b h8b h9b
        have hma : x ∈ a := by rw [hx, hra]; exact List.getElem_mem hia
        have hmb : y ∈ b := by rw [hy, hrb]; exact List.getElem_mem hib
        have HX := Lib.hid (And.intro (hx.trans hra) (hy.trans hrb))
        have HM := Lib.hid (And.intro hma hmb)
        clear hx hy hra hrb hma hmb
        cases eqa; cases eqb
        have GG5a := Lib.hid g5a
        have GG6a := Lib.hid g6a
        have GG7a := Lib.hid g7a
        have GG5b := Lib.hid g5b
        have GG6b := Lib.hid g6b
        have GG7b := Lib.hid g7b

        have hlb : (adb.add (i * 10)).block < wr.heap.size := cell_lt h0b
        have hlb1 : (adb.add (i * 10)).block < wr.heap.size + 1 := by omega
        have hlbn : (adb.add (i * 10)).block ≠ wr.heap.size := by omega
        have hb2 : Hid (∀ (o1 o2 : Obj), Below wr.heap.size wr ((wr.alloc o1).alloc o2)) := Lib.hid (fun o1 o2 => below_alloc (below_alloc (Below.refl _ _) _) _)
        obtain ⟨f, rfl⟩ : ∃ f, gk = f + 1 := ⟨gk - 1, by omega⟩
        obtain ⟨r, hr⟩ : ∃ r, r = P x y := ⟨_, rfl⟩
        have HC := HK.out x y HM.out.1 HM.out.2
        rw [← hr] at HC
        have HCall := Lib.hid HC
        have HRr := Lib.hid hr
        clear HC hr g5a g5b g6a g6b g7a g7b
        cases r with
        | true =>
          go_wp2_with (go_at_call 24; refine (HCall.out _ _ _ _ _ _ _ _ _ _ _ _ _ (Kd.C_below GG5a.out (hb2.out _ _)) l5a (Kd.C_below GG6a.out (hb2.out _ _)) l6a (Kd.C_below GG7a.out (hb2.out _ _)) l7a (Kd.C_below GG5b.out (hb2.out _ _)) l5b (Kd.C_below GG6b.out (hb2.out _ _)) l6b (Kd.C_below GG7b.out (hb2.out _ _)) l7b).mono ?_; rintro e w5 ⟨rfl, hb5⟩; have HB5 := Lib.hid hb5; clear hb5)
          have St5 : Hid (Kd.C k47 w5 (some ada) n a ∧ Kd.C k47 w5 (some adb) n b ∧ Below w.heap.size w w5) := by
            have hb := (hb2.out (.cells #[.int .i64 x.f0, .int .i64 x.f1, .string x.f2, .string x.f3, .int .i64 x.f4, .slice A5a x.f5.length c5a, .slice A6a x.f6.length c6a, .slice A7a x.f7.length c7a, .int .u8 x.f8, .int .i64 x.f9] 47) (.cells #[.int .i64 y.f0, .int .i64 y.f1, .string y.f2, .string y.f3, .int .i64 y.f4, .slice A5b y.f5.length c5b, .slice A6b y.f6.length c6b, .slice A7b y.f7.length c7b, .int .u8 y.f8, .int .i64 y.f9] 47)).trans (HB5.out.mono (hb2.out _ _).size)
            exact Lib.hid ⟨Kd.C_below St1.out.1 hb, Kd.C_below St1.out.2.1 hb, St1.out.2.2.trans (hb.mono St1.out.2.2.size)⟩
          go_roundg f
          case measure => omega
          case rel =>
            refine ⟨i + 1, by simp, by omega, by omega, Lib.hid (fun j h1 h2 hj => ?_), St5⟩
            by_cases e : j = i
            · subst e
              rw [← HX.out.1, ← HX.out.2]; exact HRr.out.symm
            · exact HP.out j h1 h2 (by omega)
        | false =>
          go_wp2_with (go_at_call 24; refine (HCall.out _ _ _ _ _ _ _ _ _ _ _ _ _ (Kd.C_below GG5a.out (hb2.out _ _)) l5a (Kd.C_below GG6a.out (hb2.out _ _)) l6a (Kd.C_below GG7a.out (hb2.out _ _)) l7a (Kd.C_below GG5b.out (hb2.out _ _)) l5b (Kd.C_below GG6b.out (hb2.out _ _)) l6b (Kd.C_below GG7b.out (hb2.out _ _)) l7b).mono ?_; rintro e w5 ⟨rfl, hb5⟩; have HB5 := Lib.hid hb5; clear hb5)
          go_ret
          have hb := (hb2.out (.cells #[.int .i64 x.f0, .int .i64 x.f1, .string x.f2, .string x.f3, .int .i64 x.f4, .slice A5a x.f5.length c5a, .slice A6a x.f6.length c6a, .slice A7a x.f7.length c7a, .int .u8 x.f8, .int .i64 x.f9] 47) (.cells #[.int .i64 y.f0, .int .i64 y.f1, .string y.f2, .string y.f3, .int .i64 y.f4, .slice A5b y.f5.length c5b, .slice A6b y.f6.length c6b, .slice A7b y.f7.length c7b, .int .u8 y.f8, .int .i64 y.f9] 47)).trans (HB5.out.mono (hb2.out _ _).size)
          exact ⟨by rw [sameL_bad P a b i hia hib (by rw [← HX.out.1, ← HX.out.2]; exact HRr.out.symm)]; rfl, St1.out.2.2.trans (hb.mono St1.out.2.2.size)⟩
      · have d1 : decide ((i : Int) < (n : Int)) = false := by simp; omega
        go_wp2
        go_ret
        exact ⟨by rw [sameL_all P a b (by rw [HN.out.2, HN.out.1]) (fun j h1 h2 => HP.out j h1 h2 (by have := HN.out.1; omega))]; rfl, St1.out.2.2⟩
  · have d0 : (a.length == b.length) = false := beq_eq_false_iff_ne.2 hl
    have HF := Lib.hid (sameL_ne P a b hl)
    have d2 : ((a.length : Int) == (b.length : Int)) = false := beq_eq_false_iff_ne.2 (by omega)
    clear hl HK HA HB
    go_enter Try.func23, Try.ntmps23
    go_wp2
    go_ret
    exact ⟨by rw [HF.out]; rfl, Below.refl _ _⟩

set_option maxHeartbeats 8000000 in
set_option maxRecDepth 100000 in
theorem q10 (P : S30 → S30 → Bool) (a b : List S30) (A : Option Addr) (c : Nat) (A' : Option Addr) (c' : Nat) (w : World) (ha : Kd.C k30 w A a.length a) (hca : a.length ≤ c) (hb : Kd.C k30 w A' b.length b) (hcb : b.length ≤ c')
    (hk : ∀ x y, x ∈ a → y ∈ b → ∀ (A3a : Option Addr) (c3a : Nat) (A3b : Option Addr) (c3b : Nat), ∀ W, Kd.C k34 W A3a x.f3.length x.f3 → x.f3.length ≤ c3a → Kd.C k34 W A3b y.f3.length y.f3 → y.f3.length ≤ c3b → Calls Try.prog 11 #[.agg #[.int .i64 x.f0, .string x.f1, .string x.f2, .slice A3a x.f3.length c3a], .agg #[.int .i64 y.f0, .string y.f1, .string y.f2, .slice A3b y.f3.length c3b]] W fun e w' => e = .returned (.bool (P x y)) ∧ Below W.heap.size W w') :
    Calls Try.prog 10 #[.slice A a.length c, .slice A' b.length c', .func (.func 11) #[] #[]] w fun e w' => e = .returned (.bool (sameL P a b)) ∧ Below w.heap.size w w' := by
  have HK := Lib.hid hk
  have HA := Lib.hid ha
  have HB := Lib.hid hb
  have hu := Try.underlying30
  have hmax := ha.2.1
  clear hk ha hb
  by_cases hl : a.length = b.length
  · have d0 : (a.length == b.length) = true := beq_iff_eq.2 hl
    have HL := Lib.hid hl
    rw [← hl] at hcb
    obtain ⟨n, hn⟩ : ∃ n, n = a.length := ⟨_, rfl⟩
    have hnb : b.length = n := by rw [hn]; exact hl.symm
    have HN := Lib.hid (And.intro hn hnb)
    refine calls_of_args (args' := #[.slice A n c, .slice A' n c', .func (.func 11) #[] #[]]) (by rw [hnb, hn]) ?_
    rw [← hn] at hmax
    have hA := HA.out
    have hB := HB.out
    rw [← hn] at hA
    rw [hnb] at hB
    have St := Lib.hid (And.intro hA (And.intro hB (Below.refl w.heap.size w)))
    clear hl d0 hcb hca hn hnb hA hB HA HB HL
    go_enter Try.func10, Try.ntmps10
    go_wp2
    go_loopg [17] (n + 1) (fun f v17 W => ∃ i : Nat, v17 = .int .i64 (i : Int) ∧ i + f = n + 1 ∧ i ≤ n ∧ Hid (∀ (j : Nat) (h1 : j < a.length) (h2 : j < b.length), j < i → P a[j] b[j] = true) ∧ Hid (Kd.C k30 W A n a ∧ Kd.C k30 W A' n b ∧ Below w.heap.size w W))
    case atStart => exact ⟨0, rfl, by omega, Nat.zero_le _, Lib.hid (fun j _ _ h => absurd h (Nat.not_lt_zero _)), St⟩
    case round =>
      obtain ⟨i, rfl, hi, hil, HP, St1⟩ := hrel
      clear St
      by_cases hlt : i < n
      · have d1 : decide ((i : Int) < (n : Int)) = true := by simp; omega
        have hia : i < a.length := by have := HN.out.1; omega
        have hib : i < b.length := by have := HN.out.2; omega
        obtain ⟨ada, A3a, c3a, eqa, h0a, h1a, h2a, h3a, l3a, g3a⟩ := at_T30 St1.out.1 (i : Int) (by omega) (by omega)
        obtain ⟨adb, A3b, c3b, eqb, h0b, h1b, h2b, h3b, l3b, g3b⟩ := at_T30 St1.out.2.1 (i : Int) (by omega) (by omega)
        have hra : rd_T30 a (i : Int) = a[i] := by simp [rd_T30, List.getD_eq_getElem?_getD, hia]
        have hrb : rd_T30 b (i : Int) = b[i] := by simp [rd_T30, List.getD_eq_getElem?_getD, hib]
        obtain ⟨x, hx⟩ : ∃ x, x = rd_T30 a (i : Int) := ⟨_, rfl⟩
        obtain ⟨y, hy⟩ : ∃ y, y = rd_T30 b (i : Int) := ⟨_, rfl⟩
        rw [← hx] at h0a h1a h2a h3a l3a g3a
        rw [← hy] at h0b h1b h2b h3b l3b g3b
        simp only [Int.toNat_natCast] at h0a h1a h2a h3a h0b h1b h2b h3b
        have hma : x ∈ a := by rw [hx, hra]; exact List.getElem_mem hia
        have hmb : y ∈ b := by rw [hy, hrb]; exact List.getElem_mem hib
        have HX := Lib.hid (And.intro (hx.trans hra) (hy.trans hrb))
        have HM := Lib.hid (And.intro hma hmb)
        clear hx hy hra hrb hma hmb
        cases eqa; cases eqb
        have GG3a := Lib.hid g3a
        have GG3b := Lib.hid g3b

        have hlb : (adb.add (i * 4)).block < wr.heap.size := cell_lt h0b
        have hlb1 : (adb.add (i * 4)).block < wr.heap.size + 1 := by omega
        have hlbn : (adb.add (i * 4)).block ≠ wr.heap.size := by omega
        have hb2 : Hid (∀ (o1 o2 : Obj), Below wr.heap.size wr ((wr.alloc o1).alloc o2)) := Lib.hid (fun o1 o2 => below_alloc (below_alloc (Below.refl _ _) _) _)
        obtain ⟨f, rfl⟩ : ∃ f, gk = f + 1 := ⟨gk - 1, by omega⟩
        obtain ⟨r, hr⟩ : ∃ r, r = P x y := ⟨_, rfl⟩
        have HC := HK.out x y HM.out.1 HM.out.2
        rw [← hr] at HC
        have HCall := Lib.hid HC
        have HRr := Lib.hid hr
        clear HC hr g3a g3b
        cases r with
        | true =>
          go_wp2_with (go_at_call 11; refine (HCall.out _ _ _ _ _ (Kd.C_below GG3a.out (hb2.out _ _)) l3a (Kd.C_below GG3b.out (hb2.out _ _)) l3b).mono ?_; rintro e w5 ⟨rfl, hb5⟩; have HB5 := Lib.hid hb5; clear hb5)
          have St5 : Hid (Kd.C k30 w5 (some ada) n a ∧ Kd.C k30 w5 (some adb) n b ∧ Below w.heap.size w w5) := by
            have hb := (hb2.out (.cells #[.int .i64 x.f0, .string x.f1, .string x.f2, .slice A3a x.f3.length c3a] 30) (.cells #[.int .i64 y.f0, .string y.f1, .string y.f2, .slice A3b y.f3.length c3b] 30)).trans (HB5.out.mono (hb2.out _ _).size)
            exact Lib.hid ⟨Kd.C_below St1.out.1 hb, Kd.C_below St1.out.2.1 hb, St1.out.2.2.trans (hb.mono St1.out.2.2.size)⟩
          go_roundg f
          case measure => omega
          case rel =>
            refine ⟨i + 1, by simp, by omega, by omega, Lib.hid (fun j h1 h2 hj => ?_), St5⟩
            by_cases e : j = i
            · subst e
              rw [← HX.out.1, ← HX.out.2]; exact HRr.out.symm
            · exact HP.out j h1 h2 (by omega)
        | false =>
          go_wp2_with (go_at_call 11; refine (HCall.out _ _ _ _ _ (Kd.C_below GG3a.out (hb2.out _ _)) l3a (Kd.C_below GG3b.out (hb2.out _ _)) l3b).mono ?_; rintro e w5 ⟨rfl, hb5⟩; have HB5 := Lib.hid hb5; clear hb5)
          go_ret
          have hb := (hb2.out (.cells #[.int .i64 x.f0, .string x.f1, .string x.f2, .slice A3a x.f3.length c3a] 30) (.cells #[.int .i64 y.f0, .string y.f1, .string y.f2, .slice A3b y.f3.length c3b] 30)).trans (HB5.out.mono (hb2.out _ _).size)
          exact ⟨by rw [sameL_bad P a b i hia hib (by rw [← HX.out.1, ← HX.out.2]; exact HRr.out.symm)]; rfl, St1.out.2.2.trans (hb.mono St1.out.2.2.size)⟩
      · have d1 : decide ((i : Int) < (n : Int)) = false := by simp; omega
        go_wp2
        go_ret
        exact ⟨by rw [sameL_all P a b (by rw [HN.out.2, HN.out.1]) (fun j h1 h2 => HP.out j h1 h2 (by have := HN.out.1; omega))]; rfl, St1.out.2.2⟩
  · have d0 : (a.length == b.length) = false := beq_eq_false_iff_ne.2 hl
    have HF := Lib.hid (sameL_ne P a b hl)
    have d2 : ((a.length : Int) == (b.length : Int)) = false := beq_eq_false_iff_ne.2 (by omega)
    clear hl HK HA HB
    go_enter Try.func10, Try.ntmps10
    go_wp2
    go_ret
    exact ⟨by rw [HF.out]; rfl, Below.refl _ _⟩

set_option maxHeartbeats 8000000 in
set_option maxRecDepth 100000 in
theorem q13 (P : S37 → S37 → Bool) (a b : List S37) (A : Option Addr) (c : Nat) (A' : Option Addr) (c' : Nat) (w : World) (ha : Kd.C k37 w A a.length a) (hca : a.length ≤ c) (hb : Kd.C k37 w A' b.length b) (hcb : b.length ≤ c')
    (hk : ∀ x y, x ∈ a → y ∈ b → ∀ (A3a : Option Addr) (c3a : Nat) (A4a : Option Addr) (c4a : Nat) (A3b : Option Addr) (c3b : Nat) (A4b : Option Addr) (c4b : Nat), ∀ W, Kd.C k34 W A3a x.f3.length x.f3 → x.f3.length ≤ c3a → Kd.C k47 W A4a x.f4.length x.f4 → x.f4.length ≤ c4a → Kd.C k34 W A3b y.f3.length y.f3 → y.f3.length ≤ c3b → Kd.C k47 W A4b y.f4.length y.f4 → y.f4.length ≤ c4b → Calls Try.prog 14 #[.agg #[.int .i64 x.f0, .string x.f1, .string x.f2, .slice A3a x.f3.length c3a, .slice A4a x.f4.length c4a, .int .u8 x.f5, .int .i64 x.f6], .agg #[.int .i64 y.f0, .string y.f1, .string y.f2, .slice A3b y.f3.length c3b, .slice A4b y.f4.length c4b, .int .u8 y.f5, .int .i64 y.f6]] W fun e w' => e = .returned (.bool (P x y)) ∧ Below W.heap.size W w') :
    Calls Try.prog 13 #[.slice A a.length c, .slice A' b.length c', .func (.func 14) #[] #[]] w fun e w' => e = .returned (.bool (sameL P a b)) ∧ Below w.heap.size w w' := by
  have HK := Lib.hid hk
  have HA := Lib.hid ha
  have HB := Lib.hid hb
  have hu := Try.underlying37
  have hmax := ha.2.1
  clear hk ha hb
  by_cases hl : a.length = b.length
  · have d0 : (a.length == b.length) = true := beq_iff_eq.2 hl
    have HL := Lib.hid hl
    rw [← hl] at hcb
    obtain ⟨n, hn⟩ : ∃ n, n = a.length := ⟨_, rfl⟩
    have hnb : b.length = n := by rw [hn]; exact hl.symm
    have HN := Lib.hid (And.intro hn hnb)
    refine calls_of_args (args' := #[.slice A n c, .slice A' n c', .func (.func 14) #[] #[]]) (by rw [hnb, hn]) ?_
    rw [← hn] at hmax
    have hA := HA.out
    have hB := HB.out
    rw [← hn] at hA
    rw [hnb] at hB
    have St := Lib.hid (And.intro hA (And.intro hB (Below.refl w.heap.size w)))
    clear hl d0 hcb hca hn hnb hA hB HA HB HL
    go_enter Try.func13, Try.ntmps13
    go_wp2
    go_loopg [17] (n + 1) (fun f v17 W => ∃ i : Nat, v17 = .int .i64 (i : Int) ∧ i + f = n + 1 ∧ i ≤ n ∧ Hid (∀ (j : Nat) (h1 : j < a.length) (h2 : j < b.length), j < i → P a[j] b[j] = true) ∧ Hid (Kd.C k37 W A n a ∧ Kd.C k37 W A' n b ∧ Below w.heap.size w W))
    case atStart => exact ⟨0, rfl, by omega, Nat.zero_le _, Lib.hid (fun j _ _ h => absurd h (Nat.not_lt_zero _)), St⟩
    case round =>
      obtain ⟨i, rfl, hi, hil, HP, St1⟩ := hrel
      clear St
      by_cases hlt : i < n
      · have d1 : decide ((i : Int) < (n : Int)) = true := by simp; omega
        have hia : i < a.length := by have := HN.out.1; omega
        have hib : i < b.length := by have := HN.out.2; omega
        obtain ⟨ada, A3a, c3a, A4a, c4a, eqa, h0a, h1a, h2a, h3a, h4a, h5a, h6a, l3a, g3a, l4a, g4a⟩ := at_T37 St1.out.1 (i : Int) (by omega) (by omega)
        obtain ⟨adb, A3b, c3b, A4b, c4b, eqb, h0b, h1b, h2b, h3b, h4b, h5b, h6b, l3b, g3b, l4b, g4b⟩ := at_T37 St1.out.2.1 (i : Int) (by omega) (by omega)
        have hra : rd_T37 a (i : Int) = a[i] := by simp [rd_T37, List.getD_eq_getElem?_getD, hia]
        have hrb : rd_T37 b (i : Int) = b[i] := by simp [rd_T37, List.getD_eq_getElem?_getD, hib]
        obtain ⟨x, hx⟩ : ∃ x, x = rd_T37 a (i : Int) := ⟨_, rfl⟩
        obtain ⟨y, hy⟩ : ∃ y, y = rd_T37 b (i : Int) := ⟨_, rfl⟩
        rw [← hx] at h0a h1a h2a h3a h4a h5a h6a l3a g3a l4a g4a
        rw [← hy] at h0b h1b h2b h3b h4b h5b h6b l3b g3b l4b g4b
        simp only [Int.toNat_natCast] at h0a h1a h2a h3a h4a h5a h6a h0b h1b h2b h3b h4b h5b h6b
        have hma : x ∈ a := by rw [hx, hra]; exact List.getElem_mem hia
        have hmb : y ∈ b := by rw [hy, hrb]; exact List.getElem_mem hib
        have HX := Lib.hid (And.intro (hx.trans hra) (hy.trans hrb))
        have HM := Lib.hid (And.intro hma hmb)
        clear hx hy hra hrb hma hmb
        cases eqa; cases eqb
        have GG3a := Lib.hid g3a
        have GG4a := Lib.hid g4a
        have GG3b := Lib.hid g3b
        have GG4b := Lib.hid g4b

        have hlb : (adb.add (i * 7)).block < wr.heap.size := cell_lt h0b
        have hlb1 : (adb.add (i * 7)).block < wr.heap.size + 1 := by omega
        have hlbn : (adb.add (i * 7)).block ≠ wr.heap.size := by omega
        have hb2 : Hid (∀ (o1 o2 : Obj), Below wr.heap.size wr ((wr.alloc o1).alloc o2)) := Lib.hid (fun o1 o2 => below_alloc (below_alloc (Below.refl _ _) _) _)
        obtain ⟨f, rfl⟩ : ∃ f, gk = f + 1 := ⟨gk - 1, by omega⟩
        obtain ⟨r, hr⟩ : ∃ r, r = P x y := ⟨_, rfl⟩
        have HC := HK.out x y HM.out.1 HM.out.2
        rw [← hr] at HC
        have HCall := Lib.hid HC
        have HRr := Lib.hid hr
        clear HC hr g3a g3b g4a g4b
        cases r with
        | true =>
          go_wp2_with (go_at_call 14; refine (HCall.out _ _ _ _ _ _ _ _ _ (Kd.C_below GG3a.out (hb2.out _ _)) l3a (Kd.C_below GG4a.out (hb2.out _ _)) l4a (Kd.C_below GG3b.out (hb2.out _ _)) l3b (Kd.C_below GG4b.out (hb2.out _ _)) l4b).mono ?_; rintro e w5 ⟨rfl, hb5⟩; have HB5 := Lib.hid hb5; clear hb5)
          have St5 : Hid (Kd.C k37 w5 (some ada) n a ∧ Kd.C k37 w5 (some adb) n b ∧ Below w.heap.size w w5) := by
            have hb := (hb2.out (.cells #[.int .i64 x.f0, .string x.f1, .string x.f2, .slice A3a x.f3.length c3a, .slice A4a x.f4.length c4a, .int .u8 x.f5, .int .i64 x.f6] 37) (.cells #[.int .i64 y.f0, .string y.f1, .string y.f2, .slice A3b y.f3.length c3b, .slice A4b y.f4.length c4b, .int .u8 y.f5, .int .i64 y.f6] 37)).trans (HB5.out.mono (hb2.out _ _).size)
            exact Lib.hid ⟨Kd.C_below St1.out.1 hb, Kd.C_below St1.out.2.1 hb, St1.out.2.2.trans (hb.mono St1.out.2.2.size)⟩
          go_roundg f
          case measure => omega
          case rel =>
            refine ⟨i + 1, by simp, by omega, by omega, Lib.hid (fun j h1 h2 hj => ?_), St5⟩
            by_cases e : j = i
            · subst e
              rw [← HX.out.1, ← HX.out.2]; exact HRr.out.symm
            · exact HP.out j h1 h2 (by omega)
        | false =>
          go_wp2_with (go_at_call 14; refine (HCall.out _ _ _ _ _ _ _ _ _ (Kd.C_below GG3a.out (hb2.out _ _)) l3a (Kd.C_below GG4a.out (hb2.out _ _)) l4a (Kd.C_below GG3b.out (hb2.out _ _)) l3b (Kd.C_below GG4b.out (hb2.out _ _)) l4b).mono ?_; rintro e w5 ⟨rfl, hb5⟩; have HB5 := Lib.hid hb5; clear hb5)
          go_ret
          have hb := (hb2.out (.cells #[.int .i64 x.f0, .string x.f1, .string x.f2, .slice A3a x.f3.length c3a, .slice A4a x.f4.length c4a, .int .u8 x.f5, .int .i64 x.f6] 37) (.cells #[.int .i64 y.f0, .string y.f1, .string y.f2, .slice A3b y.f3.length c3b, .slice A4b y.f4.length c4b, .int .u8 y.f5, .int .i64 y.f6] 37)).trans (HB5.out.mono (hb2.out _ _).size)
          exact ⟨by rw [sameL_bad P a b i hia hib (by rw [← HX.out.1, ← HX.out.2]; exact HRr.out.symm)]; rfl, St1.out.2.2.trans (hb.mono St1.out.2.2.size)⟩
      · have d1 : decide ((i : Int) < (n : Int)) = false := by simp; omega
        go_wp2
        go_ret
        exact ⟨by rw [sameL_all P a b (by rw [HN.out.2, HN.out.1]) (fun j h1 h2 => HP.out j h1 h2 (by have := HN.out.1; omega))]; rfl, St1.out.2.2⟩
  · have d0 : (a.length == b.length) = false := beq_eq_false_iff_ne.2 hl
    have HF := Lib.hid (sameL_ne P a b hl)
    have d2 : ((a.length : Int) == (b.length : Int)) = false := beq_eq_false_iff_ne.2 (by omega)
    clear hl HK HA HB
    go_enter Try.func13, Try.ntmps13
    go_wp2
    go_ret
    exact ⟨by rw [HF.out]; rfl, Below.refl _ _⟩
end Go.Proofs.Ytpimociplmpfcaa.Sam
