/- The reference's sameStmts: its walk. Printed by tools/mk11t.py. -/
import Derived.Test.YtpimociplmpfcaaRefD
import Derived.Deep.RegionWith
import Derived.RegionTactic
import Derived.Deep.DeepCutAuto
namespace Go.Proofs.Ytpimociplmpfcaa.Sam
open Go.RowKit Go.Proofs.YtpimociplmpfcaaW.PrintWords Go.Proofs.YtpimociplmpfcaaW.PrintLast Go.Proofs.YtpimociplmpfcaaW.PrintMore Go.Proofs.Ytpimociplmpfcaa.PParseSames
set_option linter.unusedVariables false
set_option linter.unusedSimpArgs false
attribute [local go_sem] drewN_set drewN_new

set_option maxHeartbeats 8000000 in
set_option maxRecDepth 100000 in
theorem q17 (E : List S49 → List S49 → Bool) (T : List S47 → List S47 → Bool) (a b : List S47) (A : Option Addr) (c : Nat) (A' : Option Addr) (c' : Nat) (w : World) (ha : Kd.C k47 w A a.length a) (hca : a.length ≤ c) (hb : Kd.C k47 w A' b.length b) (hcb : b.length ≤ c')
    (hk5 : ∀ x y, x ∈ a → y ∈ b → ∀ (A1 : Option Addr) (c1 : Nat) (A2 : Option Addr) (c2 : Nat) W, Kd.C k49 W A1 x.f5.length x.f5 → x.f5.length ≤ c1 → Kd.C k49 W A2 y.f5.length y.f5 → y.f5.length ≤ c2 → Calls Try.prog 26 #[.slice A1 x.f5.length c1, .slice A2 y.f5.length c2] W fun e w' => e = .returned (.bool (E x.f5 y.f5)) ∧ Below W.heap.size W w') (hk6 : ∀ x y, x ∈ a → y ∈ b → ∀ (A1 : Option Addr) (c1 : Nat) (A2 : Option Addr) (c2 : Nat) W, Kd.C k47 W A1 x.f6.length x.f6 → x.f6.length ≤ c1 → Kd.C k47 W A2 y.f6.length y.f6 → y.f6.length ≤ c2 → Calls Try.prog 17 #[.slice A1 x.f6.length c1, .slice A2 y.f6.length c2] W fun e w' => e = .returned (.bool (T x.f6 y.f6)) ∧ Below W.heap.size W w') (hk7 : ∀ x y, x ∈ a → y ∈ b → ∀ (A1 : Option Addr) (c1 : Nat) (A2 : Option Addr) (c2 : Nat) W, Kd.C k47 W A1 x.f7.length x.f7 → x.f7.length ≤ c1 → Kd.C k47 W A2 y.f7.length y.f7 → y.f7.length ≤ c2 → Calls Try.prog 17 #[.slice A1 x.f7.length c1, .slice A2 y.f7.length c2] W fun e w' => e = .returned (.bool (T x.f7 y.f7)) ∧ Below W.heap.size W w') :
    Calls Try.prog 17 #[.slice A a.length c, .slice A' b.length c'] w fun e w' => e = .returned (.bool (sameL (eqS E T) a b)) ∧ Below w.heap.size w w' := by
  have HK5 := Lib.hid hk5
  have HK6 := Lib.hid hk6
  have HK7 := Lib.hid hk7
  have HA := Lib.hid ha
  have HB := Lib.hid hb
  have hu := Try.underlying47
  have hmax := ha.2.1
  clear hk5 hk6 hk7 ha hb
  by_cases hl : a.length = b.length
  · have d0 : (a.length == b.length) = true := beq_iff_eq.2 hl
    have HL := Lib.hid hl
    rw [← hl] at hcb
    obtain ⟨n, hn⟩ : ∃ n, n = a.length := ⟨_, rfl⟩
    have hnb : b.length = n := by rw [hn]; exact hl.symm
    have HN := Lib.hid (And.intro hn hnb)
    refine calls_of_args (args' := #[.slice A n c, .slice A' n c']) (by rw [hnb, hn]) ?_
    rw [← hn] at hmax
    have hA := HA.out
    have hB := HB.out
    rw [← hn] at hA
    rw [hnb] at hB
    have St := Lib.hid (And.intro hA (And.intro hB (Below.refl w.heap.size w)))
    clear hl d0 hcb hca hn hnb hA hB HA HB HL
    go_enter Try.func17, Try.ntmps17
    go_wp2
    go_loopg [15] (n + 1) (fun f v15 W => ∃ i : Nat, v15 = .int .i64 (i : Int) ∧ i + f = n + 1 ∧ i ≤ n ∧ Hid (∀ (j : Nat) (h1 : j < a.length) (h2 : j < b.length), j < i → eqS E T a[j] b[j] = true) ∧ Hid (Kd.C k47 W A n a ∧ Kd.C k47 W A' n b ∧ Below w.heap.size w W))
    case atStart => exact ⟨0, rfl, by omega, Nat.zero_le _, Lib.hid (fun j _ _ h => absurd h (Nat.not_lt_zero _)), St⟩
    case round =>
      obtain ⟨i, rfl, hi, hil, HP, St1⟩ := hrel
      clear St
      by_cases hlt : i < n
      · have d1 : decide ((i : Int) < (n : Int)) = true := by simp; omega
        have hia : i < a.length := by have := HN.out.1; omega
        have hib : i < b.length := by have := HN.out.2; omega
        obtain ⟨ada, A5a, c5a, A6a, c6a, A7a, c7a, eqa, h0a, h1a, h2a, h3a, h4a, h5a, h6a, h7a, h8a, h9a, l5a, g5a, l6a, g6a, l7a, g7a⟩ := at_T47 St1.out.1 (i : Int) (by omega) (by omega)
        obtain ⟨adb, A5b, c5b, A6b, c6b, A7b, c7b, eqb, h0b, h1b, h2b, h3b, h4b, h5b, h6b, h7b, h8b, h9b, l5b, g5b, l6b, g6b, l7b, g7b⟩ := at_T47 St1.out.2.1 (i : Int) (by omega) (by omega)
        have hra : rd_T47 a (i : Int) = a[i] := by simp [rd_T47, List.getD_eq_getElem?_getD, hia]
        have hrb : rd_T47 b (i : Int) = b[i] := by simp [rd_T47, List.getD_eq_getElem?_getD, hib]
        obtain ⟨x, hx⟩ : ∃ x, x = rd_T47 a (i : Int) := ⟨_, rfl⟩
        obtain ⟨y, hy⟩ : ∃ y, y = rd_T47 b (i : Int) := ⟨_, rfl⟩
        rw [← hx] at h0a h1a h2a h3a h4a h5a h6a h7a h8a h9a l5a g5a l6a g6a l7a g7a
        rw [← hy] at h0b h1b h2b h3b h4b h5b h6b h7b h8b h9b l5b g5b l6b g6b l7b g7b
        simp only [Int.toNat_natCast] at h0a h1a h2a h3a h4a h5a h6a h7a h8a h9a h0b h1b h2b h3b h4b h5b h6b h7b h8b h9b
        have hma : x ∈ a := by rw [hx, hra]; exact List.getElem_mem hia
        have hmb : y ∈ b := by rw [hy, hrb]; exact List.getElem_mem hib
        have HX := Lib.hid (And.intro (hx.trans hra) (hy.trans hrb))
        have HM := Lib.hid (And.intro hma hmb)
        clear hx hy hra hrb hma hmb
        cases eqa; cases eqb
        have GG5a := Lib.hid g5a
        have GG6a := Lib.hid g6a
        have GG7a := Lib.hid g7a
        have GG5b := Lib.hid g5b
        have GG6b := Lib.hid g6b
        have GG7b := Lib.hid g7b

        have hlb : (adb.add (i * 10)).block < wr.heap.size := cell_lt h0b
        have hlb1 : (adb.add (i * 10)).block < wr.heap.size + 1 := by omega
        have hlbn : (adb.add (i * 10)).block ≠ wr.heap.size := by omega
        obtain ⟨f, rfl⟩ : ∃ f, gk = f + 1 := ⟨gk - 1, by omega⟩
        clear g5a g6a g7a g5b g6b g7b
        have hla : (ada.add (i * 10)).block < wr.heap.size := cell_lt h0a
        have hla1 : (ada.add (i * 10)).block < wr.heap.size + 1 := by omega
        have hla2 : (ada.add (i * 10)).block < wr.heap.size + 2 := by omega
        have hlan : (ada.add (i * 10)).block ≠ wr.heap.size := by omega
        have hlan1 : (ada.add (i * 10)).block ≠ wr.heap.size + 1 := by omega
        have hlb2 : (adb.add (i * 10)).block < wr.heap.size + 2 := by omega
        have hlbn1 : (adb.add (i * 10)).block ≠ wr.heap.size + 1 := by omega
        go_upto_region 6 with (fail)
        go_cut [6, 7] (fun v6 v7 W => ∃ bx by' : Nat, v6 = .pointer (some ⟨bx, 0, none⟩) ∧ v7 = .pointer (some ⟨by', 0, none⟩) ∧ Hid (W.heap[bx]? = some (.cells #[.int .i64 x.f0, .int .i64 x.f1, .string x.f2, .string x.f3, .int .i64 x.f4, .slice A5a x.f5.length c5a, .slice A6a x.f6.length c6a, .slice A7a x.f7.length c7a, .int .u8 x.f8, .int .i64 x.f9] 47 (0, 0))) ∧ Hid (W.heap[by']? = some (.cells #[.int .i64 y.f0, .int .i64 y.f1, .string y.f2, .string y.f3, .int .i64 y.f4, .slice A5b y.f5.length c5b, .slice A6b y.f6.length c6b, .slice A7b y.f7.length c7b, .int .u8 y.f8, .int .i64 y.f9] 47 (0, 0))) ∧ Hid (Below wr.heap.size wr W))
        case first =>
          go_region
          all_goals (go_wp2_with fail; go_meet)
          · exact ⟨_, _, rfl, rfl, Lib.hid (blk_drew (blk_alloc (blk_new wr _) _)), Lib.hid (blk_drew (by have := blk_new (wr.alloc (.cells #[.int .i64 x.f0, .int .i64 x.f1, .string x.f2, .string x.f3, .int .i64 x.f4, .slice A5a x.f5.length c5a, .slice A6a x.f6.length c6a, .slice A7a x.f7.length c7a, .int .u8 x.f8, .int .i64 x.f9] 47)) (.cells #[.int .i64 y.f0, .int .i64 y.f1, .string y.f2, .string y.f3, .int .i64 y.f4, .slice A5b y.f5.length c5b, .slice A6b y.f6.length c6b, .slice A7b y.f7.length c7b, .int .u8 y.f8, .int .i64 y.f9] 47); rw [World.size_alloc] at this; exact this)), Lib.hid (below_drew (below_alloc (below_alloc (Below.refl _ _) _) _))⟩
          · exact ⟨_, _, rfl, rfl, Lib.hid (blk_drew (by have := blk_new (wr.alloc (.cells #[.int .i64 y.f0, .int .i64 y.f1, .string y.f2, .string y.f3, .int .i64 y.f4, .slice A5b y.f5.length c5b, .slice A6b y.f6.length c6b, .slice A7b y.f7.length c7b, .int .u8 y.f8, .int .i64 y.f9] 47)) (.cells #[.int .i64 x.f0, .int .i64 x.f1, .string x.f2, .string x.f3, .int .i64 x.f4, .slice A5a x.f5.length c5a, .slice A6a x.f6.length c6a, .slice A7a x.f7.length c7a, .int .u8 x.f8, .int .i64 x.f9] 47); rw [World.size_alloc] at this; exact this)), Lib.hid (blk_drew (blk_alloc (blk_new wr _) _)), Lib.hid (below_drew (below_alloc (below_alloc (Below.refl _ _) _) _))⟩
        case rest =>
          obtain ⟨bx, by', rfl, rfl, kx0, ky0, hb0⟩ := hcut
          generalize wc = W0 at hb0 kx0 ky0 ⊢
          have fx0_0 : W0.cell? ⟨bx, 0, none⟩ = some (.int .i64 x.f0) := (blk_cell kx0.out 0).trans rfl
          have fy0_0 : W0.cell? ⟨by', 0, none⟩ = some (.int .i64 y.f0) := (blk_cell ky0.out 0).trans rfl
          have fx0_2 : W0.cell? ⟨bx, 2, none⟩ = some (.string x.f2) := (blk_cell kx0.out 2).trans rfl
          have fy0_2 : W0.cell? ⟨by', 2, none⟩ = some (.string y.f2) := (blk_cell ky0.out 2).trans rfl
          have fx0_3 : W0.cell? ⟨bx, 3, none⟩ = some (.string x.f3) := (blk_cell kx0.out 3).trans rfl
          have fy0_3 : W0.cell? ⟨by', 3, none⟩ = some (.string y.f3) := (blk_cell ky0.out 3).trans rfl
          have fx0_4 : W0.cell? ⟨bx, 4, none⟩ = some (.int .i64 x.f4) := (blk_cell kx0.out 4).trans rfl
          have fy0_4 : W0.cell? ⟨by', 4, none⟩ = some (.int .i64 y.f4) := (blk_cell ky0.out 4).trans rfl
          have fx0_5 : W0.cell? ⟨bx, 5, none⟩ = some (.slice A5a x.f5.length c5a) := (blk_cell kx0.out 5).trans rfl
          have fy0_5 : W0.cell? ⟨by', 5, none⟩ = some (.slice A5b y.f5.length c5b) := (blk_cell ky0.out 5).trans rfl
          have fx0_6 : W0.cell? ⟨bx, 6, none⟩ = some (.slice A6a x.f6.length c6a) := (blk_cell kx0.out 6).trans rfl
          have fy0_6 : W0.cell? ⟨by', 6, none⟩ = some (.slice A6b y.f6.length c6b) := (blk_cell ky0.out 6).trans rfl
          have fx0_7 : W0.cell? ⟨bx, 7, none⟩ = some (.slice A7a x.f7.length c7a) := (blk_cell kx0.out 7).trans rfl
          have fy0_7 : W0.cell? ⟨by', 7, none⟩ = some (.slice A7b y.f7.length c7b) := (blk_cell ky0.out 7).trans rfl
          by_cases c0 : (x.f0 == y.f0) = true
          · have d0 := c0
            have n0 : (x.f0 != y.f0) = false := by unfold bne; rw [d0]; rfl
            clear c0
            by_cases c2 : (x.f2.toList == y.f2.toList) = true
            · have d2 := c2
              have n2 : (x.f2.toList = y.f2.toList) = True := eq_true (by simpa using c2)
              clear c2
              by_cases c3 : (x.f3.toList == y.f3.toList) = true
              · have d3 := c3
                have n3 : (x.f3.toList = y.f3.toList) = True := eq_true (by simpa using c3)
                clear c3
                by_cases c4 : (x.f4 == y.f4) = true
                · have d4 := c4
                  have n4 : (x.f4 != y.f4) = false := by unfold bne; rw [d4]; rfl
                  clear c4
                  obtain ⟨r, r5⟩ : ∃ r, r = E x.f5 y.f5 := ⟨_, rfl⟩
                  have HR5 := Lib.hid r5
                  cases r with
                  | true =>
                    obtain ⟨r, r6⟩ : ∃ r, r = T x.f6 y.f6 := ⟨_, rfl⟩
                    have HR6 := Lib.hid r6
                    cases r with
                    | true =>
                      obtain ⟨r, r7⟩ : ∃ r, r = T x.f7 y.f7 := ⟨_, rfl⟩
                      have HR7 := Lib.hid r7
                      cases r with
                      | true =>
                        have HPv : Hid (eqS E T x y = true) := Lib.hid (by unfold eqS; rw [d0, d2, d3, d4, ← HR5.out, ← HR6.out, ← HR7.out]; simp)
                        clear r5 r6 r7
                        clear d0 d4
                        go_wp2_with fail
                        refine (HK5.out x y HM.out.1 HM.out.2 _ _ _ _ _ (Kd.C_below GG5a.out hb0.out) l5a (Kd.C_below GG5b.out hb0.out) l5b).mono ?_
                        rintro e w1 ⟨rfl, hb⟩
                        have hb1 := Lib.hid (hb0.out.trans (hb.mono hb0.out.size))
                        have kx1 := Lib.hid (blk_below kx0.out hb)
                        have ky1 := Lib.hid (blk_below ky0.out hb)
                        have fx1_6 : w1.cell? ⟨bx, 6, none⟩ = some (.slice A6a x.f6.length c6a) := (blk_cell kx1.out 6).trans rfl
                        have fy1_6 : w1.cell? ⟨by', 6, none⟩ = some (.slice A6b y.f6.length c6b) := (blk_cell ky1.out 6).trans rfl
                        have fx1_7 : w1.cell? ⟨bx, 7, none⟩ = some (.slice A7a x.f7.length c7a) := (blk_cell kx1.out 7).trans rfl
                        have fy1_7 : w1.cell? ⟨by', 7, none⟩ = some (.slice A7b y.f7.length c7b) := (blk_cell ky1.out 7).trans rfl
                        clear hb
                        rw [← HR5.out]
                        go_wp2_with fail
                        refine (HK6.out x y HM.out.1 HM.out.2 _ _ _ _ _ (Kd.C_below GG6a.out hb1.out) l6a (Kd.C_below GG6b.out hb1.out) l6b).mono ?_
                        rintro e w2 ⟨rfl, hb⟩
                        have hb2 := Lib.hid (hb1.out.trans (hb.mono hb1.out.size))
                        have kx2 := Lib.hid (blk_below kx1.out hb)
                        have ky2 := Lib.hid (blk_below ky1.out hb)
                        have fx2_7 : w2.cell? ⟨bx, 7, none⟩ = some (.slice A7a x.f7.length c7a) := (blk_cell kx2.out 7).trans rfl
                        have fy2_7 : w2.cell? ⟨by', 7, none⟩ = some (.slice A7b y.f7.length c7b) := (blk_cell ky2.out 7).trans rfl
                        clear hb
                        rw [← HR6.out]
                        go_wp2_with fail
                        refine (HK7.out x y HM.out.1 HM.out.2 _ _ _ _ _ (Kd.C_below GG7a.out hb2.out) l7a (Kd.C_below GG7b.out hb2.out) l7b).mono ?_
                        rintro e w3 ⟨rfl, hb⟩
                        have hb3 := Lib.hid (hb2.out.trans (hb.mono hb2.out.size))
                        clear hb
                        rw [← HR7.out]
                        go_wp2
                        have St5 := Lib.hid (And.intro (Kd.C_below St1.out.1 hb3.out) (And.intro (Kd.C_below St1.out.2.1 hb3.out) (St1.out.2.2.trans (hb3.out.mono St1.out.2.2.size))))
                        go_roundg f
                        case measure => omega
                        case rel =>
                          refine ⟨i + 1, by simp, by omega, by omega, Lib.hid (fun j h1 h2 hj => ?_), St5⟩
                          by_cases e : j = i
                          · subst e
                            rw [← HX.out.1, ← HX.out.2]; exact HPv.out
                          · exact HP.out j h1 h2 (by omega)
                      | false =>
                        have HPv : Hid (eqS E T x y = false) := Lib.hid (by unfold eqS; rw [d0, d2, d3, d4, ← HR5.out, ← HR6.out, ← HR7.out]; simp)
                        clear r5 r6 r7
                        clear d0 d2 d3 d4
                        go_wp2_with fail
                        refine (HK5.out x y HM.out.1 HM.out.2 _ _ _ _ _ (Kd.C_below GG5a.out hb0.out) l5a (Kd.C_below GG5b.out hb0.out) l5b).mono ?_
                        rintro e w1 ⟨rfl, hb⟩
                        have hb1 := Lib.hid (hb0.out.trans (hb.mono hb0.out.size))
                        have kx1 := Lib.hid (blk_below kx0.out hb)
                        have ky1 := Lib.hid (blk_below ky0.out hb)
                        have fx1_6 : w1.cell? ⟨bx, 6, none⟩ = some (.slice A6a x.f6.length c6a) := (blk_cell kx1.out 6).trans rfl
                        have fy1_6 : w1.cell? ⟨by', 6, none⟩ = some (.slice A6b y.f6.length c6b) := (blk_cell ky1.out 6).trans rfl
                        have fx1_7 : w1.cell? ⟨bx, 7, none⟩ = some (.slice A7a x.f7.length c7a) := (blk_cell kx1.out 7).trans rfl
                        have fy1_7 : w1.cell? ⟨by', 7, none⟩ = some (.slice A7b y.f7.length c7b) := (blk_cell ky1.out 7).trans rfl
                        clear hb
                        rw [← HR5.out]
                        go_wp2_with fail
                        refine (HK6.out x y HM.out.1 HM.out.2 _ _ _ _ _ (Kd.C_below GG6a.out hb1.out) l6a (Kd.C_below GG6b.out hb1.out) l6b).mono ?_
                        rintro e w2 ⟨rfl, hb⟩
                        have hb2 := Lib.hid (hb1.out.trans (hb.mono hb1.out.size))
                        have kx2 := Lib.hid (blk_below kx1.out hb)
                        have ky2 := Lib.hid (blk_below ky1.out hb)
                        have fx2_7 : w2.cell? ⟨bx, 7, none⟩ = some (.slice A7a x.f7.length c7a) := (blk_cell kx2.out 7).trans rfl
                        have fy2_7 : w2.cell? ⟨by', 7, none⟩ = some (.slice A7b y.f7.length c7b) := (blk_cell ky2.out 7).trans rfl
                        clear hb
                        rw [← HR6.out]
                        go_wp2_with fail
                        refine (HK7.out x y HM.out.1 HM.out.2 _ _ _ _ _ (Kd.C_below GG7a.out hb2.out) l7a (Kd.C_below GG7b.out hb2.out) l7b).mono ?_
                        rintro e w3 ⟨rfl, hb⟩
                        have hb3 := Lib.hid (hb2.out.trans (hb.mono hb2.out.size))
                        clear hb
                        rw [← HR7.out]
                        go_wp2
                        go_ret
                        exact ⟨by rw [sameL_bad (eqS E T) a b i hia hib (by rw [← HX.out.1, ← HX.out.2]; exact HPv.out)]; rfl, St1.out.2.2.trans (hb3.out.mono St1.out.2.2.size)⟩
                    | false =>
                      have HPv : Hid (eqS E T x y = false) := Lib.hid (by unfold eqS; rw [d0, d2, d3, d4, ← HR5.out, ← HR6.out]; simp)
                      clear r5 r6
                      clear d0 d2 d3 d4
                      go_wp2_with fail
                      refine (HK5.out x y HM.out.1 HM.out.2 _ _ _ _ _ (Kd.C_below GG5a.out hb0.out) l5a (Kd.C_below GG5b.out hb0.out) l5b).mono ?_
                      rintro e w1 ⟨rfl, hb⟩
                      have hb1 := Lib.hid (hb0.out.trans (hb.mono hb0.out.size))
                      have kx1 := Lib.hid (blk_below kx0.out hb)
                      have ky1 := Lib.hid (blk_below ky0.out hb)
                      have fx1_6 : w1.cell? ⟨bx, 6, none⟩ = some (.slice A6a x.f6.length c6a) := (blk_cell kx1.out 6).trans rfl
                      have fy1_6 : w1.cell? ⟨by', 6, none⟩ = some (.slice A6b y.f6.length c6b) := (blk_cell ky1.out 6).trans rfl
                      have fx1_7 : w1.cell? ⟨bx, 7, none⟩ = some (.slice A7a x.f7.length c7a) := (blk_cell kx1.out 7).trans rfl
                      have fy1_7 : w1.cell? ⟨by', 7, none⟩ = some (.slice A7b y.f7.length c7b) := (blk_cell ky1.out 7).trans rfl
                      clear hb
                      rw [← HR5.out]
                      go_wp2_with fail
                      refine (HK6.out x y HM.out.1 HM.out.2 _ _ _ _ _ (Kd.C_below GG6a.out hb1.out) l6a (Kd.C_below GG6b.out hb1.out) l6b).mono ?_
                      rintro e w2 ⟨rfl, hb⟩
                      have hb2 := Lib.hid (hb1.out.trans (hb.mono hb1.out.size))
                      clear hb
                      rw [← HR6.out]
                      go_wp2
                      go_ret
                      exact ⟨by rw [sameL_bad (eqS E T) a b i hia hib (by rw [← HX.out.1, ← HX.out.2]; exact HPv.out)]; rfl, St1.out.2.2.trans (hb2.out.mono St1.out.2.2.size)⟩
                  | false =>
                    have HPv : Hid (eqS E T x y = false) := Lib.hid (by unfold eqS; rw [d0, d2, d3, d4, ← HR5.out]; simp)
                    clear r5
                    clear d0 d2 d3 d4
                    go_wp2_with fail
                    refine (HK5.out x y HM.out.1 HM.out.2 _ _ _ _ _ (Kd.C_below GG5a.out hb0.out) l5a (Kd.C_below GG5b.out hb0.out) l5b).mono ?_
                    rintro e w1 ⟨rfl, hb⟩
                    have hb1 := Lib.hid (hb0.out.trans (hb.mono hb0.out.size))
                    clear hb
                    rw [← HR5.out]
                    go_wp2
                    go_ret
                    exact ⟨by rw [sameL_bad (eqS E T) a b i hia hib (by rw [← HX.out.1, ← HX.out.2]; exact HPv.out)]; rfl, St1.out.2.2.trans (hb1.out.mono St1.out.2.2.size)⟩
                · have d4 : (x.f4 == y.f4) = false := by simpa using c4
                  have n4 : (x.f4 != y.f4) = true := by unfold bne; rw [d4]; rfl
                  clear c4
                  have HPv : Hid (eqS E T x y = false) := Lib.hid (by unfold eqS; rw [d0, d2, d3, d4]; simp)
                  clear d0 d2 d3 d4
                  go_wp2
                  go_ret
                  exact ⟨by rw [sameL_bad (eqS E T) a b i hia hib (by rw [← HX.out.1, ← HX.out.2]; exact HPv.out)]; rfl, St1.out.2.2.trans (hb0.out.mono St1.out.2.2.size)⟩
              · have d3 : (x.f3.toList == y.f3.toList) = false := by simpa using c3
                have n3 : (x.f3.toList = y.f3.toList) = False := eq_false (by simpa using c3)
                clear c3
                have HPv : Hid (eqS E T x y = false) := Lib.hid (by unfold eqS; rw [d0, d2, d3]; simp)
                clear d0 d2 d3
                go_wp2
                go_ret
                exact ⟨by rw [sameL_bad (eqS E T) a b i hia hib (by rw [← HX.out.1, ← HX.out.2]; exact HPv.out)]; rfl, St1.out.2.2.trans (hb0.out.mono St1.out.2.2.size)⟩
            · have d2 : (x.f2.toList == y.f2.toList) = false := by simpa using c2
              have n2 : (x.f2.toList = y.f2.toList) = False := eq_false (by simpa using c2)
              clear c2
              have HPv : Hid (eqS E T x y = false) := Lib.hid (by unfold eqS; rw [d0, d2]; simp)
              clear d0 d2
              go_wp2
              go_ret
              exact ⟨by rw [sameL_bad (eqS E T) a b i hia hib (by rw [← HX.out.1, ← HX.out.2]; exact HPv.out)]; rfl, St1.out.2.2.trans (hb0.out.mono St1.out.2.2.size)⟩
          · have d0 : (x.f0 == y.f0) = false := by simpa using c0
            have n0 : (x.f0 != y.f0) = true := by unfold bne; rw [d0]; rfl
            clear c0
            have HPv : Hid (eqS E T x y = false) := Lib.hid (by unfold eqS; rw [d0]; simp)
            clear d0
            go_wp2
            go_ret
            exact ⟨by rw [sameL_bad (eqS E T) a b i hia hib (by rw [← HX.out.1, ← HX.out.2]; exact HPv.out)]; rfl, St1.out.2.2.trans (hb0.out.mono St1.out.2.2.size)⟩
      · have d1 : decide ((i : Int) < (n : Int)) = false := by simp; omega
        go_wp2
        go_ret
        exact ⟨by rw [sameL_all (eqS E T) a b (by rw [HN.out.2, HN.out.1]) (fun j h1 h2 => HP.out j h1 h2 (by have := HN.out.1; omega))]; rfl, St1.out.2.2⟩
  · have d0 : (a.length == b.length) = false := beq_eq_false_iff_ne.2 hl
    have HF := Lib.hid (sameL_ne (eqS E T) a b hl)
    have d2 : ((a.length : Int) == (b.length : Int)) = false := beq_eq_false_iff_ne.2 (by omega)
    clear hl HK5 HK6 HK7 HA HB
    go_enter Try.func17, Try.ntmps17
    go_wp2
    go_ret
    exact ⟨by rw [HF.out]; rfl, Below.refl _ _⟩
end Go.Proofs.Ytpimociplmpfcaa.Sam
