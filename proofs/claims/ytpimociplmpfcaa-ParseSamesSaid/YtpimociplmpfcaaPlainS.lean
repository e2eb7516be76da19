/- SameStmts, of two lists that are alike: its walk. Printed by tools/mk11h.py. -/
import Derived.Test.YtpimociplmpfcaaOkV
import Derived.Test.YtpimociplmpfcaaRefD
import Derived.Deep.RegionWith
import Derived.RegionTactic
import Derived.Deep.DeepCutAuto
namespace Go.Proofs.Ytpimociplmpfcaa.Sam
open Go.RowKit Go.Proofs.YtpimociplmpfcaaW.PrintWords Go.Proofs.YtpimociplmpfcaaW.PrintLast Go.Proofs.YtpimociplmpfcaaW.PrintMore Go.Proofs.Ytpimociplmpfcaa.PParseSames
set_option linter.unusedVariables false
set_option linter.unusedSimpArgs false
attribute [local go_sem] drewN_set drewN_new
theorem sparams_c (l : List S34) (A : Option Addr) (c : Nat) (A' : Option Addr) (c' : Nat) (w : World) (ha : Kd.C k34 w A l.length l) (hca : l.length ≤ c) (hb : Kd.C k34 w A' l.length l) (hcb : l.length ≤ c') :
    Calls Try.prog 18 #[.slice A l.length c, .slice A' l.length c'] w fun e w' => e = .returned (.bool true) ∧ Below w.heap.size w w' :=
  (api_Param_18.calls (l.length + 1) A c l A' c' l true w ha hca hb hcb (params_same l ha.2.1)).mono (by
    rintro e w' ⟨rfl, h⟩
    exact ⟨rfl, by first | exact h | (obtain ⟨⟨n, rfl⟩⟩ := h; exact pw_below_drewN (Below.refl _ _) _)⟩)
theorem sexpr_c {l : List S49} (hl : OkE l) (x : S49) (hx : x ∈ l) (A : Option Addr) (c : Nat) (A' : Option Addr) (c' : Nat) (w : World) (ha : Kd.C k49 w A x.f4.length x.f4) (hca : x.f4.length ≤ c) (hb : Kd.C k49 w A' x.f4.length x.f4) (hcb : x.f4.length ≤ c') :
    Calls Try.prog 27 #[.agg #[.int .i64 x.f0, .int .i64 x.f1, .string x.f2, .int .i64 x.f3, .slice A x.f4.length c, .int .u8 x.f5, .int .i64 x.f6, .int .i64 x.f7], .agg #[.int .i64 x.f0, .int .i64 x.f1, .string x.f2, .int .i64 x.f3, .slice A' x.f4.length c', .int .u8 x.f5, .int .i64 x.f6, .int .i64 x.f7]] w fun e w' => e = .returned (.bool true) ∧ Below w.heap.size w w' := by
  obtain ⟨K, hK⟩ := expr_same hl
  exact provisoplain_SameExpr.calls K x.f0 x.f1 x.f2 x.f3 A c x.f4 x.f5 x.f6 x.f7 x.f0 x.f1 x.f2 x.f3 A' c' x.f4 x.f5 x.f6 x.f7 true w ha hca hb hcb (hK K (Nat.le_refl _) x hx)

set_option maxHeartbeats 8000000 in
set_option maxRecDepth 100000 in
theorem sstmts_round (l : List S47) (hlen : l.length * 144 ≤ 140737488351232) (he : ∀ x, x ∈ l → OkE x.f5)
    (hk6 : ∀ x, x ∈ l → ∀ (A1 : Option Addr) (c1 : Nat) (A2 : Option Addr) (c2 : Nat) W, Kd.C k47 W A1 x.f6.length x.f6 → x.f6.length ≤ c1 → Kd.C k47 W A2 x.f6.length x.f6 → x.f6.length ≤ c2 → Calls Try.prog 19 #[.slice A1 x.f6.length c1, .slice A2 x.f6.length c2] W fun e w' => e = .returned (.bool true) ∧ Below W.heap.size W w')
    (hk7 : ∀ x, x ∈ l → ∀ (A1 : Option Addr) (c1 : Nat) (A2 : Option Addr) (c2 : Nat) W, Kd.C k47 W A1 x.f7.length x.f7 → x.f7.length ≤ c1 → Kd.C k47 W A2 x.f7.length x.f7 → x.f7.length ≤ c2 → Calls Try.prog 19 #[.slice A1 x.f7.length c1, .slice A2 x.f7.length c2] W fun e w' => e = .returned (.bool true) ∧ Below W.heap.size W w')
    (A : Option Addr) (c : Nat) (A' : Option Addr) (c' : Nat) (w : World) (ha : Kd.C k47 w A l.length l) (hca : l.length ≤ c) (hb : Kd.C k47 w A' l.length l) (hcb : l.length ≤ c') :
    Calls Try.prog 19 #[.slice A l.length c, .slice A' l.length c'] w fun e w' => e = .returned (.bool true) ∧ Below w.heap.size w w' := by
  have HK6 := Lib.hid hk6
  have HK7 := Lib.hid hk7
  have HE := Lib.hid he
  have hu := Try.underlying47
  have hu49 := Try.underlying49
  have hmax := ha.2.1
  obtain ⟨n, hn⟩ : ∃ n, n = l.length := ⟨_, rfl⟩
  have HN := Lib.hid hn
  refine calls_of_args (args' := #[.slice A n c, .slice A' n c']) (by rw [hn]) ?_
  rw [← hn] at ha hb hca hcb hmax
  have St := Lib.hid (And.intro ha (And.intro hb (Below.refl w.heap.size w)))
  clear ha hb hk6 hk7 he hn hlen
  go_enter Try.func19, Try.ntmps19
  go_wp2
  go_loopg [16] (n + 1) (fun f v W => ∃ i : Nat, v = .int .i64 (i : Int) ∧ i + f = n + 1 ∧ i ≤ n ∧ Hid (Kd.C k47 W A n l ∧ Kd.C k47 W A' n l ∧ Below w.heap.size w W))
  case atStart => exact ⟨0, rfl, by omega, Nat.zero_le _, St⟩
  case round =>
    obtain ⟨i, rfl, hi, hil, St1⟩ := hrel
    clear St
    by_cases hlt : i < n
    · have d1 : decide ((i : Int) < (n : Int)) = true := by simp; omega
      have hia : i < l.length := by have := HN.out; omega
      obtain ⟨ada, A5a, c5a, A6a, c6a, A7a, c7a, eqa, h0a, h1a, h2a, h3a, h4a, h5a, h6a, h7a, h8a, h9a, l5a, g5a, l6a, g6a, l7a, g7a⟩ := at_T47 St1.out.1 (i : Int) (by omega) (by omega)
      obtain ⟨adb, A5b, c5b, A6b, c6b, A7b, c7b, eqb, h0b, h1b, h2b, h3b, h4b, h5b, h6b, h7b, h8b, h9b, l5b, g5b, l6b, g6b, l7b, g7b⟩ := at_T47 St1.out.2.1 (i : Int) (by omega) (by omega)
      have hra : rd_T47 l (i : Int) = l[i] := by simp [rd_T47, List.getD_eq_getElem?_getD, hia]
      obtain ⟨x, hx⟩ : ∃ x, x = rd_T47 l (i : Int) := ⟨_, rfl⟩
      rw [← hx] at h0a h1a h2a h3a h4a h5a h6a h7a h8a h9a l5a g5a l6a g6a l7a g7a
      rw [← hx] at h0b h1b h2b h3b h4b h5b h6b h7b h8b h9b l5b g5b l6b g6b l7b g7b
      have HM : Hid (x ∈ l) := Lib.hid (by rw [hx, hra]; exact List.getElem_mem hia)
      clear hx hra
      simp only [Int.toNat_natCast] at h0a h0b h1a h1b h2a h2b h3a h3b h4a h4b h5a h5b h6a h6b h7a h7b h8a h8b h9a h9b
      cases eqa; cases eqb
      have GG5a := Lib.hid g5a
      have GG6a := Lib.hid g6a
      have GG7a := Lib.hid g7a
      have GG5b := Lib.hid g5b
      have GG6b := Lib.hid g6b
      have GG7b := Lib.hid g7b
      clear g5a g5b g6a g6b g7a g7b
      have hla : (ada.add (i * 10)).block < wr.heap.size := cell_lt h0a
      have hla1 : (ada.add (i * 10)).block < wr.heap.size + 1 := by omega
      have hla2 : (ada.add (i * 10)).block < wr.heap.size + 2 := by omega
      have hlan : (ada.add (i * 10)).block ≠ wr.heap.size := by omega
      have hlan1 : (ada.add (i * 10)).block ≠ wr.heap.size + 1 := by omega
      have hlb : (adb.add (i * 10)).block < wr.heap.size := cell_lt h0b
      have hlb1 : (adb.add (i * 10)).block < wr.heap.size + 1 := by omega
      have hlb2 : (adb.add (i * 10)).block < wr.heap.size + 2 := by omega
      have hlbn : (adb.add (i * 10)).block ≠ wr.heap.size := by omega
      have hlbn1 : (adb.add (i * 10)).block ≠ wr.heap.size + 1 := by omega
      obtain ⟨f, rfl⟩ : ∃ f, gk = f + 1 := ⟨gk - 1, by omega⟩
      go_upto_region 6 with (fail)
      go_cut [6, 7] (fun v6 v7 W => ∃ bx by' : Nat, v6 = .pointer (some ⟨bx, 0, none⟩) ∧ v7 = .pointer (some ⟨by', 0, none⟩) ∧ Hid (W.heap[bx]? = some (.cells #[.int .i64 x.f0, .int .i64 x.f1, .string x.f2, .string x.f3, .int .i64 x.f4, .slice A5a x.f5.length c5a, .slice A6a x.f6.length c6a, .slice A7a x.f7.length c7a, .int .u8 x.f8, .int .i64 x.f9] 47 (0, 0))) ∧ Hid (W.heap[by']? = some (.cells #[.int .i64 x.f0, .int .i64 x.f1, .string x.f2, .string x.f3, .int .i64 x.f4, .slice A5b x.f5.length c5b, .slice A6b x.f6.length c6b, .slice A7b x.f7.length c7b, .int .u8 x.f8, .int .i64 x.f9] 47 (0, 0))) ∧ Hid (Below wr.heap.size wr W))
      case first =>
        go_region
        all_goals (go_wp2_with fail; go_meet)
        · exact ⟨_, _, rfl, rfl, Lib.hid (blk_drew (blk_alloc (blk_new wr _) _)), Lib.hid (blk_drew (by have := blk_new (wr.alloc (.cells #[.int .i64 x.f0, .int .i64 x.f1, .string x.f2, .string x.f3, .int .i64 x.f4, .slice A5a x.f5.length c5a, .slice A6a x.f6.length c6a, .slice A7a x.f7.length c7a, .int .u8 x.f8, .int .i64 x.f9] 47)) (.cells #[.int .i64 x.f0, .int .i64 x.f1, .string x.f2, .string x.f3, .int .i64 x.f4, .slice A5b x.f5.length c5b, .slice A6b x.f6.length c6b, .slice A7b x.f7.length c7b, .int .u8 x.f8, .int .i64 x.f9] 47); rw [World.size_alloc] at this; exact this)), Lib.hid (below_drew (below_alloc (below_alloc (Below.refl _ _) _) _))⟩
        · exact ⟨_, _, rfl, rfl, Lib.hid (blk_drew (by have := blk_new (wr.alloc (.cells #[.int .i64 x.f0, .int .i64 x.f1, .string x.f2, .string x.f3, .int .i64 x.f4, .slice A5b x.f5.length c5b, .slice A6b x.f6.length c6b, .slice A7b x.f7.length c7b, .int .u8 x.f8, .int .i64 x.f9] 47)) (.cells #[.int .i64 x.f0, .int .i64 x.f1, .string x.f2, .string x.f3, .int .i64 x.f4, .slice A5a x.f5.length c5a, .slice A6a x.f6.length c6a, .slice A7a x.f7.length c7a, .int .u8 x.f8, .int .i64 x.f9] 47); rw [World.size_alloc] at this; exact this)), Lib.hid (blk_drew (blk_alloc (blk_new wr _) _)), Lib.hid (below_drew (below_alloc (below_alloc (Below.refl _ _) _) _))⟩
      case rest =>
        obtain ⟨bx, by', rfl, rfl, kx0, ky0, hb0⟩ := hcut
        generalize wc = W0 at hb0 kx0 ky0 ⊢
        obtain ⟨wo, rfl⟩ : ∃ wo : World, wo = wr := ⟨_, rfl⟩
        have fx0_0 : W0.cell? ⟨bx, 0, none⟩ = some (.int .i64 x.f0) := (blk_cell kx0.out 0).trans rfl
        have fy0_0 : W0.cell? ⟨by', 0, none⟩ = some (.int .i64 x.f0) := (blk_cell ky0.out 0).trans rfl
        have fx0_1 : W0.cell? ⟨bx, 1, none⟩ = some (.int .i64 x.f1) := (blk_cell kx0.out 1).trans rfl
        have fy0_1 : W0.cell? ⟨by', 1, none⟩ = some (.int .i64 x.f1) := (blk_cell ky0.out 1).trans rfl
        have fx0_2 : W0.cell? ⟨bx, 2, none⟩ = some (.string x.f2) := (blk_cell kx0.out 2).trans rfl
        have fy0_2 : W0.cell? ⟨by', 2, none⟩ = some (.string x.f2) := (blk_cell ky0.out 2).trans rfl
        have fx0_3 : W0.cell? ⟨bx, 3, none⟩ = some (.string x.f3) := (blk_cell kx0.out 3).trans rfl
        have fy0_3 : W0.cell? ⟨by', 3, none⟩ = some (.string x.f3) := (blk_cell ky0.out 3).trans rfl
        have fx0_4 : W0.cell? ⟨bx, 4, none⟩ = some (.int .i64 x.f4) := (blk_cell kx0.out 4).trans rfl
        have fy0_4 : W0.cell? ⟨by', 4, none⟩ = some (.int .i64 x.f4) := (blk_cell ky0.out 4).trans rfl
        have fx0_8 : W0.cell? ⟨bx, 8, none⟩ = some (.int .u8 x.f8) := (blk_cell kx0.out 8).trans rfl
        have fy0_8 : W0.cell? ⟨by', 8, none⟩ = some (.int .u8 x.f8) := (blk_cell ky0.out 8).trans rfl
        have fx0_9 : W0.cell? ⟨bx, 9, none⟩ = some (.int .i64 x.f9) := (blk_cell kx0.out 9).trans rfl
        have fy0_9 : W0.cell? ⟨by', 9, none⟩ = some (.int .i64 x.f9) := (blk_cell ky0.out 9).trans rfl
        have fx0_5 : W0.cell? ⟨bx, 5, none⟩ = some (.slice A5a x.f5.length c5a) := (blk_cell kx0.out 5).trans rfl
        have fy0_5 : W0.cell? ⟨by', 5, none⟩ = some (.slice A5b x.f5.length c5b) := (blk_cell ky0.out 5).trans rfl
        have HM5 : Hid (OkE x.f5) := Lib.hid (HE.out x HM.out)
        have hm5 := GG5a.out.2.1
        obtain ⟨m, hm⟩ : ∃ m, m = x.f5.length := ⟨_, rfl⟩
        have HMm := Lib.hid hm
        have HA5 := GG5a.out; have HB5 := GG5b.out
        rw [← hm] at l5a l5b hm5 HA5 HB5 fx0_5 fy0_5 kx0 ky0
        have G5a := Lib.hid HA5; have G5b := Lib.hid HB5
        clear hm HA5 HB5 GG5a GG5b
        go_wp2
        clear fx0_0 fx0_1 fx0_2 fx0_3 fx0_4 fx0_8 fx0_9 fy0_0 fy0_1 fy0_2 fy0_3 fy0_4 fy0_8 fy0_9
        go_loopg [86] (m + 1) (fun f' v W => ∃ k : Nat, v = .int .i64 (k : Int) ∧ k + f' = m + 1 ∧ k ≤ m ∧ Hid (W.heap[bx]? = some (.cells #[.int .i64 x.f0, .int .i64 x.f1, .string x.f2, .string x.f3, .int .i64 x.f4, .slice A5a m c5a, .slice A6a x.f6.length c6a, .slice A7a x.f7.length c7a, .int .u8 x.f8, .int .i64 x.f9] 47 (0, 0)) ∧ W.heap[by']? = some (.cells #[.int .i64 x.f0, .int .i64 x.f1, .string x.f2, .string x.f3, .int .i64 x.f4, .slice A5b m c5b, .slice A6b x.f6.length c6b, .slice A7b x.f7.length c7b, .int .u8 x.f8, .int .i64 x.f9] 47 (0, 0)) ∧ Below wo.heap.size wo W))
        case atStart => exact ⟨0, rfl, by omega, Nat.zero_le _, Lib.hid ⟨kx0.out, ky0.out, hb0.out⟩⟩
        case round =>
          obtain ⟨k, rfl, hk, hkl, St2⟩ := hrel
          clear kx0 ky0 hb0 fx0_5 fy0_5
          by_cases hkt : k < m
          · have d2 : decide ((k : Int) < (m : Int)) = true := by simp; omega
            have hkx : k < x.f5.length := by have := HMm.out; omega
            have fx5 : wr.cell? ⟨bx, 5, none⟩ = some (.slice A5a m c5a) := (blk_cell St2.out.1 5).trans rfl
            have fy5 : wr.cell? ⟨by', 5, none⟩ = some (.slice A5b m c5b) := (blk_cell St2.out.2.1 5).trans rfl
            obtain ⟨apa, A4a, c4a, eqpa, p0a, p1a, p2a, p3a, p4a, p5a, p6a, p7a, l4a, g4a⟩ := at_T49 (Kd.C_below G5a.out St2.out.2.2) (k : Int) (by omega) (by omega)
            obtain ⟨apb, A4b, c4b, eqpb, p0b, p1b, p2b, p3b, p4b, p5b, p6b, p7b, l4b, g4b⟩ := at_T49 (Kd.C_below G5b.out St2.out.2.2) (k : Int) (by omega) (by omega)
            have hrz : rd_T49 x.f5 (k : Int) = x.f5[k] := rd49 x.f5 k hkx
            obtain ⟨z, hz⟩ : ∃ z, z = rd_T49 x.f5 (k : Int) := ⟨_, rfl⟩
            rw [← hz] at p0a p1a p2a p3a p4a p5a p6a p7a l4a g4a
            rw [← hz] at p0b p1b p2b p3b p4b p5b p6b p7b l4b g4b
            have HMz : Hid (z ∈ x.f5) := Lib.hid (by rw [hz, hrz]; exact List.getElem_mem hkx)
            clear hz hrz
            simp only [Int.toNat_natCast] at p0a p0b p1a p1b p2a p2b p3a p3b p4a p4b p5a p5b p6a p6b p7a p7b
            cases eqpa; cases eqpb
            have GP4a := Lib.hid g4a; have GP4b := Lib.hid g4b
            clear g4a g4b
            obtain ⟨f2, rfl⟩ : ∃ f2, gk = f2 + 1 := ⟨gk - 1, by omega⟩
            have HCall := Lib.hid (fun A c A' c' W ha la hb lb => sexpr_c HM5.out z HMz.out A c A' c' W ha la hb lb)
            go_wp2
            go_region_with (go_at_call 27; refine (HCall.out _ _ _ _ _ (Kd.C_below GP4a.out (by first | exact Below.refl _ _ | exact below_drew (Below.refl _ _) | exact pw_below_drewN (Below.refl _ _) _)) l4a (Kd.C_below GP4b.out (by first | exact Below.refl _ _ | exact below_drew (Below.refl _ _) | exact pw_below_drewN (Below.refl _ _) _)) l4b).mono ?_; rintro e w5 ⟨rfl, hb5⟩; have HB5 := Lib.hid hb5; clear hb5)
            all_goals (
              go_wp2
              have hb : Below wr.heap.size wr w5 := (show Below wr.heap.size wr wr.drew from below_drew (Below.refl _ _)).trans HB5.out
              have St5 := Lib.hid (And.intro (blk_below St2.out.1 hb) (And.intro (blk_below St2.out.2.1 hb) (St2.out.2.2.trans (hb.mono St2.out.2.2.size))))
              clear hb
              go_roundg f2
              case measure => omega
              case rel => exact ⟨k + 1, by simp, by omega, by omega, St5⟩)
          · have d2 : decide ((k : Int) < (m : Int)) = false := by simp; omega
            have kx1 := Lib.hid St2.out.1; have ky1 := Lib.hid St2.out.2.1; have hb1 := Lib.hid St2.out.2.2
            have fx1_6 : wr.cell? ⟨bx, 6, none⟩ = some (.slice A6a x.f6.length c6a) := (blk_cell kx1.out 6).trans rfl
            have fy1_6 : wr.cell? ⟨by', 6, none⟩ = some (.slice A6b x.f6.length c6b) := (blk_cell ky1.out 6).trans rfl
            have fx1_7 : wr.cell? ⟨bx, 7, none⟩ = some (.slice A7a x.f7.length c7a) := (blk_cell kx1.out 7).trans rfl
            have fy1_7 : wr.cell? ⟨by', 7, none⟩ = some (.slice A7b x.f7.length c7b) := (blk_cell ky1.out 7).trans rfl
            go_wp2_with fail
            refine (HK6.out x HM.out _ _ _ _ _ (Kd.C_below GG6a.out hb1.out) l6a (Kd.C_below GG6b.out hb1.out) l6b).mono ?_
            rintro e w2 ⟨rfl, hb⟩
            have hb2 := Lib.hid (hb1.out.trans (hb.mono hb1.out.size))
            have kx2 := Lib.hid (blk_below kx1.out hb); have ky2 := Lib.hid (blk_below ky1.out hb)
            have fx2_7 : w2.cell? ⟨bx, 7, none⟩ = some (.slice A7a x.f7.length c7a) := (blk_cell kx2.out 7).trans rfl
            have fy2_7 : w2.cell? ⟨by', 7, none⟩ = some (.slice A7b x.f7.length c7b) := (blk_cell ky2.out 7).trans rfl
            clear hb
            go_wp2_with fail
            refine (HK7.out x HM.out _ _ _ _ _ (Kd.C_below GG7a.out hb2.out) l7a (Kd.C_below GG7b.out hb2.out) l7b).mono ?_
            rintro e w3 ⟨rfl, hb⟩
            have hb3 := Lib.hid (hb2.out.trans (hb.mono hb2.out.size))
            clear hb
            go_wp2
            have St5 := Lib.hid (And.intro (Kd.C_below St1.out.1 hb3.out) (And.intro (Kd.C_below St1.out.2.1 hb3.out) (St1.out.2.2.trans (hb3.out.mono St1.out.2.2.size))))
            go_roundg f
            case measure => omega
            case rel => exact ⟨i + 1, by simp, by omega, by omega, St5⟩
    · have d1 : decide ((i : Int) < (n : Int)) = false := by simp; omega
      go_wp2
      go_ret
      exact ⟨rfl, St1.out.2.2⟩

theorem sstmts_c {l : List S47} (h : OkS l) : ∀ (A : Option Addr) (c : Nat) (A' : Option Addr) (c' : Nat) (w : World), Kd.C k47 w A l.length l → l.length ≤ c → Kd.C k47 w A' l.length l → l.length ≤ c' →
    Calls Try.prog 19 #[.slice A l.length c, .slice A' l.length c'] w fun e w' => e = .returned (.bool true) ∧ Below w.heap.size w w' := by
  induction h with
  | mk l hl he hb hx ih6 ih7 =>
    intro A c A' c' w ha hca hb' hcb
    exact sstmts_round l hl he ih6 ih7 A c A' c' w ha hca hb' hcb
end Go.Proofs.Ytpimociplmpfcaa.Sam
