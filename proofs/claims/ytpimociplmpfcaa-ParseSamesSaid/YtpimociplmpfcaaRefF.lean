/- The reference's Same: its walk. Printed by tools/mk11g.py. -/
import Derived.Test.YtpimociplmpfcaaRefE
import Derived.Deep.RegionWith
import Derived.RegionTactic
import Derived.Deep.DeepCutAuto
namespace Go.Proofs.Ytpimociplmpfcaa.Sam
open Go.RowKit Go.Proofs.YtpimociplmpfcaaW.PrintWords Go.Proofs.YtpimociplmpfcaaW.PrintLast Go.Proofs.YtpimociplmpfcaaW.PrintMore Go.Proofs.Ytpimociplmpfcaa.PParseSames
set_option linter.unusedVariables false
set_option linter.unusedSimpArgs false
attribute [local go_sem] drewN_set drewN_new
set_option maxHeartbeats 2000000 in
theorem rstmts_c : ∀ (n : Nat) (a b : List S47) (A : Option Addr) (c : Nat) (A' : Option Addr) (c' : Nat) (w : World), SizeOf.sizeOf a ≤ n → Kd.C k47 w A a.length a → a.length ≤ c → Kd.C k47 w A' b.length b → b.length ≤ c' →
    Calls Try.prog 17 #[.slice A a.length c, .slice A' b.length c'] w fun e w' => e = .returned (.bool (sameS n a b)) ∧ Below w.heap.size w w'
  | 0, a, b, A, c, A', c', w, hz, _, _, _, _ => by have := list_pos a; omega
  | n + 1, a, b, A, c, A', c', w, hz, ha, hca, hb, hcb =>
    q17 (sameE n) (sameS n) a b A c A' c' w ha hca hb hcb
      (fun x y hx hy A1 c1 A2 c2 W ga la gb lb => rexprs_c n x.f5 y.f5 A1 c1 A2 c2 W (by have := stmt_lt hx; omega) ga la gb lb)
      (fun x y hx hy A1 c1 A2 c2 W ga la gb lb => rstmts_c n x.f6 y.f6 A1 c1 A2 c2 W (by have := stmt_lt hx; omega) ga la gb lb)
      (fun x y hx hy A1 c1 A2 c2 W ga la gb lb => rstmts_c n x.f7 y.f7 A1 c1 A2 c2 W (by have := stmt_lt hx; omega) ga la gb lb)

set_option maxHeartbeats 8000000 in
set_option maxRecDepth 100000 in
theorem same6 (q : Nat) (ra rb : List S30) (fa fb : List S37) (Aa : Option Addr) (ca : Nat) (Fa : Option Addr) (da : Nat) (Ab : Option Addr) (cb : Nat) (Fb : Option Addr) (db : Nat) (w : World) (hz : ∀ x, x ∈ fa → SizeOf.sizeOf x.f4 ≤ q)
    (h1 : Kd.C k30 w Aa ra.length ra) (l1 : ra.length ≤ ca) (h2 : Kd.C k37 w Fa fa.length fa) (l2 : fa.length ≤ da) (h3 : Kd.C k30 w Ab rb.length rb) (l3 : rb.length ≤ cb) (h4 : Kd.C k37 w Fb fb.length fb) (l4 : fb.length ≤ db) :
    Calls Try.prog 6 #[.agg #[.slice Aa ra.length ca, .slice Fa fa.length da], .agg #[.slice Ab rb.length cb, .slice Fb fb.length db]] w fun e w' => e = .returned (.bool (sameG q ra rb fa fb)) ∧ Below w.heap.size w w' := by
  have HK3 : Hid (∀ x y, x ∈ ra → y ∈ rb → ∀ A1 c1 A2 c2 W, Kd.C k34 W A1 x.f3.length x.f3 → x.f3.length ≤ c1 → Kd.C k34 W A2 y.f3.length y.f3 → y.f3.length ≤ c2 → Calls Try.prog 16 #[.slice A1 x.f3.length c1, .slice A2 y.f3.length c2] W fun e w' => e = .returned (.bool (sameP x.f3 y.f3)) ∧ Below W.heap.size W w') := Lib.hid (fun x y _ _ A1 c1 A2 c2 W ha lc hb ld => rparams_c x.f3 y.f3 A1 c1 A2 c2 W ha lc hb ld)
  have HL3 : Hid (∀ x y, x ∈ fa → y ∈ fb → ∀ A1 c1 A2 c2 W, Kd.C k34 W A1 x.f3.length x.f3 → x.f3.length ≤ c1 → Kd.C k34 W A2 y.f3.length y.f3 → y.f3.length ≤ c2 → Calls Try.prog 16 #[.slice A1 x.f3.length c1, .slice A2 y.f3.length c2] W fun e w' => e = .returned (.bool (sameP x.f3 y.f3)) ∧ Below W.heap.size W w') := Lib.hid (fun x y _ _ A1 c1 A2 c2 W ha lc hb ld => rparams_c x.f3 y.f3 A1 c1 A2 c2 W ha lc hb ld)
  have HL4 : Hid (∀ x y, x ∈ fa → y ∈ fb → ∀ A1 c1 A2 c2 W, Kd.C k47 W A1 x.f4.length x.f4 → x.f4.length ≤ c1 → Kd.C k47 W A2 y.f4.length y.f4 → y.f4.length ≤ c2 → Calls Try.prog 17 #[.slice A1 x.f4.length c1, .slice A2 y.f4.length c2] W fun e w' => e = .returned (.bool (sameS q x.f4 y.f4)) ∧ Below W.heap.size W w') := Lib.hid (fun x y hx _ A1 c1 A2 c2 W ha lc hb ld => rstmts_c q x.f4 y.f4 A1 c1 A2 c2 W (hz x hx) ha lc hb ld)
  have hu := Try.underlying25
  have hu30 := Try.underlying30
  have hu37 := Try.underlying37
  have hmr := h1.2.1
  have hmf := h2.2.1
  have H1 := Lib.hid h1
  have H2 := Lib.hid h2
  have H3 := Lib.hid h3
  have H4 := Lib.hid h4
  clear h1 h2 h3 h4 hz
  have hb2 : Hid (∀ (o1 o2 : Obj), Below w.heap.size w ((w.alloc o1).alloc o2)) := Lib.hid (fun o1 o2 => below_alloc (below_alloc (Below.refl _ _) _) _)
  by_cases hlr : ra.length = rb.length
  rotate_left
  · have d1 : (ra.length == rb.length) = false := beq_eq_false_iff_ne.2 hlr
    have d1' : ((ra.length : Int) == (rb.length : Int)) = false := beq_eq_false_iff_ne.2 (by omega)
    have d1'' : ((ra.length : Int) != (rb.length : Int)) = true := by unfold bne; rw [d1']; rfl
    have HG : Hid (sameG q ra rb fa fb = false) := Lib.hid (by unfold sameG; rw [sameL_ne _ _ _ hlr]; rfl)
    clear hlr H1 H2 H3 H4 HK3 HL3 HL4
    go_enter Try.func6, Try.ntmps6
    go_wp2
    go_ret
    exact ⟨by rw [HG.out]; rfl, hb2.out _ _⟩
  by_cases hlf : fa.length = fb.length
  rotate_left
  · have d0 : (ra.length == rb.length) = true := beq_iff_eq.2 hlr
    have d1 : (fa.length == fb.length) = false := beq_eq_false_iff_ne.2 hlf
    have d1' : ((fa.length : Int) == (fb.length : Int)) = false := beq_eq_false_iff_ne.2 (by omega)
    have d1'' : ((fa.length : Int) != (fb.length : Int)) = true := by unfold bne; rw [d1']; rfl
    have HG : Hid (sameG q ra rb fa fb = false) := Lib.hid (by unfold sameG; rw [sameL_ne _ fa fb hlf, Bool.and_false])
    refine calls_of_args (args' := #[.agg #[.slice Aa ra.length ca, .slice Fa fa.length da], .agg #[.slice Ab ra.length cb, .slice Fb fb.length db]]) (by rw [hlr]) ?_
    clear d0 l3 hlr hlf H1 H2 H3 H4 HK3 HL3 HL4
    go_enter Try.func6, Try.ntmps6
    go_wp2
    go_ret
    exact ⟨by rw [HG.out]; rfl, hb2.out _ _⟩
  have HG1 : Hid (∀ (i : Nat) (g1 : i < ra.length) (g2 : i < rb.length), eqR ra[i] rb[i] = false → sameG q ra rb fa fb = false) := Lib.hid (fun i g1 g2 h => by unfold sameG; rw [sameL_bad eqR ra rb i g1 g2 h, Bool.false_and])
  have HG2 : Hid (∀ (i : Nat) (g1 : i < fa.length) (g2 : i < fb.length), eqF q fa[i] fb[i] = false → sameG q ra rb fa fb = false) := Lib.hid (fun i g1 g2 h => by unfold sameG; rw [sameL_bad (eqF q) fa fb i g1 g2 h, Bool.and_false])
  have HG3 : Hid ((∀ (j : Nat) (g1 : j < ra.length) (g2 : j < rb.length), eqR ra[j] rb[j] = true) → (∀ (j : Nat) (g1 : j < fa.length) (g2 : j < fb.length), eqF q fa[j] fb[j] = true) → sameG q ra rb fa fb = true) := Lib.hid (fun a b => by unfold sameG; rw [sameL_all eqR ra rb hlr a, sameL_all (eqF q) fa fb hlf b]; rfl)
  obtain ⟨n, hn⟩ : ∃ n, n = ra.length := ⟨_, rfl⟩
  obtain ⟨m, hm⟩ : ∃ m, m = fa.length := ⟨_, rfl⟩
  have hnb : rb.length = n := by rw [hn]; exact hlr.symm
  have hmb : fb.length = m := by rw [hm]; exact hlf.symm
  have HN := Lib.hid (And.intro (And.intro hn hnb) (And.intro hm hmb))
  refine calls_of_args (args' := #[.agg #[.slice Aa n ca, .slice Fa m da], .agg #[.slice Ab n cb, .slice Fb m db]]) (by rw [hn, hm, hlr, hlf]) ?_
  have St : Hid (∀ W, Below w.heap.size w W → Kd.C k30 W Aa n ra ∧ Kd.C k30 W Ab n rb ∧ Kd.C k37 W Fa m fa ∧ Kd.C k37 W Fb m fb) := by
    have a1 := H1.out; have a2 := H2.out; have a3 := H3.out; have a4 := H4.out
    rw [← hn] at a1; rw [← hm] at a2; rw [hnb] at a3; rw [hmb] at a4
    exact Lib.hid (fun W hW => ⟨Kd.C_below a1 hW, Kd.C_below a3 hW, Kd.C_below a2 hW, Kd.C_below a4 hW⟩)
  rw [← hn] at l1 hmr; rw [← hm] at l2 hmf; rw [hnb] at l3; rw [hmb] at l4
  have hb0 : Hid (Below w.heap.size w ((w.alloc (.cells #[.slice Aa n ca, .slice Fa m da] 25)).alloc (.cells #[.slice Ab n cb, .slice Fb m db] 25))) := Lib.hid (below_alloc (below_alloc (Below.refl _ _) _) _)
  have kx0 : Hid (((w.alloc (.cells #[.slice Aa n ca, .slice Fa m da] 25)).alloc (.cells #[.slice Ab n cb, .slice Fb m db] 25)).heap[w.heap.size]? = some (.cells #[.slice Aa n ca, .slice Fa m da] 25 (0, 0))) := Lib.hid (blk_alloc (blk_new w _) _)
  have ky0 : Hid (((w.alloc (.cells #[.slice Aa n ca, .slice Fa m da] 25)).alloc (.cells #[.slice Ab n cb, .slice Fb m db] 25)).heap[w.heap.size + 1]? = some (.cells #[.slice Ab n cb, .slice Fb m db] 25 (0, 0))) := Lib.hid (by have := blk_new (w.alloc (.cells #[.slice Aa n ca, .slice Fa m da] 25)) (.cells #[.slice Ab n cb, .slice Fb m db] 25); rwa [World.size_alloc] at this)
  clear hn hm H1 H2 H3 H4 hnb hmb hlr hlf hb2
  go_enter Try.func6, Try.ntmps6
  go_wp2
  go_loopg [30] (n + 1) (fun f v W => ∃ i : Nat, v = .int .i64 (i : Int) ∧ i + f = n + 1 ∧ i ≤ n ∧ Hid (∀ (j : Nat) (g1 : j < ra.length) (g2 : j < rb.length), j < i → eqR ra[j] rb[j] = true) ∧ Hid (Kd.C k30 W Aa n ra ∧ Kd.C k30 W Ab n rb ∧ Kd.C k37 W Fa m fa ∧ Kd.C k37 W Fb m fb ∧ W.heap[w.heap.size]? = some (.cells #[.slice Aa n ca, .slice Fa m da] 25 (0, 0)) ∧ W.heap[w.heap.size + 1]? = some (.cells #[.slice Ab n cb, .slice Fb m db] 25 (0, 0)) ∧ Below w.heap.size w W))
  case atStart =>
    obtain ⟨a1, a2, a3, a4⟩ := St.out _ hb0.out
    exact ⟨0, rfl, by omega, Nat.zero_le _, Lib.hid (fun j _ _ h => absurd h (Nat.not_lt_zero _)), Lib.hid ⟨a1, a2, a3, a4, kx0.out, ky0.out, hb0.out⟩⟩
  case round =>
    obtain ⟨i, rfl, hi, hil, HP, St1⟩ := hrel
    by_cases hlt : i < n
    · have d1 : decide ((i : Int) < (n : Int)) = true := by simp; omega
      have hia : i < ra.length := by have := HN.out.1.1; omega
      have hib : i < rb.length := by have := HN.out.1.2; omega
      have za0 : wr.cell? ⟨w.heap.size, 0, none⟩ = some (.slice Aa n ca) := (blk_cell St1.out.2.2.2.2.1 0).trans rfl
      have za1 : wr.cell? ⟨w.heap.size, 1, none⟩ = some (.slice Fa m da) := (blk_cell St1.out.2.2.2.2.1 1).trans rfl
      have ya : w.heap.size < wr.heap.size := blk_lt St1.out.2.2.2.2.1
      have zb0 : wr.cell? ⟨w.heap.size + 1, 0, none⟩ = some (.slice Ab n cb) := (blk_cell St1.out.2.2.2.2.2.1 0).trans rfl
      have zb1 : wr.cell? ⟨w.heap.size + 1, 1, none⟩ = some (.slice Fb m db) := (blk_cell St1.out.2.2.2.2.2.1 1).trans rfl
      have yb : w.heap.size + 1 < wr.heap.size := blk_lt St1.out.2.2.2.2.2.1
      have ya1 : w.heap.size < wr.heap.size + 1 := by omega
      have ya2 : w.heap.size < wr.heap.size + 2 := by omega
      have yan : w.heap.size ≠ wr.heap.size := by omega
      have yan1 : w.heap.size ≠ wr.heap.size + 1 := by omega
      have yb1 : w.heap.size + 1 < wr.heap.size + 1 := by omega
      have yb2 : w.heap.size + 1 < wr.heap.size + 2 := by omega
      have ybn : w.heap.size + 1 ≠ wr.heap.size := by omega
      have ybn1 : w.heap.size + 1 ≠ wr.heap.size + 1 := by omega
      obtain ⟨ada, A3a, c3a, eqa, h0a, h1a, h2a, h3a, l3a, g3a⟩ := at_T30 St1.out.1 (i : Int) (by omega) (by omega)
      obtain ⟨adb, A3b, c3b, eqb, h0b, h1b, h2b, h3b, l3b, g3b⟩ := at_T30 St1.out.2.1 (i : Int) (by omega) (by omega)
      have hra : rd_T30 ra (i : Int) = ra[i] := by simp [rd_T30, List.getD_eq_getElem?_getD, hia]
      have hrb : rd_T30 rb (i : Int) = rb[i] := by simp [rd_T30, List.getD_eq_getElem?_getD, hib]
      obtain ⟨x, hx⟩ : ∃ x, x = rd_T30 ra (i : Int) := ⟨_, rfl⟩
      obtain ⟨y, hy⟩ : ∃ y, y = rd_T30 rb (i : Int) := ⟨_, rfl⟩
      rw [← hx] at h0a h1a h2a h3a l3a g3a
      rw [← hy] at h0b h1b h2b h3b l3b g3b
      have hma : x ∈ ra := by rw [hx, hra]; exact List.getElem_mem hia
      have hmb : y ∈ rb := by rw [hy, hrb]; exact List.getElem_mem hib
      have HX := Lib.hid (And.intro (hx.trans hra) (hy.trans hrb))
      have HM := Lib.hid (And.intro hma hmb)
      clear hx hy hra hrb hma hmb
      simp only [Int.toNat_natCast] at h0a h0b h1a h1b h2a h2b h3a h3b
      cases eqa; cases eqb
      have GG3a := Lib.hid g3a
      have GG3b := Lib.hid g3b
      clear g3a g3b
      have hla : (ada.add (i * 4)).block < wr.heap.size := cell_lt h0a
      have hla1 : (ada.add (i * 4)).block < wr.heap.size + 1 := by omega
      have hla2 : (ada.add (i * 4)).block < wr.heap.size + 2 := by omega
      have hlan : (ada.add (i * 4)).block ≠ wr.heap.size := by omega
      have hlan1 : (ada.add (i * 4)).block ≠ wr.heap.size + 1 := by omega
      have hlb : (adb.add (i * 4)).block < wr.heap.size := cell_lt h0b
      have hlb1 : (adb.add (i * 4)).block < wr.heap.size + 1 := by omega
      have hlb2 : (adb.add (i * 4)).block < wr.heap.size + 2 := by omega
      have hlbn : (adb.add (i * 4)).block ≠ wr.heap.size := by omega
      have hlbn1 : (adb.add (i * 4)).block ≠ wr.heap.size + 1 := by omega
      obtain ⟨f, rfl⟩ : ∃ f, gk = f + 1 := ⟨gk - 1, by omega⟩
      go_upto_region 6 with (fail)
      go_cut [6, 7] (fun v6 v7 W => ∃ bx by' : Nat, v6 = .pointer (some ⟨bx, 0, none⟩) ∧ v7 = .pointer (some ⟨by', 0, none⟩) ∧ Hid (W.heap[bx]? = some (.cells #[.int .i64 x.f0, .string x.f1, .string x.f2, .slice A3a x.f3.length c3a] 30 (0, 0))) ∧ Hid (W.heap[by']? = some (.cells #[.int .i64 y.f0, .string y.f1, .string y.f2, .slice A3b y.f3.length c3b] 30 (0, 0))) ∧ Hid (Below wr.heap.size wr W))
      case first =>
        go_region
        all_goals (go_wp2_with fail; go_meet)
        · exact ⟨_, _, rfl, rfl, Lib.hid (blk_drew (blk_alloc (blk_new wr _) _)), Lib.hid (blk_drew (by have := blk_new (wr.alloc (.cells #[.int .i64 x.f0, .string x.f1, .string x.f2, .slice A3a x.f3.length c3a] 30)) (.cells #[.int .i64 y.f0, .string y.f1, .string y.f2, .slice A3b y.f3.length c3b] 30); rw [World.size_alloc] at this; exact this)), Lib.hid (below_drew (below_alloc (below_alloc (Below.refl _ _) _) _))⟩
        · exact ⟨_, _, rfl, rfl, Lib.hid (blk_drew (by have := blk_new (wr.alloc (.cells #[.int .i64 y.f0, .string y.f1, .string y.f2, .slice A3b y.f3.length c3b] 30)) (.cells #[.int .i64 x.f0, .string x.f1, .string x.f2, .slice A3a x.f3.length c3a] 30); rw [World.size_alloc] at this; exact this)), Lib.hid (blk_drew (blk_alloc (blk_new wr _) _)), Lib.hid (below_drew (below_alloc (below_alloc (Below.refl _ _) _) _))⟩
      case rest =>
        obtain ⟨bx, by', rfl, rfl, kx0, ky0, hb0⟩ := hcut
        generalize wc = W0 at hb0 kx0 ky0 ⊢
        have fx0_1 : W0.cell? ⟨bx, 1, none⟩ = some (.string x.f1) := (blk_cell kx0.out 1).trans rfl
        have fy0_1 : W0.cell? ⟨by', 1, none⟩ = some (.string y.f1) := (blk_cell ky0.out 1).trans rfl
        have fx0_2 : W0.cell? ⟨bx, 2, none⟩ = some (.string x.f2) := (blk_cell kx0.out 2).trans rfl
        have fy0_2 : W0.cell? ⟨by', 2, none⟩ = some (.string y.f2) := (blk_cell ky0.out 2).trans rfl
        have fx0_3 : W0.cell? ⟨bx, 3, none⟩ = some (.slice A3a x.f3.length c3a) := (blk_cell kx0.out 3).trans rfl
        have fy0_3 : W0.cell? ⟨by', 3, none⟩ = some (.slice A3b y.f3.length c3b) := (blk_cell ky0.out 3).trans rfl
        by_cases c1 : (x.f1.toList == y.f1.toList) = true
        · have d1 := c1
          have n1 : (x.f1.toList = y.f1.toList) = True := eq_true (by simpa using c1)
          clear c1
          by_cases c2 : (x.f2.toList == y.f2.toList) = true
          · have d2 := c2
            have n2 : (x.f2.toList = y.f2.toList) = True := eq_true (by simpa using c2)
            clear c2
            obtain ⟨r, r3⟩ : ∃ r, r = sameP x.f3 y.f3 := ⟨_, rfl⟩
            have HR3 := Lib.hid r3
            cases r with
            | true =>
              have HPv : Hid (eqR x y = true) := Lib.hid (by unfold eqR; rw [d1, d2, ← HR3.out]; simp)
              clear r3
              go_wp2_with fail
              refine (HK3.out x y HM.out.1 HM.out.2 _ _ _ _ _ (Kd.C_below GG3a.out hb0.out) l3a (Kd.C_below GG3b.out hb0.out) l3b).mono ?_
              rintro e w1 ⟨rfl, hb⟩
              have hb1 := Lib.hid (hb0.out.trans (hb.mono hb0.out.size))
              clear hb
              rw [← HR3.out]
              go_wp2
              have St5 := Lib.hid (And.intro (Kd.C_below St1.out.1 hb1.out) (And.intro (Kd.C_below St1.out.2.1 hb1.out) (And.intro (Kd.C_below St1.out.2.2.1 hb1.out) (And.intro (Kd.C_below St1.out.2.2.2.1 hb1.out) (And.intro (blk_below St1.out.2.2.2.2.1 hb1.out) (And.intro (blk_below St1.out.2.2.2.2.2.1 hb1.out) (St1.out.2.2.2.2.2.2.trans (hb1.out.mono St1.out.2.2.2.2.2.2.size))))))))
              go_roundg f
              case measure => omega
              case rel =>
                refine ⟨i + 1, by simp, by omega, by omega, Lib.hid (fun j g1 g2 hj => ?_), St5⟩
                by_cases e : j = i
                · subst e
                  rw [← HX.out.1, ← HX.out.2]; exact HPv.out
                · exact HP.out j g1 g2 (by omega)
            | false =>
              have HPv : Hid (eqR x y = false) := Lib.hid (by unfold eqR; rw [d1, d2, ← HR3.out]; simp)
              clear r3
              clear d1 d2
              go_wp2_with fail
              refine (HK3.out x y HM.out.1 HM.out.2 _ _ _ _ _ (Kd.C_below GG3a.out hb0.out) l3a (Kd.C_below GG3b.out hb0.out) l3b).mono ?_
              rintro e w1 ⟨rfl, hb⟩
              have hb1 := Lib.hid (hb0.out.trans (hb.mono hb0.out.size))
              clear hb
              rw [← HR3.out]
              go_wp2
              go_ret
              exact ⟨by rw [HG1.out i hia hib (by rw [← HX.out.1, ← HX.out.2]; exact HPv.out)]; rfl, St1.out.2.2.2.2.2.2.trans (hb1.out.mono St1.out.2.2.2.2.2.2.size)⟩
          · have d2 : (x.f2.toList == y.f2.toList) = false := by simpa using c2
            have n2 : (x.f2.toList = y.f2.toList) = False := eq_false (by simpa using c2)
            clear c2
            have HPv : Hid (eqR x y = false) := Lib.hid (by unfold eqR; rw [d1, d2]; simp)
            clear d1 d2
            go_wp2
            go_ret
            exact ⟨by rw [HG1.out i hia hib (by rw [← HX.out.1, ← HX.out.2]; exact HPv.out)]; rfl, St1.out.2.2.2.2.2.2.trans (hb0.out.mono St1.out.2.2.2.2.2.2.size)⟩
        · have d1 : (x.f1.toList == y.f1.toList) = false := by simpa using c1
          have n1 : (x.f1.toList = y.f1.toList) = False := eq_false (by simpa using c1)
          clear c1
          have HPv : Hid (eqR x y = false) := Lib.hid (by unfold eqR; rw [d1]; simp)
          clear d1
          go_wp2
          go_ret
          exact ⟨by rw [HG1.out i hia hib (by rw [← HX.out.1, ← HX.out.2]; exact HPv.out)]; rfl, St1.out.2.2.2.2.2.2.trans (hb0.out.mono St1.out.2.2.2.2.2.2.size)⟩
    · have d1 : decide ((i : Int) < (n : Int)) = false := by simp; omega
      have z0 : wr.cell? ⟨w.heap.size, 1, none⟩ = some (.slice Fa m da) := (blk_cell St1.out.2.2.2.2.1 1).trans rfl
      have HA1 : Hid (∀ (j : Nat) (g1 : j < ra.length) (g2 : j < rb.length), eqR ra[j] rb[j] = true) := Lib.hid (fun j g1 g2 => HP.out j g1 g2 (by have := HN.out.1.1; omega))
      clear HP
      have St2 := Lib.hid St1.out
      clear St1 hi hil
      generalize wr = wv at St2 z0 ⊢
      go_wp2
      clear hlt
      go_loopg [67] (m + 1) (fun f v W => ∃ i : Nat, v = .int .i64 (i : Int) ∧ i + f = m + 1 ∧ i ≤ m ∧ Hid (∀ (j : Nat) (g1 : j < fa.length) (g2 : j < fb.length), j < i → eqF q fa[j] fb[j] = true) ∧ Hid (Kd.C k30 W Aa n ra ∧ Kd.C k30 W Ab n rb ∧ Kd.C k37 W Fa m fa ∧ Kd.C k37 W Fb m fb ∧ W.heap[w.heap.size]? = some (.cells #[.slice Aa n ca, .slice Fa m da] 25 (0, 0)) ∧ W.heap[w.heap.size + 1]? = some (.cells #[.slice Ab n cb, .slice Fb m db] 25 (0, 0)) ∧ Below w.heap.size w W))
      case atStart => exact ⟨0, rfl, by omega, Nat.zero_le _, Lib.hid (fun j _ _ h => absurd h (Nat.not_lt_zero _)), St2⟩
      case round =>
        obtain ⟨i, rfl, hi, hil, HP, St1⟩ := hrel
        clear St2 z0
        by_cases hlt : i < m
        · have d1 : decide ((i : Int) < (m : Int)) = true := by simp; omega
          have hia : i < fa.length := by have := HN.out.2.1; omega
          have hib : i < fb.length := by have := HN.out.2.2; omega
          have za0 : wr.cell? ⟨w.heap.size, 0, none⟩ = some (.slice Aa n ca) := (blk_cell St1.out.2.2.2.2.1 0).trans rfl
          have za1 : wr.cell? ⟨w.heap.size, 1, none⟩ = some (.slice Fa m da) := (blk_cell St1.out.2.2.2.2.1 1).trans rfl
          have ya : w.heap.size < wr.heap.size := blk_lt St1.out.2.2.2.2.1
          have zb0 : wr.cell? ⟨w.heap.size + 1, 0, none⟩ = some (.slice Ab n cb) := (blk_cell St1.out.2.2.2.2.2.1 0).trans rfl
          have zb1 : wr.cell? ⟨w.heap.size + 1, 1, none⟩ = some (.slice Fb m db) := (blk_cell St1.out.2.2.2.2.2.1 1).trans rfl
          have yb : w.heap.size + 1 < wr.heap.size := blk_lt St1.out.2.2.2.2.2.1
          have ya1 : w.heap.size < wr.heap.size + 1 := by omega
          have ya2 : w.heap.size < wr.heap.size + 2 := by omega
          have yan : w.heap.size ≠ wr.heap.size := by omega
          have yan1 : w.heap.size ≠ wr.heap.size + 1 := by omega
          have yb1 : w.heap.size + 1 < wr.heap.size + 1 := by omega
          have yb2 : w.heap.size + 1 < wr.heap.size + 2 := by omega
          have ybn : w.heap.size + 1 ≠ wr.heap.size := by omega
          have ybn1 : w.heap.size + 1 ≠ wr.heap.size + 1 := by omega
          obtain ⟨ada, A3a, c3a, A4a, c4a, eqa, h0a, h1a, h2a, h3a, h4a, h5a, h6a, l3a, g3a, l4a, g4a⟩ := at_T37 St1.out.2.2.1 (i : Int) (by omega) (by omega)
          obtain ⟨adb, A3b, c3b, A4b, c4b, eqb, h0b, h1b, h2b, h3b, h4b, h5b, h6b, l3b, g3b, l4b, g4b⟩ := at_T37 St1.out.2.2.2.1 (i : Int) (by omega) (by omega)
          have hra : rd_T37 fa (i : Int) = fa[i] := by simp [rd_T37, List.getD_eq_getElem?_getD, hia]
          have hrb : rd_T37 fb (i : Int) = fb[i] := by simp [rd_T37, List.getD_eq_getElem?_getD, hib]
          obtain ⟨x, hx⟩ : ∃ x, x = rd_T37 fa (i : Int) := ⟨_, rfl⟩
          obtain ⟨y, hy⟩ : ∃ y, y = rd_T37 fb (i : Int) := ⟨_, rfl⟩
          rw [← hx] at h0a h1a h2a h3a h4a h5a h6a l3a g3a l4a g4a
          rw [← hy] at h0b h1b h2b h3b h4b h5b h6b l3b g3b l4b g4b
          have hma : x ∈ fa := by rw [hx, hra]; exact List.getElem_mem hia
          have hmb : y ∈ fb := by rw [hy, hrb]; exact List.getElem_mem hib
          have HX := Lib.hid (And.intro (hx.trans hra) (hy.trans hrb))
          have HM := Lib.hid (And.intro hma hmb)
          clear hx hy hra hrb hma hmb
          simp only [Int.toNat_natCast] at h0a h0b h1a h1b h2a h2b h3a h3b h4a h4b h5a h5b h6a h6b
          cases eqa; cases eqb
          have GG3a := Lib.hid g3a
          have GG4a := Lib.hid g4a
          have GG3b := Lib.hid g3b
          have GG4b := Lib.hid g4b
          clear g3a g3b g4a g4b
          have hla : (ada.add (i * 7)).block < wr.heap.size := cell_lt h0a
          have hla1 : (ada.add (i * 7)).block < wr.heap.size + 1 := by omega
          have hla2 : (ada.add (i * 7)).block < wr.heap.size + 2 := by omega
          have hlan : (ada.add (i * 7)).block ≠ wr.heap.size := by omega
          have hlan1 : (ada.add (i * 7)).block ≠ wr.heap.size + 1 := by omega
          have hlb : (adb.add (i * 7)).block < wr.heap.size := cell_lt h0b
          have hlb1 : (adb.add (i * 7)).block < wr.heap.size + 1 := by omega
          have hlb2 : (adb.add (i * 7)).block < wr.heap.size + 2 := by omega
          have hlbn : (adb.add (i * 7)).block ≠ wr.heap.size := by omega
          have hlbn1 : (adb.add (i * 7)).block ≠ wr.heap.size + 1 := by omega
          obtain ⟨f, rfl⟩ : ∃ f, gk = f + 1 := ⟨gk - 1, by omega⟩
          go_upto_region 13 with (fail)
          go_cut [9, 10] (fun v6 v7 W => ∃ bx by' : Nat, v6 = .pointer (some ⟨bx, 0, none⟩) ∧ v7 = .pointer (some ⟨by', 0, none⟩) ∧ Hid (W.heap[bx]? = some (.cells #[.int .i64 x.f0, .string x.f1, .string x.f2, .slice A3a x.f3.length c3a, .slice A4a x.f4.length c4a, .int .u8 x.f5, .int .i64 x.f6] 37 (0, 0))) ∧ Hid (W.heap[by']? = some (.cells #[.int .i64 y.f0, .string y.f1, .string y.f2, .slice A3b y.f3.length c3b, .slice A4b y.f4.length c4b, .int .u8 y.f5, .int .i64 y.f6] 37 (0, 0))) ∧ Hid (Below wr.heap.size wr W))
          case first =>
            go_region
            all_goals (go_wp2_with fail; go_meet)
            · exact ⟨_, _, rfl, rfl, Lib.hid (blk_drew (blk_alloc (blk_new wr _) _)), Lib.hid (blk_drew (by have := blk_new (wr.alloc (.cells #[.int .i64 x.f0, .string x.f1, .string x.f2, .slice A3a x.f3.length c3a, .slice A4a x.f4.length c4a, .int .u8 x.f5, .int .i64 x.f6] 37)) (.cells #[.int .i64 y.f0, .string y.f1, .string y.f2, .slice A3b y.f3.length c3b, .slice A4b y.f4.length c4b, .int .u8 y.f5, .int .i64 y.f6] 37); rw [World.size_alloc] at this; exact this)), Lib.hid (below_drew (below_alloc (below_alloc (Below.refl _ _) _) _))⟩
            · exact ⟨_, _, rfl, rfl, Lib.hid (blk_drew (by have := blk_new (wr.alloc (.cells #[.int .i64 y.f0, .string y.f1, .string y.f2, .slice A3b y.f3.length c3b, .slice A4b y.f4.length c4b, .int .u8 y.f5, .int .i64 y.f6] 37)) (.cells #[.int .i64 x.f0, .string x.f1, .string x.f2, .slice A3a x.f3.length c3a, .slice A4a x.f4.length c4a, .int .u8 x.f5, .int .i64 x.f6] 37); rw [World.size_alloc] at this; exact this)), Lib.hid (blk_drew (blk_alloc (blk_new wr _) _)), Lib.hid (below_drew (below_alloc (below_alloc (Below.refl _ _) _) _))⟩
          case rest =>
            obtain ⟨bx, by', rfl, rfl, kx0, ky0, hb0⟩ := hcut
            generalize wc = W0 at hb0 kx0 ky0 ⊢
            have fx0_1 : W0.cell? ⟨bx, 1, none⟩ = some (.string x.f1) := (blk_cell kx0.out 1).trans rfl
            have fy0_1 : W0.cell? ⟨by', 1, none⟩ = some (.string y.f1) := (blk_cell ky0.out 1).trans rfl
            have fx0_2 : W0.cell? ⟨bx, 2, none⟩ = some (.string x.f2) := (blk_cell kx0.out 2).trans rfl
            have fy0_2 : W0.cell? ⟨by', 2, none⟩ = some (.string y.f2) := (blk_cell ky0.out 2).trans rfl
            have fx0_3 : W0.cell? ⟨bx, 3, none⟩ = some (.slice A3a x.f3.length c3a) := (blk_cell kx0.out 3).trans rfl
            have fy0_3 : W0.cell? ⟨by', 3, none⟩ = some (.slice A3b y.f3.length c3b) := (blk_cell ky0.out 3).trans rfl
            have fx0_4 : W0.cell? ⟨bx, 4, none⟩ = some (.slice A4a x.f4.length c4a) := (blk_cell kx0.out 4).trans rfl
            have fy0_4 : W0.cell? ⟨by', 4, none⟩ = some (.slice A4b y.f4.length c4b) := (blk_cell ky0.out 4).trans rfl
            by_cases c1 : (x.f1.toList == y.f1.toList) = true
            · have d1 := c1
              have n1 : (x.f1.toList = y.f1.toList) = True := eq_true (by simpa using c1)
              clear c1
              by_cases c2 : (x.f2.toList == y.f2.toList) = true
              · have d2 := c2
                have n2 : (x.f2.toList = y.f2.toList) = True := eq_true (by simpa using c2)
                clear c2
                obtain ⟨r, r3⟩ : ∃ r, r = sameP x.f3 y.f3 := ⟨_, rfl⟩
                have HR3 := Lib.hid r3
                cases r with
                | true =>
                  obtain ⟨r, r4⟩ : ∃ r, r = sameS q x.f4 y.f4 := ⟨_, rfl⟩
                  have HR4 := Lib.hid r4
                  cases r with
                  | true =>
                    have HPv : Hid (eqF q x y = true) := Lib.hid (by unfold eqF; rw [d1, d2, ← HR3.out, ← HR4.out]; simp)
                    clear r3 r4
                    go_wp2_with fail
                    refine (HL3.out x y HM.out.1 HM.out.2 _ _ _ _ _ (Kd.C_below GG3a.out hb0.out) l3a (Kd.C_below GG3b.out hb0.out) l3b).mono ?_
                    rintro e w1 ⟨rfl, hb⟩
                    have hb1 := Lib.hid (hb0.out.trans (hb.mono hb0.out.size))
                    have kx1 := Lib.hid (blk_below kx0.out hb)
                    have ky1 := Lib.hid (blk_below ky0.out hb)
                    have fx1_4 : w1.cell? ⟨bx, 4, none⟩ = some (.slice A4a x.f4.length c4a) := (blk_cell kx1.out 4).trans rfl
                    have fy1_4 : w1.cell? ⟨by', 4, none⟩ = some (.slice A4b y.f4.length c4b) := (blk_cell ky1.out 4).trans rfl
                    clear hb
                    rw [← HR3.out]
                    go_wp2_with fail
                    refine (HL4.out x y HM.out.1 HM.out.2 _ _ _ _ _ (Kd.C_below GG4a.out hb1.out) l4a (Kd.C_below GG4b.out hb1.out) l4b).mono ?_
                    rintro e w2 ⟨rfl, hb⟩
                    have hb2 := Lib.hid (hb1.out.trans (hb.mono hb1.out.size))
                    clear hb
                    rw [← HR4.out]
                    go_wp2
                    have St5 := Lib.hid (And.intro (Kd.C_below St1.out.1 hb2.out) (And.intro (Kd.C_below St1.out.2.1 hb2.out) (And.intro (Kd.C_below St1.out.2.2.1 hb2.out) (And.intro (Kd.C_below St1.out.2.2.2.1 hb2.out) (And.intro (blk_below St1.out.2.2.2.2.1 hb2.out) (And.intro (blk_below St1.out.2.2.2.2.2.1 hb2.out) (St1.out.2.2.2.2.2.2.trans (hb2.out.mono St1.out.2.2.2.2.2.2.size))))))))
                    go_roundg f
                    case measure => omega
                    case rel =>
                      refine ⟨i + 1, by simp, by omega, by omega, Lib.hid (fun j g1 g2 hj => ?_), St5⟩
                      by_cases e : j = i
                      · subst e
                        rw [← HX.out.1, ← HX.out.2]; exact HPv.out
                      · exact HP.out j g1 g2 (by omega)
                  | false =>
                    have HPv : Hid (eqF q x y = false) := Lib.hid (by unfold eqF; rw [d1, d2, ← HR3.out, ← HR4.out]; simp)
                    clear r3 r4
                    clear d1 d2
                    go_wp2_with fail
                    refine (HL3.out x y HM.out.1 HM.out.2 _ _ _ _ _ (Kd.C_below GG3a.out hb0.out) l3a (Kd.C_below GG3b.out hb0.out) l3b).mono ?_
                    rintro e w1 ⟨rfl, hb⟩
                    have hb1 := Lib.hid (hb0.out.trans (hb.mono hb0.out.size))
                    have kx1 := Lib.hid (blk_below kx0.out hb)
                    have ky1 := Lib.hid (blk_below ky0.out hb)
                    have fx1_4 : w1.cell? ⟨bx, 4, none⟩ = some (.slice A4a x.f4.length c4a) := (blk_cell kx1.out 4).trans rfl
                    have fy1_4 : w1.cell? ⟨by', 4, none⟩ = some (.slice A4b y.f4.length c4b) := (blk_cell ky1.out 4).trans rfl
                    clear hb
                    rw [← HR3.out]
                    go_wp2_with fail
                    refine (HL4.out x y HM.out.1 HM.out.2 _ _ _ _ _ (Kd.C_below GG4a.out hb1.out) l4a (Kd.C_below GG4b.out hb1.out) l4b).mono ?_
                    rintro e w2 ⟨rfl, hb⟩
                    have hb2 := Lib.hid (hb1.out.trans (hb.mono hb1.out.size))
                    clear hb
                    rw [← HR4.out]
                    go_wp2
                    go_ret
                    exact ⟨by rw [HG2.out i hia hib (by rw [← HX.out.1, ← HX.out.2]; exact HPv.out)]; rfl, St1.out.2.2.2.2.2.2.trans (hb2.out.mono St1.out.2.2.2.2.2.2.size)⟩
                | false =>
                  have HPv : Hid (eqF q x y = false) := Lib.hid (by unfold eqF; rw [d1, d2, ← HR3.out]; simp)
                  clear r3
                  clear d1 d2
                  go_wp2_with fail
                  refine (HL3.out x y HM.out.1 HM.out.2 _ _ _ _ _ (Kd.C_below GG3a.out hb0.out) l3a (Kd.C_below GG3b.out hb0.out) l3b).mono ?_
                  rintro e w1 ⟨rfl, hb⟩
                  have hb1 := Lib.hid (hb0.out.trans (hb.mono hb0.out.size))
                  clear hb
                  rw [← HR3.out]
                  go_wp2
                  go_ret
                  exact ⟨by rw [HG2.out i hia hib (by rw [← HX.out.1, ← HX.out.2]; exact HPv.out)]; rfl, St1.out.2.2.2.2.2.2.trans (hb1.out.mono St1.out.2.2.2.2.2.2.size)⟩
              · have d2 : (x.f2.toList == y.f2.toList) = false := by simpa using c2
                have n2 : (x.f2.toList = y.f2.toList) = False := eq_false (by simpa using c2)
                clear c2
                have HPv : Hid (eqF q x y = false) := Lib.hid (by unfold eqF; rw [d1, d2]; simp)
                clear d1 d2
                go_wp2
                go_ret
                exact ⟨by rw [HG2.out i hia hib (by rw [← HX.out.1, ← HX.out.2]; exact HPv.out)]; rfl, St1.out.2.2.2.2.2.2.trans (hb0.out.mono St1.out.2.2.2.2.2.2.size)⟩
            · have d1 : (x.f1.toList == y.f1.toList) = false := by simpa using c1
              have n1 : (x.f1.toList = y.f1.toList) = False := eq_false (by simpa using c1)
              clear c1
              have HPv : Hid (eqF q x y = false) := Lib.hid (by unfold eqF; rw [d1]; simp)
              clear d1
              go_wp2
              go_ret
              exact ⟨by rw [HG2.out i hia hib (by rw [← HX.out.1, ← HX.out.2]; exact HPv.out)]; rfl, St1.out.2.2.2.2.2.2.trans (hb0.out.mono St1.out.2.2.2.2.2.2.size)⟩
        · have d1 : decide ((i : Int) < (m : Int)) = false := by simp; omega
          go_wp2
          go_ret
          exact ⟨by rw [HG3.out HA1.out (fun j g1 g2 => HP.out j g1 g2 (by have := HN.out.2.1; omega))]; rfl, St1.out.2.2.2.2.2.2⟩
end Go.Proofs.Ytpimociplmpfcaa.Sam
