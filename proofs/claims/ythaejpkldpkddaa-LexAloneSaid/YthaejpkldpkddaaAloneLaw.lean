/- provisolaw10.LexAlone: its walk. -/
import Derived.Test.YthaejpkldpkddaaAwake
namespace Go.Proofs.Ythaejpkldpkddaa.Scn
open Go.RowKit Go.Proofs.YthaejpkldpkddaaW.PrintWords Go.Proofs.YthaejpkldpkddaaW.PrintLast Go.Proofs.YthaejpkldpkddaaW.PrintMore
set_option linter.unusedVariables false
set_option linter.unusedSimpArgs false
attribute [local go_sem] drewN_set drewN_new

set_option maxHeartbeats 4000000 in
set_option maxRecDepth 100000 in
theorem alone_law (s : ByteArray) (k : Int) (w : World) (hs : s.size ≤ 140737488351232) (hk : (Lit.int .u64 k).wf = true) : Calls Try.prog 6 #[.string s, .int .u64 k] w fun e w' => e = .returned (.bool true) ∧ Below w.heap.size w w' := by
  have HS := Lib.hid (fun W => scan_any s W)
  have HL := Lib.hid (alone s)
  have HZ := Lib.hid (fun r h => (scanV_toks s r h).2)
  have HA := Lib.hid awake_any
  obtain ⟨R, hR⟩ : ∃ R, R = scanV s := ⟨_, rfl⟩
  rw [← hR] at HS HL HZ
  clear hR
  cases R with
  | error x =>
    clear HL HZ
    go_enter Try.func6, Try.ntmps6
    go_wp2_with (first | (go_at_call 15; refine (HA.out _).mono ?_; rintro e w1 ⟨rfl, b1⟩) | (go_at_call 16; refine (HS.out _).mono ?_; rintro e w2 ⟨rfl, b2⟩))
    go_ret
    exact ⟨rfl, b1.trans (b2.mono b1.size)⟩
  | ok l =>
    obtain ⟨hl1, hs1⟩ := HZ.out l rfl
    by_cases hl0 : l.length = 0
    · have hd : ((l.length : Int) == 0) = true := by rw [beq_iff_eq]; omega
      clear HL HZ
      go_enter Try.func6, Try.ntmps6
      go_wp2_with (first | (go_at_call 15; refine (HA.out _).mono ?_; rintro e w1 ⟨rfl, b1⟩) | (go_at_call 16; refine (HS.out _).mono ?_; rintro e w2 ⟨A, c, rfl, ho, b2⟩))
      go_ret
      exact ⟨rfl, b1.trans (b2.mono b1.size)⟩
    · have hd : ((l.length : Int) == 0) = false := by rw [beq_eq_false_iff_ne]; omega
      have hd' : ((l.length : Int) = 0) = False := eq_false (by omega)
      have hu36 := Try.underlying36
      have hk0 : 0 ≤ k := by simp only [Lit.wf, Bool.and_eq_true, decide_eq_true_eq] at hk; exact hk.1
      obtain ⟨n, rfl⟩ : ∃ n : Nat, k = n := ⟨k.toNat, by omega⟩
      obtain ⟨m, hm⟩ : ∃ m, m = n % l.length := ⟨_, rfl⟩
      have hlt : m < l.length := by rw [hm]; exact Nat.mod_lt _ (by omega)
      have hmod : (n : Int) % (l.length : Int) = (m : Int) := by rw [hm]; simp
      clear hm
      obtain ⟨x, y, hx, hy, h1, h2, h3, hv⟩ := HL.out l rfl m hlt
      obtain ⟨t, ht⟩ : ∃ t, t = l[m] := ⟨_, rfl⟩
      have hrd : PLexScans.rd_T36 l (m : Int) = t := by simp [PLexScans.rd_T36, List.getD_eq_getElem?_getD, hlt, ht]
      rw [← ht] at hx hy hv
      have HS2 := Lib.hid (show ∀ W, Calls Try.prog 16 #[.string (s.extract x y)] W (ScanPost (.ok [backT t x]) W) from fun W => by have h := scan_any (s.extract x y) W; rw [hv] at h; exact h)
      clear ht
      obtain ⟨t0, t1, t2, t3, t4⟩ := t
      obtain rfl : t1 = (x : Int) := hx
      obtain rfl : t2 = (y : Int) := hy
      have HRD := Lib.hid hrd
      have d2 : decide ((x : Int) < 0) = false := by simp
      have d3 : decide ((s.size : Int) < (y : Int)) = false := by simp; omega
      have d4 : decide ((y : Int) < (x : Int)) = false := by simp; omega
      have hcut := cut_str s x y (by omega) h2
      clear HL HZ hv hrd
      go_enter Try.func6, Try.ntmps6
      go_wp2_with fail
      refine (HA.out _).mono ?_
      rintro e w1 ⟨rfl, b1⟩
      go_wp2_with fail
      refine (HS.out _).mono ?_
      rintro e w2 ⟨A, c, rfl, ho, b2⟩
      obtain ⟨ad, e1, c0, c1, c2, c3, c4⟩ := PLexScans.at_T36 (Kd.R_reads' ho).2.2 (m : Int) (by omega) (by omega)
      rw [HRD.out] at c0 c1 c2 c3 c4
      simp only [Int.toNat_natCast] at c0 c1 c2 c3 c4
      cases e1
      have HB := Lib.hid (b1.trans (b2.mono b1.size))
      clear ho b1 b2
      have hB0 := blk_new w2 (.cells (tokCells ⟨t0, x, y, t3, t4⟩) 36)
      have HN := Lib.hid (below_alloc (Below.refl w2.heap.size w2) (.cells (tokCells ⟨t0, x, y, t3, t4⟩) 36))
      have hbk : backT ⟨t0, (x : Int), (y : Int), t3, t4⟩ x = ⟨t0, 0, (y : Int) - x, t3, t4⟩ := by simp [backT]
      rw [hbk] at HS2
      have HB0 := Lib.hid hB0
      clear hbk hB0
      go_wp2_with fail
      refine (HS2.out _).mono ?_
      rintro e w3 ⟨A3, c3', rfl, ho3, b3⟩
      have hbx := blk_below HB0.out b3
      have g0 := blk_cell hbx 0
      have g1 := blk_cell hbx 1
      have g2 := blk_cell hbx 2
      have g3 := blk_cell hbx 3
      have g4 := blk_cell hbx 4
      have q0 := blk_frozen hbx 0
      have q1 := blk_frozen hbx 1
      have q2 := blk_frozen hbx 2
      have q3 := blk_frozen hbx 3
      have q4 := blk_frozen hbx 4
      have hz1 := blk_lt hbx
      simp only [tokCells, List.getElem?_toArray, List.getElem?_cons_zero, List.getElem?_cons_succ] at g0 g1 g2 g3 g4
      have HB3 := Lib.hid b3
      have HBX := Lib.hid hbx
      have HO3 := Lib.hid ho3
      clear hbx b3 ho3 c0 c1 c2 c3 c4
      go_wp2
      clear g0 g1 g2 g3 g4 q0 q1 q2 q3 q4
      have k1 : ((w3.setCell ⟨w2.heap.size, 1, none⟩ (.int .i64 0)).setCell ⟨w2.heap.size, 2, none⟩ (.int .i64 ((y : Int) - x))).heap[w2.heap.size]? = some (.cells #[.int .i64 t0, .int .i64 0, .int .i64 ((y : Int) - x), .int .i64 t3, .string t4] 36 (0, 0)) := blk_put (blk_put HBX.out 1 (.int .i64 0) rfl) 2 (.int .i64 ((y : Int) - x)) rfl
      have hO2 := Kd.R_mono (ok' := fun k => k ≠ w2.heap.size) (Kd.R_bound HO3.out) (fun k hk => by have := hk.2.1; rw [World.size_alloc] at this; omega)
      have hO3 := (Kd.R_reads' (Kd.R_far (p := ⟨w2.heap.size, 2, none⟩) (Kd.R_far (p := ⟨w2.heap.size, 1, none⟩) hO2 (fun k hk => hk) (.int .i64 0)) (fun k hk => hk) (.int .i64 ((y : Int) - x)))).2.2
      have hfin : Below w.heap.size w ((w3.setCell ⟨w2.heap.size, 1, none⟩ (.int .i64 0)).setCell ⟨w2.heap.size, 2, none⟩ (.int .i64 ((y : Int) - x))) :=
        below_set (below_set (HB.out.trans ((HN.out.mono HB.out.size).trans (HB3.out.mono (Nat.le_trans HB.out.size HN.out.size)))) HB.out.size) HB.out.size
      have HF := Lib.hid hfin
      clear hO2 hfin
      obtain ⟨W4, hW4⟩ : ∃ W4, W4 = ((w3.setCell ⟨w2.heap.size, 1, none⟩ (.int .i64 0)).setCell ⟨w2.heap.size, 2, none⟩ (.int .i64 ((y : Int) - x))) := ⟨_, rfl⟩
      rw [← hW4] at k1 hO3 HF ⊢
      clear hW4
      obtain ⟨ad3, e3, f0, f1, f2, f3, f4⟩ := PLexScans.at_T36 hO3 0 (by decide) (by simp)
      simp only [show PLexScans.rd_T36 [(⟨t0, 0, (y : Int) - x, t3, t4⟩ : Tok)] 0 = ⟨t0, 0, (y : Int) - x, t3, t4⟩ from rfl, show (Int.toNat 0) * 5 = 0 from rfl] at f0 f1 f2 f3 f4
      simp [Addr.add] at f0 f1 f2 f3 f4
      cases e3
      have g0 := blk_cell k1 0
      have g1 := blk_cell k1 1
      have g2 := blk_cell k1 2
      have g3 := blk_cell k1 3
      have g4 := blk_cell k1 4
      simp only [List.getElem?_toArray, List.getElem?_cons_zero, List.getElem?_cons_succ] at g0 g1 g2 g3 g4
      clear k1 hO3 
      go_quiet (fail)
      go_wp2
      go_ret
      exact ⟨rfl, pw_below_drewN HF.out _⟩
theorem alone_row (s : ByteArray) (k : Int) (w : World) (hs : s.size ≤ 140737488351232) (hk : (Lit.int .u64 k).wf = true) : Calls Try.prog 6 #[.string s, .int .u64 k] w fun e w' => e = .returned (.bool true) ∧ Below w.heap.size w w' := alone_law s k w hs hk
end Go.Proofs.Ythaejpkldpkddaa.Scn
