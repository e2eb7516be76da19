/- provisoplain.Program: a copy is what was copied. -/
import Derived.Test.YtpimociplmpfcaaCopyC
import Derived.RegionTactic
namespace Go.Proofs.Ytpimociplmpfcaa.Sam
open Go.RowKit Go.Proofs.YtpimociplmpfcaaW.PrintWords Go.Proofs.YtpimociplmpfcaaW.PrintLast Go.Proofs.YtpimociplmpfcaaW.PrintMore Go.Proofs.Ytpimociplmpfcaa.PParseSames
set_option linter.unusedVariables false
set_option linter.unusedSimpArgs false
attribute [local go_sem] drewN_set drewN_new

theorem info30 : (Try.prog.info? 30).map (fun i => (i.zero, i.size, i.bytes)) = some (some (.agg #[(.int .i64 0), (.string ⟨#[]⟩), (.string ⟨#[]⟩), (.slice none 0 0)]), 4, 64) := by kernel_rfl
theorem info37 : (Try.prog.info? 37).map (fun i => (i.zero, i.size, i.bytes)) = some (some (.agg #[(.int .i64 0), (.string ⟨#[]⟩), (.string ⟨#[]⟩), (.slice none 0 0), (.slice none 0 0), (.int .u8 0), (.int .i64 0)]), 7, 104) := by kernel_rfl
theorem rd30 (l : List S30) (i : Nat) (h : i < l.length) : rd_T30 l (i : Int) = l[i] := by simp [rd_T30, List.getD_eq_getElem?_getD, h]
theorem rd37 (l : List S37) (i : Nat) (h : i < l.length) : rd_T37 l (i : Int) = l[i] := by simp [rd_T37, List.getD_eq_getElem?_getD, h]
theorem eta30 (x : S30) : (⟨x.f0, x.f1, x.f2, x.f3⟩ : S30) = x := by cases x; rfl
theorem eta37 (x : S37) : (⟨x.f0, x.f1, x.f2, x.f3, x.f4, x.f5, x.f6⟩ : S37) = x := by cases x; rfl

set_option maxHeartbeats 8000000 in
set_option maxRecDepth 100000 in
theorem program4 (ra : List S30) (fa : List S37) (Ar : Option Addr) (cr : Nat) (Af : Option Addr) (cf : Nat) (w : World)
    (hR : ∀ x, x ∈ ra → x.f3.length * 48 ≤ 140737488351232) (hF : ∀ x, x ∈ fa → x.f3.length * 48 ≤ 140737488351232 ∧ OkS x.f4) (hrl : ra.length * 64 ≤ 140737488351232) (hfl : fa.length * 104 ≤ 140737488351232)
    (h1 : Kd.C k30 w Ar ra.length ra) (l1 : ra.length ≤ cr) (h2 : Kd.C k37 w Af fa.length fa) (l2 : fa.length ≤ cf) :
    Calls Try.prog 4 #[.agg #[.slice Ar ra.length cr, .slice Af fa.length cf]] w fun e w' => ∃ A c A' c', e = .returned (.agg #[.slice A ra.length c, .slice A' fa.length c']) ∧ Kd.R k30 30 w' w.heap.size (fun _ => True) (.slice A ra.length c) ra ∧ Kd.R k37 37 w' w.heap.size (fun _ => True) (.slice A' fa.length c') fa ∧ Below w.heap.size w w' := by
  have hu := Try.underlying25
  have hu30 := Try.underlying30
  have hu37 := Try.underlying37
  have hmr := h1.2.1; have hmf := h2.2.1
  have HR := Lib.hid hR; have HF := Lib.hid hF
  obtain ⟨n, hn⟩ : ∃ n, n = ra.length := ⟨_, rfl⟩
  obtain ⟨m, hm⟩ : ∃ m, m = fa.length := ⟨_, rfl⟩
  have HN := Lib.hid hn; have HM := Lib.hid hm
  refine calls_of_args (args' := #[.agg #[.slice Ar n cr, .slice Af m cf]]) (by rw [hn, hm]) ?_
  rw [← hn] at h1 l1 hrl hmr; rw [← hm] at h2 l2 hfl hmf
  have H1 := Lib.hid h1; have H2 := Lib.hid h2
  have K0 : Hid ((((w.alloc (.cells #[.slice Ar n cr, .slice Af m cf] 25)).alloc (.cells #[.slice none 0 0, .slice none 0 0] 25)).alloc (.cells #[.slice none 0 0, .slice none 0 0] 25)).heap[w.heap.size]? = some (.cells #[.slice Ar n cr, .slice Af m cf] 25 (0, 0))) := Lib.hid (blk_alloc (blk_alloc (blk_new w _) _) _)
  have K1 : Hid ((((w.alloc (.cells #[.slice Ar n cr, .slice Af m cf] 25)).alloc (.cells #[.slice none 0 0, .slice none 0 0] 25)).alloc (.cells #[.slice none 0 0, .slice none 0 0] 25)).heap[w.heap.size + 1]? = some (.cells #[.slice none 0 0, .slice none 0 0] 25 (0, 0))) := Lib.hid (by have := blk_new (w.alloc (.cells #[.slice Ar n cr, .slice Af m cf] 25)) (.cells #[.slice none 0 0, .slice none 0 0] 25); rw [World.size_alloc] at this; exact blk_alloc this _)
  have K2 : Hid ((((w.alloc (.cells #[.slice Ar n cr, .slice Af m cf] 25)).alloc (.cells #[.slice none 0 0, .slice none 0 0] 25)).alloc (.cells #[.slice none 0 0, .slice none 0 0] 25)).heap[w.heap.size + 2]? = some (.cells #[.slice none 0 0, .slice none 0 0] 25 (0, 0))) := Lib.hid (by have := blk_new ((w.alloc (.cells #[.slice Ar n cr, .slice Af m cf] 25)).alloc (.cells #[.slice none 0 0, .slice none 0 0] 25)) (.cells #[.slice none 0 0, .slice none 0 0] 25); rw [World.size_alloc, World.size_alloc] at this; exact this)
  have KB : Hid (Below w.heap.size w (((w.alloc (.cells #[.slice Ar n cr, .slice Af m cf] 25)).alloc (.cells #[.slice none 0 0, .slice none 0 0] 25)).alloc (.cells #[.slice none 0 0, .slice none 0 0] 25))) := Lib.hid (below_alloc (below_alloc (below_alloc (Below.refl _ _) _) _) _)
  clear h1 h2 hR hF hn hm
  go_enter Try.func4, Try.ntmps4
  go_wp2
  go_loopg [11] (n + 1) (fun f v W => ∃ (i : Nat) (u0 : Value), v = .int .i64 (i : Int) ∧ i + f = n + 1 ∧ i ≤ n ∧ Hid (Kd.R k30 30 W w.heap.size (fun k => k ≠ w.heap.size + 2) u0 (ra.take i)) ∧ Hid (W.heap[w.heap.size]? = some (.cells #[.slice Ar n cr, .slice Af m cf] 25 (0, 0)) ∧ W.heap[w.heap.size + 1]? = some (.cells #[.slice none 0 0, .slice none 0 0] 25 (0, 0)) ∧ W.heap[w.heap.size + 2]? = some (.cells #[u0, .slice none 0 0] 25 (0, 0)) ∧ Below w.heap.size w W))
  case atStart => exact ⟨0, .slice none 0 0, rfl, by omega, Nat.zero_le _, Lib.hid (Kd.R_nil _ _ _ _ _), Lib.hid ⟨K0.out, K1.out, K2.out, KB.out⟩⟩
  case round =>
    clear K0 K1 K2 KB
    obtain ⟨i, u0, rfl, hi, hil, HO, HB⟩ := hrel
    by_cases hlt : i < n
    · have d1 : decide ((i : Int) < (n : Int)) = true := by simp; omega
      have hia : i < ra.length := by have := HN.out; omega
      obtain ⟨ada, A3a, c3a, eqa, h0a, h1a, h2a, h3a, l3a, g3a⟩ := at_T30 (Kd.C_below H1.out HB.out.2.2.2) (i : Int) (by omega) (by omega)
      have hra : rd_T30 ra (i : Int) = ra[i] := rd30 ra i hia
      obtain ⟨x, hx⟩ : ∃ x, x = rd_T30 ra (i : Int) := ⟨_, rfl⟩
      rw [← hx] at h0a h1a h2a h3a l3a g3a
      have HX : Hid (x = ra[i]) := Lib.hid (hx.trans hra)
      have HLx : Hid (x.f3.length * 48 ≤ 140737488355328) := Lib.hid (by have := HR.out x (by rw [hx, hra]; exact List.getElem_mem hia); omega)
      clear hx hra
      simp only [Int.toNat_natCast] at h0a h1a h2a h3a
      cases eqa
      have G3a := Lib.hid g3a
      clear g3a
      have hg0 : w.heap.size < wr.heap.size := blk_lt HB.out.1
      have hg2 : w.heap.size + 2 < wr.heap.size := blk_lt HB.out.2.2.1
      have hb52 : wr.heap.size ≠ w.heap.size + 2 := by omega
      have hb25 : w.heap.size + 2 ≠ wr.heap.size := by omega
      obtain ⟨f, rfl⟩ : ∃ f, gk = f + 1 := ⟨gk - 1, by omega⟩
      have hla : (ada.add (i * 4)).block < wr.heap.size := by
        have := World.block_lt_of_cell? wr _ h0a; exact this
      have hla1 : (ada.add (i * 4)).block < wr.heap.size + 1 := by omega
      have hlan : (ada.add (i * 4)).block ≠ wr.heap.size := by omega
      go_wp2_with fail
      refine (clone8 _ _ x.f3 _ (Kd.C_alloc G3a.out _) l3a HLx.out).mono ?_
      rintro e w1 ⟨v, rfl, ho, hb⟩
      obtain ⟨Av, cv, rfl⟩ := Kd.R_slice ho
      have HV := Lib.hid ho
      have hbb := Lib.hid hb
      have B5 : Hid (w1.heap[wr.heap.size]? = some (.cells #[.int .i64 x.f0, .string x.f1, .string x.f2, .slice A3a x.f3.length c3a] 30 (0, 0))) := Lib.hid (blk_below (blk_new wr _) hb)
      have B2 : Hid (w1.heap[w.heap.size + 2]? = some (.cells #[u0, .slice none 0 0] 25 (0, 0))) := Lib.hid (blk_below (blk_alloc HB.out.2.2.1 _) hb)
      clear ho hb
      obtain ⟨X, hX⟩ : ∃ X, X = Obj.cells #[.int .i64 x.f0, .string x.f1, .string x.f2, .slice A3a x.f3.length c3a] 30 := ⟨_, rfl⟩
      have HW3 : Hid (Kd.R k30 30 (w1.setCell ⟨wr.heap.size, 3, none⟩ (Value.slice Av x.f3.length cv)) w.heap.size (fun k => k ≠ w.heap.size + 2) u0 (ra.take i)) := Lib.hid (Kd.R_mono (Kd.R_far (p := ⟨wr.heap.size, 3, none⟩) (Kd.R_below (Kd.R_alloc (Kd.R_elderB HO.out wr.heap.size (Nat.le_refl _)) _) hbb.out) (fun k hk => hk.2) (Value.slice Av x.f3.length cv)) (fun k hk => hk.1))
      have HV3 : Hid (Kd.R k34 34 (w1.setCell ⟨wr.heap.size, 3, none⟩ (Value.slice Av x.f3.length cv)) w.heap.size (fun k => k ≠ w.heap.size + 2 ∧ some k ≠ u0.ownBlock) (Value.slice Av x.f3.length cv) x.f3) := Lib.hid (Kd.R_mono (Kd.R_lower (Kd.R_far (p := ⟨wr.heap.size, 3, none⟩) (Kd.R_new' (Kd.R_newB (Kd.R_newB HV.out (blk_alloc HB.out.2.2.1 _)) (blk_new wr _)) (Kd.R_lt (Kd.R_alloc HO.out (.cells #[.int .i64 x.f0, .string x.f1, .string x.f2, .slice A3a x.f3.length c3a] 30)))) (fun k hk => hk.1.2) (Value.slice Av x.f3.length cv)) (by rw [World.size_alloc]; omega)) (fun k hk => ⟨hk.1.1.2, hk.2⟩))
      have B23 : Hid ((w1.setCell ⟨wr.heap.size, 3, none⟩ (Value.slice Av x.f3.length cv)).heap[w.heap.size + 2]? = some (.cells #[u0, .slice none 0 0] 25 (0, 0))) := Lib.hid (blk_far B2.out hb25 (Value.slice Av x.f3.length cv))
      have B13 : Hid ((w1.setCell ⟨wr.heap.size, 3, none⟩ (Value.slice Av x.f3.length cv)).heap[w.heap.size + 1]? = some (.cells #[.slice none 0 0, .slice none 0 0] 25 (0, 0))) := Lib.hid (blk_far (p := ⟨wr.heap.size, 3, none⟩) (blk_below (blk_alloc HB.out.2.1 _) hbb.out) (by show w.heap.size + 1 ≠ wr.heap.size; omega) (Value.slice Av x.f3.length cv))
      have B03 : Hid ((w1.setCell ⟨wr.heap.size, 3, none⟩ (Value.slice Av x.f3.length cv)).heap[w.heap.size]? = some (.cells #[.slice (some ada) n cr, .slice Af m cf] 25 (0, 0))) := Lib.hid (blk_far (p := ⟨wr.heap.size, 3, none⟩) (blk_below (blk_alloc HB.out.1 _) hbb.out) (by show w.heap.size ≠ wr.heap.size; omega) (Value.slice Av x.f3.length cv))
      have HB3 : Hid (Below w.heap.size w (w1.setCell ⟨wr.heap.size, 3, none⟩ (Value.slice Av x.f3.length cv))) := Lib.hid (below_set ((below_step (below_alloc HB.out.2.2.2 _) hbb.out)) (by omega))
      have q0 : w1.cell? ⟨wr.heap.size, 0, none⟩ = some (.int .i64 x.f0) := (blk_cell B5.out 0).trans rfl
      have q1 : w1.cell? ⟨wr.heap.size, 1, none⟩ = some (.string x.f1) := (blk_cell B5.out 1).trans rfl
      have q2 : w1.cell? ⟨wr.heap.size, 2, none⟩ = some (.string x.f2) := (blk_cell B5.out 2).trans rfl
      have q3 : w1.cell? ⟨wr.heap.size, 3, none⟩ = some (.slice A3a x.f3.length c3a) := (blk_cell B5.out 3).trans rfl
      have qf := blk_frozen B5.out 3
      have r0 : w1.cell? ⟨w.heap.size + 2, 0, none⟩ = some u0 := (blk_cell B2.out 0).trans rfl
      have E4 : Hid (ra.take i ++ [x] = ra.take (i + 1)) := Lib.hid (by rw [HX.out]; exact take_on ra i hia)
      have L4 : Hid ((ra.take (i + 1)).length = i + 1) := Lib.hid (by rw [List.length_take]; omega)
      have HLt : Hid (((ra.take i).length + 1) * 64 ≤ 140737488355328) := Lib.hid (by rw [List.length_take]; omega)
      clear hX X
      go_wp2_with ((with_reducible refine gate_builtin (b := .append) (xs := #[.tmp 20, .tmp 22]) rfl ?_); at_builtin; go_must (refine Kd.R_append k30 (w0 := w) w.heap.size rfl (.tmp 20) (.tmp 22) 22 30 (.agg #[(.int .i64 0), (.string ⟨#[]⟩), (.string ⟨#[]⟩), (.slice none 0 0)]) 64 rfl Try.underlying22 info30 rfl (by decide) (by omega) u0 (ra.take i) x [.int .i64 x.f0, .string x.f1, .string x.f2, (Value.slice Av x.f3.length cv)] (fun k => k ≠ w.heap.size + 2) (fun k => k ≠ w.heap.size + 2 ∧ some k ≠ u0.ownBlock) rfl ?aH (k30_mkM _ _ _ x HV3.out) (fun _ hk => hk) (Kd.freshB B23.out) HW3.out HB3.out HB3.out.size HLt.out ?_); (case aH => show Value.slice (some ⟨w1.heap.size, 0, none⟩) 1 1 = _; simp [World.setCell]); intro v1 w2 ho hb hg hat; rw [E4.out] at ho; obtain ⟨A1, c1, rfl⟩ := Kd.R_slice ho; rw [L4.out] at ho ⊢; have HO4 := Lib.hid ho; have HB4 := Lib.hid hb; have C2 := Lib.hid (blk_grown B23.out hg (Kd.R_ne HW3.out B23.out (by decide))); have C1 := Lib.hid (blk_grown B13.out hg (Kd.R_ne HW3.out B13.out (by decide))); have C0 := Lib.hid (blk_grown B03.out hg (Kd.R_ne HW3.out B03.out (by decide))); have s0 : w2.cell? ⟨w.heap.size + 2, 0, none⟩ = some u0 := (blk_cell C2.out 0).trans rfl; have sf := blk_frozen C2.out 0; clear ho hb hg hat)
      have F0 : Hid ((w2.setCell ⟨w.heap.size + 1 + 1, 0, none⟩ (.slice A1 (i + 1) c1)).heap[w.heap.size]? = _) := Lib.hid (blk_far (p := ⟨w.heap.size + 1 + 1, 0, none⟩) C0.out (by show w.heap.size ≠ w.heap.size + 1 + 1; omega) (.slice A1 (i + 1) c1))
      have F1 : Hid ((w2.setCell ⟨w.heap.size + 1 + 1, 0, none⟩ (.slice A1 (i + 1) c1)).heap[w.heap.size + 1]? = _) := Lib.hid (blk_far (p := ⟨w.heap.size + 1 + 1, 0, none⟩) C1.out (by show w.heap.size + 1 ≠ w.heap.size + 1 + 1; omega) (.slice A1 (i + 1) c1))
      have F2 : Hid ((w2.setCell ⟨w.heap.size + 1 + 1, 0, none⟩ (.slice A1 (i + 1) c1)).heap[w.heap.size + 2]? = _) := Lib.hid (blk_put (cs' := #[.slice A1 (i + 1) c1, .slice none 0 0]) C2.out 0 (.slice A1 (i + 1) c1) rfl)
      have F3 : Hid (Kd.R k30 30 (w2.setCell ⟨w.heap.size + 1 + 1, 0, none⟩ (.slice A1 (i + 1) c1)) w.heap.size (fun k => k ≠ w.heap.size + 2) (.slice A1 (i + 1) c1) (ra.take (i + 1))) := Lib.hid (Kd.R_far (p := ⟨w.heap.size + 1 + 1, 0, none⟩) HO4.out (fun k hk => hk) _)
      have F4 : Hid (Below w.heap.size w (w2.setCell ⟨w.heap.size + 1 + 1, 0, none⟩ (.slice A1 (i + 1) c1))) := Lib.hid (below_set (j := 0) (v := (.slice A1 (i + 1) c1)) HB4.out (show w.heap.size ≤ w.heap.size + 1 + 1 by omega))
      go_roundg f
      case measure => omega
      case rel => exact ⟨i + 1, _, by simp, by omega, by omega, F3, Lib.hid ⟨F0.out, F1.out, F2.out, F4.out⟩⟩
    · have d1 : decide ((i : Int) < (n : Int)) = false := by simp; omega
      have z0 : wr.cell? ⟨w.heap.size, 1, none⟩ = some (.slice Af m cf) := (blk_cell HB.out.1 1).trans rfl
      have HO2 : Hid (Kd.R k30 30 wr w.heap.size (fun k => k ≠ w.heap.size + 2) u0 ra) := Lib.hid (by have := HO.out; rwa [List.take_of_length_le (by have := HN.out; omega)] at this)
      obtain ⟨A0, c0, rfl⟩ := Kd.R_slice HO2.out
      have hc0 : Hid (ra.length ≤ c0) := Lib.hid (Kd.R_reads' HO2.out).2.1
      have HB2 := Lib.hid HB.out
      clear HB HO hi hil
      generalize wr = wv at HO2 HB2 z0 ⊢
      go_wp2
      clear hlt
      go_loopg [29] (m + 1) (fun f v W => ∃ (i : Nat) (u1 : Value), v = .int .i64 (i : Int) ∧ i + f = m + 1 ∧ i ≤ m ∧ Hid (Kd.R k37 37 W w.heap.size (fun k => k ≠ w.heap.size + 2) u1 (fa.take i)) ∧ Hid (Kd.R k30 30 W w.heap.size (fun k => k ≠ w.heap.size + 2) (.slice A0 ra.length c0) ra) ∧ Hid (W.heap[w.heap.size]? = some (.cells #[.slice Ar n cr, .slice Af m cf] 25 (0, 0)) ∧ W.heap[w.heap.size + 1]? = some (.cells #[.slice none 0 0, .slice none 0 0] 25 (0, 0)) ∧ W.heap[w.heap.size + 2]? = some (.cells #[.slice A0 ra.length c0, u1] 25 (0, 0)) ∧ Below w.heap.size w W))
      case atStart => exact ⟨0, .slice none 0 0, rfl, by omega, Nat.zero_le _, Lib.hid (Kd.R_nil _ _ _ _ _), HO2, HB2⟩
      case round =>
        clear HO2 HB2 z0
        obtain ⟨i, u1, rfl, hi, hil, HO, HP, HB⟩ := hrel
        by_cases hlt : i < m
        · have d1 : decide ((i : Int) < (m : Int)) = true := by simp; omega
          have hia : i < fa.length := by have := HM.out; omega
          obtain ⟨ada, A3a, c3a, A4a, c4a, eqa, h0a, h1a, h2a, h3a, h4a, h5a, h6a, l3a, g3a, l4a, g4a⟩ := at_T37 (Kd.C_below H2.out HB.out.2.2.2) (i : Int) (by omega) (by omega)
          have hra : rd_T37 fa (i : Int) = fa[i] := rd37 fa i hia
          obtain ⟨x, hx⟩ : ∃ x, x = rd_T37 fa (i : Int) := ⟨_, rfl⟩
          rw [← hx] at h0a h1a h2a h3a h4a h5a h6a l3a g3a l4a g4a
          have HX : Hid (x = fa[i]) := Lib.hid (hx.trans hra)
          have hxm : x ∈ fa := by rw [hx, hra]; exact List.getElem_mem hia
          have HLx : Hid (x.f3.length * 48 ≤ 140737488355328) := Lib.hid (by have := (HF.out x hxm).1; omega)
          have HSx : Hid (OkS x.f4) := Lib.hid (HF.out x hxm).2
          clear hx hra hxm
          simp only [Int.toNat_natCast] at h0a h1a h2a h3a h4a h5a h6a
          cases eqa
          have G3a := Lib.hid g3a
          have G4a := Lib.hid g4a
          clear g3a g4a
          have hg0 : w.heap.size < wr.heap.size := blk_lt HB.out.1
          have hg2 : w.heap.size + 2 < wr.heap.size := blk_lt HB.out.2.2.1
          have hb52 : wr.heap.size ≠ w.heap.size + 2 := by omega
          have hb25 : w.heap.size + 2 ≠ wr.heap.size := by omega
          obtain ⟨f, rfl⟩ : ∃ f, gk = f + 1 := ⟨gk - 1, by omega⟩
          have hla : (ada.add (i * 7)).block < wr.heap.size := by
            have := World.block_lt_of_cell? wr _ h0a; exact this
          have hla1 : (ada.add (i * 7)).block < wr.heap.size + 1 := by omega
          have hlan : (ada.add (i * 7)).block ≠ wr.heap.size := by omega
          go_wp2_with fail
          refine (clone8 _ _ x.f3 _ (Kd.C_alloc G3a.out _) l3a HLx.out).mono ?_
          rintro e w1 ⟨v, rfl, ho, hb⟩
          obtain ⟨Av, cv, rfl⟩ := Kd.R_slice ho
          have HV := Lib.hid ho
          have hbb := Lib.hid hb
          have B5 : Hid (w1.heap[wr.heap.size]? = some (.cells #[.int .i64 x.f0, .string x.f1, .string x.f2, .slice A3a x.f3.length c3a, .slice A4a x.f4.length c4a, .int .u8 x.f5, .int .i64 x.f6] 37 (0, 0))) := Lib.hid (blk_below (blk_new wr _) hb)
          have B2 : Hid (w1.heap[w.heap.size + 2]? = some (.cells #[.slice A0 ra.length c0, u1] 25 (0, 0))) := Lib.hid (blk_below (blk_alloc HB.out.2.2.1 _) hb)
          have q3 : w1.cell? ⟨wr.heap.size, 3, none⟩ = some (.slice A3a x.f3.length c3a) := (blk_cell B5.out 3).trans rfl
          have qf := blk_frozen B5.out 3
          have q4 : w1.cell? ⟨wr.heap.size, 4, none⟩ = some (.slice A4a x.f4.length c4a) := (blk_cell B5.out 4).trans rfl
          clear ho hb
          have DO := Lib.hid (Kd.R_far (p := ⟨wr.heap.size, 3, none⟩) (Kd.R_below (Kd.R_alloc (Kd.R_elderB HO.out wr.heap.size (Nat.le_refl _)) _) hbb.out) (fun k hk => hk.2) (.slice Av x.f3.length cv))
          have DP := Lib.hid (Kd.R_far (p := ⟨wr.heap.size, 3, none⟩) (Kd.R_below (Kd.R_alloc (Kd.R_elderB HP.out wr.heap.size (Nat.le_refl _)) _) hbb.out) (fun k hk => hk.2) (.slice Av x.f3.length cv))
          have DV := Lib.hid (Kd.R_far (p := ⟨wr.heap.size, 3, none⟩) (Kd.R_new' (Kd.R_newB (Kd.R_newB HV.out (blk_alloc HB.out.2.2.1 _)) (blk_new wr _)) (Kd.R_lt (Kd.R_alloc HO.out (.cells #[.int .i64 x.f0, .string x.f1, .string x.f2, .slice A3a x.f3.length c3a, .slice A4a x.f4.length c4a, .int .u8 x.f5, .int .i64 x.f6] 37)))) (fun k hk => hk.1.2) (.slice Av x.f3.length cv))
          have D5 : Hid ((w1.setCell ⟨wr.heap.size, 3, none⟩ (.slice Av x.f3.length cv)).heap[wr.heap.size]? = some (.cells #[.int .i64 x.f0, .string x.f1, .string x.f2, .slice Av x.f3.length cv, .slice A4a x.f4.length c4a, .int .u8 x.f5, .int .i64 x.f6] 37 (0, 0))) := Lib.hid (blk_put B5.out 3 _ rfl)
          have D2 : Hid ((w1.setCell ⟨wr.heap.size, 3, none⟩ (.slice Av x.f3.length cv)).heap[w.heap.size + 2]? = some (.cells #[.slice A0 ra.length c0, u1] 25 (0, 0))) := Lib.hid (blk_far B2.out hb25 _)
          have D1 : Hid ((w1.setCell ⟨wr.heap.size, 3, none⟩ (.slice Av x.f3.length cv)).heap[w.heap.size + 1]? = some (.cells #[.slice none 0 0, .slice none 0 0] 25 (0, 0))) := Lib.hid (blk_far (p := ⟨wr.heap.size, 3, none⟩) (blk_below (blk_alloc HB.out.2.1 _) hbb.out) (by show w.heap.size + 1 ≠ wr.heap.size; omega) _)
          have D0 : Hid ((w1.setCell ⟨wr.heap.size, 3, none⟩ (.slice Av x.f3.length cv)).heap[w.heap.size]? = some (.cells #[.slice Ar n cr, .slice (some ada) m cf] 25 (0, 0))) := Lib.hid (blk_far (p := ⟨wr.heap.size, 3, none⟩) (blk_below (blk_alloc HB.out.1 _) hbb.out) (by show w.heap.size ≠ wr.heap.size; omega) _)
          have DB : Hid (Below w.heap.size w (w1.setCell ⟨wr.heap.size, 3, none⟩ (.slice Av x.f3.length cv))) := Lib.hid (below_set ((below_step (below_alloc HB.out.2.2.2 _) hbb.out)) (by omega))
          have DX : Hid (Below wr.heap.size wr (w1.setCell ⟨wr.heap.size, 3, none⟩ (.slice Av x.f3.length cv))) := Lib.hid (below_set ((below_step (below_alloc (Below.refl _ _) _) hbb.out)) (Nat.le_refl _))
          go_wp2_with fail
          refine (stmts9 HSx.out _ _ _ (Kd.C_below G4a.out DX.out) l4a).mono ?_
          rintro e w2 ⟨v, rfl, ho, hb⟩
          obtain ⟨Au, cu, rfl⟩ := Kd.R_slice ho
          clear q3 qf q4
          have hb2 := Lib.hid hb
          have HU := Lib.hid ho
          have E5 : Hid (w2.heap[wr.heap.size]? = some (.cells #[.int .i64 x.f0, .string x.f1, .string x.f2, .slice Av x.f3.length cv, .slice A4a x.f4.length c4a, .int .u8 x.f5, .int .i64 x.f6] 37 (0, 0))) := Lib.hid (blk_below D5.out hb)
          clear ho hb
          have q0 : w2.cell? ⟨wr.heap.size, 0, none⟩ = some (.int .i64 x.f0) := (blk_cell E5.out 0).trans rfl
          have q1 : w2.cell? ⟨wr.heap.size, 1, none⟩ = some (.string x.f1) := (blk_cell E5.out 1).trans rfl
          have q2 : w2.cell? ⟨wr.heap.size, 2, none⟩ = some (.string x.f2) := (blk_cell E5.out 2).trans rfl
          have q3 : w2.cell? ⟨wr.heap.size, 3, none⟩ = some (.slice Av x.f3.length cv) := (blk_cell E5.out 3).trans rfl
          have q4 : w2.cell? ⟨wr.heap.size, 4, none⟩ = some (.slice A4a x.f4.length c4a) := (blk_cell E5.out 4).trans rfl
          have q5 : w2.cell? ⟨wr.heap.size, 5, none⟩ = some (.int .u8 x.f5) := (blk_cell E5.out 5).trans rfl
          have q6 : w2.cell? ⟨wr.heap.size, 6, none⟩ = some (.int .i64 x.f6) := (blk_cell E5.out 6).trans rfl
          have qf := blk_frozen E5.out 4
          have E2 := Lib.hid (blk_below D2.out hb2.out)
          have r0 : w2.cell? ⟨w.heap.size + 2, 1, none⟩ = some u1 := (blk_cell E2.out 1).trans rfl
          have HW3 : Hid (Kd.R k37 37 (w2.setCell ⟨wr.heap.size, 4, none⟩ (.slice Au x.f4.length cu)) w.heap.size (fun k => k ≠ w.heap.size + 2) u1 (fa.take i)) := Lib.hid (Kd.R_mono (Kd.R_far (p := ⟨wr.heap.size, 4, none⟩) (Kd.R_below DO.out hb2.out) (fun k hk => hk.2) _) (fun k hk => hk.1))
          have HP3 : Hid (Kd.R k30 30 (w2.setCell ⟨wr.heap.size, 4, none⟩ (.slice Au x.f4.length cu)) w.heap.size (fun k => k ≠ w.heap.size + 2) (.slice A0 ra.length c0) ra) := Lib.hid (Kd.R_mono (Kd.R_far (p := ⟨wr.heap.size, 4, none⟩) (Kd.R_below DP.out hb2.out) (fun k hk => hk.2) _) (fun k hk => hk.1))
          have HV3 : Hid (Kd.R k34 34 (w2.setCell ⟨wr.heap.size, 4, none⟩ (.slice Au x.f4.length cu)) w.heap.size (fun k => k ≠ w.heap.size + 2 ∧ some k ≠ u1.ownBlock) (.slice Av x.f3.length cv) x.f3) := Lib.hid (Kd.R_mono (Kd.R_lower (Kd.R_far (p := ⟨wr.heap.size, 4, none⟩) (Kd.R_below DV.out hb2.out) (fun k hk => hk.1.2) _) (by rw [World.size_alloc]; omega)) (fun k hk => ⟨hk.1.1.2, hk.2⟩))
          have HU3 : Hid (Kd.R k47 47 (w2.setCell ⟨wr.heap.size, 4, none⟩ (.slice Au x.f4.length cu)) w.heap.size (fun k => k ≠ w.heap.size + 2 ∧ some k ≠ u1.ownBlock) (.slice Au x.f4.length cu) x.f4) := Lib.hid (Kd.R_mono (Kd.R_lower (Kd.R_far (p := ⟨wr.heap.size, 4, none⟩) (Kd.R_new' (Kd.R_newB (Kd.R_newB HU.out D2.out) D5.out) (Kd.R_lt DO.out)) (fun k hk => hk.1.2) _) DB.out.size) (fun k hk => ⟨hk.1.1.2, hk.2⟩))
          have B23 : Hid ((w2.setCell ⟨wr.heap.size, 4, none⟩ (.slice Au x.f4.length cu)).heap[w.heap.size + 2]? = some (.cells #[.slice A0 ra.length c0, u1] 25 (0, 0))) := Lib.hid (blk_far E2.out hb25 _)
          have B13 : Hid ((w2.setCell ⟨wr.heap.size, 4, none⟩ (.slice Au x.f4.length cu)).heap[w.heap.size + 1]? = some (.cells #[.slice none 0 0, .slice none 0 0] 25 (0, 0))) := Lib.hid (blk_far (p := ⟨wr.heap.size, 4, none⟩) (blk_below D1.out hb2.out) (by show w.heap.size + 1 ≠ wr.heap.size; omega) _)
          have B03 : Hid ((w2.setCell ⟨wr.heap.size, 4, none⟩ (.slice Au x.f4.length cu)).heap[w.heap.size]? = some (.cells #[.slice Ar n cr, .slice (some ada) m cf] 25 (0, 0))) := Lib.hid (blk_far (p := ⟨wr.heap.size, 4, none⟩) (blk_below D0.out hb2.out) (by show w.heap.size ≠ wr.heap.size; omega) _)
          have HB3 : Hid (Below w.heap.size w (w2.setCell ⟨wr.heap.size, 4, none⟩ (.slice Au x.f4.length cu))) := Lib.hid (below_set (below_step DB.out hb2.out) (by omega))
          have E4 : Hid (fa.take i ++ [x] = fa.take (i + 1)) := Lib.hid (by rw [HX.out]; exact take_on fa i hia)
          have L4 : Hid ((fa.take (i + 1)).length = i + 1) := Lib.hid (by rw [List.length_take]; omega)
          have HLt : Hid (((fa.take i).length + 1) * 104 ≤ 140737488355328) := Lib.hid (by rw [List.length_take]; omega)
          go_wp2_with ((with_reducible refine gate_builtin (b := .append) (xs := #[.tmp 42, .tmp 44]) rfl ?_); at_builtin; go_must (refine Kd.R_append k37 (w0 := w) w.heap.size rfl (.tmp 42) (.tmp 44) 23 37 (.agg #[(.int .i64 0), (.string ⟨#[]⟩), (.string ⟨#[]⟩), (.slice none 0 0), (.slice none 0 0), (.int .u8 0), (.int .i64 0)]) 104 rfl Try.underlying23 info37 rfl (by decide) (by omega) u1 (fa.take i) x [.int .i64 x.f0, .string x.f1, .string x.f2, .slice Av x.f3.length cv, .slice Au x.f4.length cu, .int .u8 x.f5, .int .i64 x.f6] (fun k => k ≠ w.heap.size + 2) (fun k => k ≠ w.heap.size + 2 ∧ some k ≠ u1.ownBlock) rfl ?aH (k37_mkM _ _ _ x HV3.out HU3.out) (fun _ hk => hk) (Kd.freshB B23.out) HW3.out HB3.out HB3.out.size HLt.out ?_); (case aH => show Value.slice (some ⟨w2.heap.size, 0, none⟩) 1 1 = _; simp [World.setCell]); intro v1 w3 ho hb hg hat; rw [E4.out] at ho; obtain ⟨A1, c1, rfl⟩ := Kd.R_slice ho; rw [L4.out] at ho ⊢; have HO4 := Lib.hid ho; have HB4 := Lib.hid hb; have C2 := Lib.hid (blk_grown B23.out hg (Kd.R_ne HW3.out B23.out (by decide))); have C1 := Lib.hid (blk_grown B13.out hg (Kd.R_ne HW3.out B13.out (by decide))); have C0 := Lib.hid (blk_grown B03.out hg (Kd.R_ne HW3.out B03.out (by decide))); have HP4 := Lib.hid (Kd.R_over' HP3.out (Kd.R_typed HW3.out) (by decide) hg); have s0 : w3.cell? ⟨w.heap.size + 2, 1, none⟩ = some u1 := (blk_cell C2.out 1).trans rfl; have sf := blk_frozen C2.out 1; clear ho hb hg hat)
          have F0 : Hid ((w3.setCell ⟨w.heap.size + 1 + 1, 1, none⟩ (.slice A1 (i + 1) c1)).heap[w.heap.size]? = _) := Lib.hid (blk_far (p := ⟨w.heap.size + 1 + 1, 1, none⟩) C0.out (by show w.heap.size ≠ w.heap.size + 1 + 1; omega) (.slice A1 (i + 1) c1))
          have F1 : Hid ((w3.setCell ⟨w.heap.size + 1 + 1, 1, none⟩ (.slice A1 (i + 1) c1)).heap[w.heap.size + 1]? = _) := Lib.hid (blk_far (p := ⟨w.heap.size + 1 + 1, 1, none⟩) C1.out (by show w.heap.size + 1 ≠ w.heap.size + 1 + 1; omega) (.slice A1 (i + 1) c1))
          have F2 : Hid ((w3.setCell ⟨w.heap.size + 1 + 1, 1, none⟩ (.slice A1 (i + 1) c1)).heap[w.heap.size + 2]? = _) := Lib.hid (blk_put (cs' := #[.slice A0 ra.length c0, .slice A1 (i + 1) c1]) C2.out 1 (.slice A1 (i + 1) c1) rfl)
          have F3 : Hid (Kd.R k37 37 (w3.setCell ⟨w.heap.size + 1 + 1, 1, none⟩ (.slice A1 (i + 1) c1)) w.heap.size (fun k => k ≠ w.heap.size + 2) (.slice A1 (i + 1) c1) (fa.take (i + 1))) := Lib.hid (Kd.R_far (p := ⟨w.heap.size + 1 + 1, 1, none⟩) HO4.out (fun k hk => hk) _)
          have F5 : Hid (Kd.R k30 30 (w3.setCell ⟨w.heap.size + 1 + 1, 1, none⟩ (.slice A1 (i + 1) c1)) w.heap.size (fun k => k ≠ w.heap.size + 2) (.slice A0 ra.length c0) ra) := Lib.hid (Kd.R_far (p := ⟨w.heap.size + 1 + 1, 1, none⟩) HP4.out (fun k hk => hk) _)
          have F4 : Hid (Below w.heap.size w (w3.setCell ⟨w.heap.size + 1 + 1, 1, none⟩ (.slice A1 (i + 1) c1))) := Lib.hid (below_set (j := 1) (v := (.slice A1 (i + 1) c1)) HB4.out (show w.heap.size ≤ w.heap.size + 1 + 1 by omega))
          go_roundg f
          case measure => omega
          case rel => exact ⟨i + 1, _, by simp, by omega, by omega, F3, F5, Lib.hid ⟨F0.out, F1.out, F2.out, F4.out⟩⟩
        · have d1 : decide ((i : Int) < (m : Int)) = false := by simp; omega
          have HO2 : Hid (Kd.R k37 37 wr w.heap.size (fun k => k ≠ w.heap.size + 2) u1 fa) := Lib.hid (by have := HO.out; rwa [List.take_of_length_le (by have := HM.out; omega)] at this)
          obtain ⟨A1, c1, rfl⟩ := Kd.R_slice HO2.out
          have t20 : wr.cell? ⟨w.heap.size + 2, 0, none⟩ = some (.slice A0 ra.length c0) := (blk_cell HB.out.2.2.1 0).trans rfl
          have t21 : wr.cell? ⟨w.heap.size + 2, 1, none⟩ = some (.slice A1 fa.length c1) := (blk_cell HB.out.2.2.1 1).trans rfl
          have t10 : wr.cell? ⟨w.heap.size + 1, 0, none⟩ = some (.slice none 0 0) := (blk_cell HB.out.2.1 0).trans rfl
          have t11 : wr.cell? ⟨w.heap.size + 1, 1, none⟩ = some (.slice none 0 0) := (blk_cell HB.out.2.1 1).trans rfl
          have tf0 := blk_frozen HB.out.2.1 0
          have tf1 := blk_frozen HB.out.2.1 1
          have hw1 := Lib.hid (Kd.R_far (p := ⟨w.heap.size + 1, 0, none⟩) (Kd.R_mono (Kd.R_types HP.out HB.out.2.1 (by decide)) (fun k hk => hk.2)) (fun k hk => hk) (.slice A0 ra.length c0))
          have hw2 := Lib.hid (Kd.R_far (p := ⟨w.heap.size + 1, 1, none⟩) hw1.out (fun k hk => hk) (.slice A1 fa.length c1))
          have hx1 := Lib.hid (Kd.R_far (p := ⟨w.heap.size + 1, 0, none⟩) (Kd.R_mono (Kd.R_types HO2.out HB.out.2.1 (by decide)) (fun k hk => hk.2)) (fun k hk => hk) (.slice A0 ra.length c0))
          have hx2 := Lib.hid (Kd.R_far (p := ⟨w.heap.size + 1, 1, none⟩) hx1.out (fun k hk => hk) (.slice A1 fa.length c1))
          have hy := Lib.hid (blk_put (cs' := #[.slice A0 ra.length c0, .slice A1 fa.length c1]) (blk_put (cs' := #[.slice A0 ra.length c0, .slice none 0 0]) HB.out.2.1 0 (.slice A0 ra.length c0) rfl) 1 (.slice A1 fa.length c1) rfl)
          have hz := Lib.hid (below_set (j := 1) (v := (.slice A1 fa.length c1)) (below_set (j := 0) (v := (.slice A0 ra.length c0)) HB.out.2.2.2 (show w.heap.size ≤ w.heap.size + 1 by omega)) (show w.heap.size ≤ w.heap.size + 1 by omega))
          go_wp2
          refine bodyPost_ret (results_cell_row rfl _ _ (w.heap.size + 1) 25 #[.slice A0 ra.length c0, .slice A1 fa.length c1] (0, 0) _ rfl hy.out Try.underlying25 rfl (by kernel_rfl)) rfl ?_
          exact ⟨A0, c0, A1, c1, rfl, Kd.R_mono hw2.out (fun _ _ => trivial), Kd.R_mono hx2.out (fun _ _ => trivial), hz.out⟩
end Go.Proofs.Ytpimociplmpfcaa.Sam
