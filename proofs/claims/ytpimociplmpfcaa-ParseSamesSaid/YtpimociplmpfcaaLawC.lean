/- The law's function ParseSames: its walk. Printed by tools/mk11l.py. -/
import Derived.Test.YtpimociplmpfcaaWholeC
import Derived.Test.YtpimociplmpfcaaPlainP
import Derived.Test.YtpimociplmpfcaaRefF
import Derived.Deep.RegionWith
import Derived.RegionTactic
import Derived.Deep.DeepCutAuto
namespace Go.Proofs.Ytpimociplmpfcaa.Sam
open Go.RowKit Go.Proofs.YtpimociplmpfcaaW.PrintWords Go.Proofs.YtpimociplmpfcaaW.PrintLast Go.Proofs.YtpimociplmpfcaaW.PrintMore Go.Proofs.Ytpimociplmpfcaa.PParseSames
set_option linter.unusedVariables false
set_option linter.unusedSimpArgs false
attribute [local go_sem] drewN_set drewN_new

/-- What is asked of a program: no list of it is too long. -/
def OkG (ra : List S30) (fa : List S37) : Prop :=
  (∀ x, x ∈ ra → x.f3.length * 48 ≤ 140737488351232) ∧ (∀ x, x ∈ fa → x.f3.length * 48 ≤ 140737488351232 ∧ OkS x.f4) ∧ ra.length * 64 ≤ 140737488351232 ∧ fa.length * 104 ≤ 140737488351232

set_option maxHeartbeats 8000000 in
set_option maxRecDepth 100000 in
theorem law3 (ra rb : List S30) (fa fb : List S37) (Ar : Option Addr) (cr : Nat) (Af : Option Addr) (cf : Nat) (Br : Option Addr) (dr : Nat) (Bf : Option Addr) (df : Nat) (w : World) (oa : OkG ra fa) (ob : OkG rb fb)
    (h1 : Kd.C k30 w Ar ra.length ra) (l1 : ra.length ≤ cr) (h2 : Kd.C k37 w Af fa.length fa) (l2 : fa.length ≤ cf) (h3 : Kd.C k30 w Br rb.length rb) (l3 : rb.length ≤ dr) (h4 : Kd.C k37 w Bf fb.length fb) (l4 : fb.length ≤ df) :
    Calls Try.prog 3 #[.agg #[.slice Ar ra.length cr, .slice Af fa.length cf], .agg #[.slice Br rb.length dr, .slice Bf fb.length df]] w fun e w' => e = .returned (.bool true) ∧ Below w.heap.size w w' := by
  have hu := Try.underlying25
  have OA := Lib.hid oa; have OB := Lib.hid ob
  have H1 := Lib.hid h1; have H2 := Lib.hid h2; have H3 := Lib.hid h3; have H4 := Lib.hid h4
  have HCA := Lib.hid (fun (V : World) (hV : Below w.heap.size w V) => program4 ra fa Ar cr Af cf V oa.1 oa.2.1 oa.2.2.1 oa.2.2.2 (Kd.C_below h1 hV) l1 (Kd.C_below h2 hV) l2)
  have HCB := Lib.hid (fun (V : World) (hV : Below w.heap.size w V) => program4 rb fb Br dr Bf df V ob.1 ob.2.1 ob.2.2.1 ob.2.2.2 (Kd.C_below h3 hV) l3 (Kd.C_below h4 hV) l4)
  have KA0 : Hid (((w.alloc (.cells #[.slice Ar ra.length cr, .slice Af fa.length cf] 25)).alloc (.cells #[.slice Br rb.length dr, .slice Bf fb.length df] 25)).drew.heap[w.heap.size]? = some (.cells #[.slice Ar ra.length cr, .slice Af fa.length cf] 25 (0, 0))) := Lib.hid (blk_drew (blk_alloc (blk_new w _) _))
  have KB0 : Hid (((w.alloc (.cells #[.slice Ar ra.length cr, .slice Af fa.length cf] 25)).alloc (.cells #[.slice Br rb.length dr, .slice Bf fb.length df] 25)).drew.heap[w.heap.size + 1]? = some (.cells #[.slice Br rb.length dr, .slice Bf fb.length df] 25 (0, 0))) := Lib.hid (blk_drew (by have := blk_new (w.alloc (.cells #[.slice Ar ra.length cr, .slice Af fa.length cf] 25)) (.cells #[.slice Br rb.length dr, .slice Bf fb.length df] 25); rwa [World.size_alloc] at this))
  have PB0 : Hid (Below w.heap.size w ((w.alloc (.cells #[.slice Ar ra.length cr, .slice Af fa.length cf] 25)).alloc (.cells #[.slice Br rb.length dr, .slice Bf fb.length df] 25)).drew) := Lib.hid (below_drew (below_alloc (below_alloc (Below.refl _ _) _) _))
  clear h1 h2 h3 h4 oa ob
  go_enter Try.func3, Try.ntmps3
  go_upto_region 1 with (fail)
  go_cut [5, 6] (fun s5 s6 W => ∃ (b5 b6 : Nat) (Pa : Option Addr) (pa : Nat) (Qa : Option Addr) (qa : Nat) (Pb : Option Addr) (pb : Nat) (Qb : Option Addr) (qb : Nat), s5 = .pointer (some ⟨b5, 0, none⟩) ∧ s6 = .pointer (some ⟨b6, 0, none⟩) ∧
    Hid (W.heap[b5]? = some (.cells #[.slice Pa ra.length pa, .slice Qa fa.length qa] 25 (0, 0))) ∧ Hid (W.heap[b6]? = some (.cells #[.slice Pb rb.length pb, .slice Qb fb.length qb] 25 (0, 0))) ∧ Hid (W.heap[w.heap.size]? = some (.cells #[.slice Ar ra.length cr, .slice Af fa.length cf] 25 (0, 0))) ∧ Hid (W.heap[w.heap.size + 1]? = some (.cells #[.slice Br rb.length dr, .slice Bf fb.length df] 25 (0, 0))) ∧
    Hid (Kd.R k30 30 W w.heap.size (fun _ => True) (.slice Pa ra.length pa) ra ∧ Kd.R k37 37 W w.heap.size (fun _ => True) (.slice Qa fa.length qa) fa) ∧ Hid (Kd.R k30 30 W w.heap.size (fun _ => True) (.slice Pb rb.length pb) rb ∧ Kd.R k37 37 W w.heap.size (fun _ => True) (.slice Qb fb.length qb) fb) ∧ Hid (Below w.heap.size w W))
  case first =>
    refine start_ (n := 8) (S := (fun W' => W'.cell? ⟨w.heap.size, 0, none⟩ = some (.slice Ar ra.length cr) ∧ W'.cell? ⟨w.heap.size, 1, none⟩ = some (.slice Af fa.length cf) ∧ W'.cell? ⟨w.heap.size + 1, 0, none⟩ = some (.slice Br rb.length dr) ∧ W'.cell? ⟨w.heap.size + 1, 1, none⟩ = some (.slice Bf fb.length df))) (ds := []) #[false, false, false, false, false, false, false, false] (by kernel_rfl) rfl rfl ⟨(blk_cell KA0.out 0).trans rfl, (blk_cell KA0.out 1).trans rfl, (blk_cell KB0.out 0).trans rfl, (blk_cell KB0.out 1).trans rfl⟩ (fun hHeld => ?_)
    generalize ((w.alloc (.cells #[.slice Ar ra.length cr, .slice Af fa.length cf] 25)).alloc (.cells #[.slice Br rb.length dr, .slice Bf fb.length df] 25)).drew = v0 at KA0 KB0 PB0 hHeld ⊢
    refine take_ (i := 0) (N := some 7) (v := ?_) (a' := ?_) #[true, false, false, false, false, false, false, false] rfl rfl (by kernel_rfl) (fun _ _ _ h => h) (Or.inl ⟨by rfl, ?_⟩) hHeld ?_ ?_
    rotate_left
    · rintro w' ⟨s0, s1, s2, s3⟩
      go_simp
      with_reducible rfl
    rotate_left
    · simp only [Act.put, List.setIfInBounds_toArray, List.set_cons_zero, List.set_cons_succ]; rfl
    refine take_ (i := 2) (N := some 9) (v := ?_) (a' := ?_) #[true, false, true, false, false, false, false, false] rfl rfl (by kernel_rfl) (fun _ _ _ h => h) (Or.inl ⟨by rfl, ?_⟩) hHeld ?_ ?_
    rotate_left
    · rintro w' ⟨s0, s1, s2, s3⟩
      go_simp
      with_reducible rfl
    rotate_left
    · simp only [Act.put, List.setIfInBounds_toArray, List.set_cons_zero, List.set_cons_succ]; rfl
    have KAv0 := KA0; have KBv0 := KB0; have PBv0 := PB0
    clear KA0 KB0 PB0
    refine three_ (i := 1) (j := 4) (k := 5) #[true, true, true, false, false, false, false, false] #[true, false, true, false, true, false, false, false] #[true, false, true, false, false, true, false, false] rfl rfl rfl (by rfl) (by rfl) (by rfl) (by kernel_rfl) (by decide) (by decide) (by decide) (fun K hK => ?_) (fun K hK => ?_) (fun K hK => ?_)
    · skip
      refine goes_ Try.func4 (by kernel_rfl) rfl #[.agg #[.slice Ar ra.length cr, .slice Af fa.length cf]] (by rfl) rfl rfl (by simp only [List.map_toArray, List.map_cons, List.map_nil]; rfl) ?_
      refine (HCA.out v0 PBv0.out).mono ?_
      rintro e v1 ⟨Pa, pa, Qa, qa, rfl, u1, u2, hb⟩
      refine ⟨_, rfl, ?_⟩
      have PBv1 := Lib.hid (PBv0.out.trans (hb.mono PBv0.out.size))
      have KAv1 := Lib.hid (blk_below KAv0.out hb)
      have KBv1 := Lib.hid (blk_below KBv0.out hb)
      have Cav1 := Lib.hid (And.intro (Kd.R_lower u1 PBv0.out.size) (Kd.R_lower u2 PBv0.out.size))
      clear hb u1 u2
      clear PBv0 KAv0 KBv0
      refine hK.out _ _ ⟨(blk_cell KAv1.out 0).trans rfl, (blk_cell KAv1.out 1).trans rfl, (blk_cell KBv1.out 0).trans rfl, (blk_cell KBv1.out 1).trans rfl⟩ (fun hHeld => ?_)
      clear hK K
      refine norm_ (a' := ?_) ?_ ?_
      rotate_left
      · show Act.put _ (some 8) _ = _
        simp only [Act.put, List.setIfInBounds_toArray, List.set_cons_zero, List.set_cons_succ]; rfl
      refine three_ (i := 3) (j := 4) (k := 5) #[true, true, true, true, false, false, false, false] #[true, true, true, false, true, false, false, false] #[true, true, true, false, false, true, false, false] rfl rfl rfl (by rfl) (by rfl) (by rfl) (by kernel_rfl) (by decide) (by decide) (by decide) (fun K hK => ?_) (fun K hK => ?_) (fun K hK => ?_)
      · skip
        refine goes_ Try.func4 (by kernel_rfl) rfl #[.agg #[.slice Br rb.length dr, .slice Bf fb.length df]] (by rfl) rfl rfl (by simp only [List.map_toArray, List.map_cons, List.map_nil]; rfl) ?_
        refine (HCB.out v1 PBv1.out).mono ?_
        rintro e v2 ⟨Pb, pb, Qb, qb, rfl, u1, u2, hb⟩
        refine ⟨_, rfl, ?_⟩
        have PBv2 := Lib.hid (PBv1.out.trans (hb.mono PBv1.out.size))
        have KAv2 := Lib.hid (blk_below KAv1.out hb)
        have KBv2 := Lib.hid (blk_below KBv1.out hb)
        have Cav2 := Lib.hid (And.intro (Kd.R_below Cav1.out.1 hb) (Kd.R_below Cav1.out.2 hb))
        have Cbv2 := Lib.hid (And.intro (Kd.R_lower u1 PBv1.out.size) (Kd.R_lower u2 PBv1.out.size))
        clear hb u1 u2
        clear PBv1 KAv1 KBv1 Cav1
        refine hK.out _ _ ⟨(blk_cell KAv2.out 0).trans rfl, (blk_cell KAv2.out 1).trans rfl, (blk_cell KBv2.out 0).trans rfl, (blk_cell KBv2.out 1).trans rfl⟩ (fun hHeld => ?_)
        clear hK K
        refine norm_ (a' := ?_) ?_ ?_
        rotate_left
        · show Act.put _ (some 10) _ = _
          simp only [Act.put, List.setIfInBounds_toArray, List.set_cons_zero, List.set_cons_succ]; rfl
        refine two_ (i := 4) (j := 5) #[true, true, true, true, true, false, false, false] #[true, true, true, true, false, true, false, false] rfl rfl (by rfl) (by rfl) (by kernel_rfl) (by decide) (by decide) (fun K hK => ?_) (fun K hK => ?_)
        · skip
          refine value_ (w1 := ?_) (v := ?_) (by rfl) rfl ?_ ?_
          rotate_left 2
          · go_simp
            constructor
            · rfl
            · rfl
          have hb : Below v2.heap.size v2 (v2.alloc (.cells #[.slice none 0 0, .slice none 0 0] 25)) := below_alloc (Below.refl _ _) _
          have K5v3 : Hid ((v2.alloc (.cells #[.slice none 0 0, .slice none 0 0] 25)).heap[v2.heap.size]? = some (.cells #[.slice none 0 0, .slice none 0 0] 25 (0, 0))) := Lib.hid (blk_new v2 _)
          have L5 : Hid (w.heap.size ≤ v2.heap.size) := Lib.hid PBv2.out.size
          have GA5 : Hid (w.heap.size ≠ v2.heap.size) := Lib.hid (Nat.ne_of_lt (blk_lt KAv2.out))
          have GB5 : Hid (w.heap.size + 1 ≠ v2.heap.size) := Lib.hid (Nat.ne_of_lt (blk_lt KBv2.out))
          have PBv3 := Lib.hid (PBv2.out.trans (hb.mono PBv2.out.size))
          have KAv3 := Lib.hid (blk_below KAv2.out hb)
          have KBv3 := Lib.hid (blk_below KBv2.out hb)
          have Cav3 := Lib.hid (And.intro (Kd.R_below Cav2.out.1 hb) (Kd.R_below Cav2.out.2 hb))
          have Cbv3 := Lib.hid (And.intro (Kd.R_below Cbv2.out.1 hb) (Kd.R_below Cbv2.out.2 hb))
          clear hb
          generalize v2.alloc (.cells #[.slice none 0 0, .slice none 0 0] 25) = v3 at PBv3 KAv3 KBv3 K5v3 Cav3 Cbv3 ⊢
          generalize v2.heap.size = b5 at K5v3 L5 GA5 GB5 ⊢
          clear PBv2 KAv2 KBv2 Cav2 Cbv2
          refine hK.out _ _ ⟨(blk_cell KAv3.out 0).trans rfl, (blk_cell KAv3.out 1).trans rfl, (blk_cell KBv3.out 0).trans rfl, (blk_cell KBv3.out 1).trans rfl⟩ (fun hHeld => ?_)
          clear hK K
          refine norm_ (a' := ?_) ?_ ?_
          rotate_left
          · show Act.put _ (some 5) _ = _
            simp only [Act.put, List.setIfInBounds_toArray, List.set_cons_zero, List.set_cons_succ]; rfl
          refine one_ (i := 5) (N := some 6) #[true, true, true, true, true, true, false, false] rfl rfl (by kernel_rfl) (by decide) (fun K hK => ?_)
          refine value_ (w1 := ?_) (v := ?_) (by rfl) rfl ?_ ?_
          rotate_left 2
          · go_simp
            constructor
            · rfl
            · rfl
          have hb : Below v3.heap.size v3 (v3.alloc (.cells #[.slice none 0 0, .slice none 0 0] 25)) := below_alloc (Below.refl _ _) _
          have K6v4 : Hid ((v3.alloc (.cells #[.slice none 0 0, .slice none 0 0] 25)).heap[v3.heap.size]? = some (.cells #[.slice none 0 0, .slice none 0 0] 25 (0, 0))) := Lib.hid (blk_new v3 _)
          have L6 : Hid (w.heap.size ≤ v3.heap.size) := Lib.hid PBv3.out.size
          have GA6 : Hid (w.heap.size ≠ v3.heap.size) := Lib.hid (Nat.ne_of_lt (blk_lt KAv3.out))
          have GB6 : Hid (w.heap.size + 1 ≠ v3.heap.size) := Lib.hid (Nat.ne_of_lt (blk_lt KBv3.out))
          have NQ : Hid (b5 ≠ v3.heap.size) := Lib.hid (Nat.ne_of_lt (blk_lt K5v3.out))
          have PBv4 := Lib.hid (PBv3.out.trans (hb.mono PBv3.out.size))
          have KAv4 := Lib.hid (blk_below KAv3.out hb)
          have KBv4 := Lib.hid (blk_below KBv3.out hb)
          have K5v4 := Lib.hid (blk_below K5v3.out hb)
          have Cav4 := Lib.hid (And.intro (Kd.R_below Cav3.out.1 hb) (Kd.R_below Cav3.out.2 hb))
          have Cbv4 := Lib.hid (And.intro (Kd.R_below Cbv3.out.1 hb) (Kd.R_below Cbv3.out.2 hb))
          clear hb
          generalize v3.alloc (.cells #[.slice none 0 0, .slice none 0 0] 25) = v4 at PBv4 KAv4 KBv4 K6v4 K5v4 Cav4 Cbv4 ⊢
          generalize v3.heap.size = b6 at K6v4 L6 GA6 GB6 NQ ⊢
          have N56 : Hid (b5 ≠ b6) := Lib.hid NQ.out
          clear PBv3 KAv3 KBv3 K5v3 Cav3 Cbv3
          refine hK.out _ _ ⟨(blk_cell KAv4.out 0).trans rfl, (blk_cell KAv4.out 1).trans rfl, (blk_cell KBv4.out 0).trans rfl, (blk_cell KBv4.out 1).trans rfl⟩ (fun hHeld => ?_)
          clear hK K
          refine norm_ (a' := ?_) ?_ ?_
          rotate_left
          · show Act.put _ (some 6) _ = _
            simp only [Act.put, List.setIfInBounds_toArray, List.set_cons_zero, List.set_cons_succ]; rfl
          refine one_ (i := 6) (N := none) #[true, true, true, true, true, true, true, false] rfl rfl (by kernel_rfl) (by decide) (fun K hK => ?_)
          have t0 : v4.cell? ⟨b5, 0, none⟩ = some (.slice none 0 0) := (blk_cell K5v4.out 0).trans rfl
          have t1 : v4.cell? ⟨b5, 1, none⟩ = some (.slice none 0 0) := (blk_cell K5v4.out 1).trans rfl
          have f0 := blk_frozen K5v4.out 0; have f1 := blk_frozen K5v4.out 1
          refine skip_ (w1 := ?_) (by rfl) rfl ?_ ?_
          rotate_left
          · go_simp
            rfl
          clear t0 t1 f0 f1
          have K5v5 : Hid (((v4.setCell ⟨b5, 0, none⟩ (.slice Pa ra.length pa)).setCell ⟨b5, 1, none⟩ (.slice Qa fa.length qa)).heap[b5]? = some (.cells #[.slice Pa ra.length pa, .slice Qa fa.length qa] 25 (0, 0))) := Lib.hid (blk_put (blk_put K5v4.out 0 _ rfl) 1 _ rfl)
          have K6v5 := Lib.hid (blk_far (p := ⟨b5, 1, none⟩) (blk_far (p := ⟨b5, 0, none⟩) K6v4.out N56.out.symm (.slice Pa ra.length pa)) N56.out.symm (.slice Qa fa.length qa))
          have KAv5 := Lib.hid (blk_far (p := ⟨b5, 1, none⟩) (blk_far (p := ⟨b5, 0, none⟩) KAv4.out GA5.out (.slice Pa ra.length pa)) GA5.out (.slice Qa fa.length qa))
          have KBv5 := Lib.hid (blk_far (p := ⟨b5, 1, none⟩) (blk_far (p := ⟨b5, 0, none⟩) KBv4.out GB5.out (.slice Pa ra.length pa)) GB5.out (.slice Qa fa.length qa))
          have PBv5 := Lib.hid (below_set (j := 1) (v := .slice Qa fa.length qa) (below_set (j := 0) (v := .slice Pa ra.length pa) PBv4.out L5.out) L5.out)
          have Cav5 : Hid (Kd.R k30 30 _ w.heap.size (fun _ => True) _ _ ∧ Kd.R k37 37 _ w.heap.size (fun _ => True) _ _) := Lib.hid (And.intro (Kd.R_mono (Kd.R_far (p := ⟨b5, 1, none⟩) (Kd.R_far (p := ⟨b5, 0, none⟩) (Kd.R_mono (Kd.R_types Cav4.out.1 K5v4.out (by decide)) (fun _ hk => hk.2)) (fun _ hk => hk) (.slice Pa ra.length pa)) (fun _ hk => hk) (.slice Qa fa.length qa)) (fun _ _ => trivial)) (Kd.R_mono (Kd.R_far (p := ⟨b5, 1, none⟩) (Kd.R_far (p := ⟨b5, 0, none⟩) (Kd.R_mono (Kd.R_types Cav4.out.2 K5v4.out (by decide)) (fun _ hk => hk.2)) (fun _ hk => hk) (.slice Pa ra.length pa)) (fun _ hk => hk) (.slice Qa fa.length qa)) (fun _ _ => trivial)))
          have Cbv5 : Hid (Kd.R k30 30 _ w.heap.size (fun _ => True) _ _ ∧ Kd.R k37 37 _ w.heap.size (fun _ => True) _ _) := Lib.hid (And.intro (Kd.R_mono (Kd.R_far (p := ⟨b5, 1, none⟩) (Kd.R_far (p := ⟨b5, 0, none⟩) (Kd.R_mono (Kd.R_types Cbv4.out.1 K5v4.out (by decide)) (fun _ hk => hk.2)) (fun _ hk => hk) (.slice Pa ra.length pa)) (fun _ hk => hk) (.slice Qa fa.length qa)) (fun _ _ => trivial)) (Kd.R_mono (Kd.R_far (p := ⟨b5, 1, none⟩) (Kd.R_far (p := ⟨b5, 0, none⟩) (Kd.R_mono (Kd.R_types Cbv4.out.2 K5v4.out (by decide)) (fun _ hk => hk.2)) (fun _ hk => hk) (.slice Pa ra.length pa)) (fun _ hk => hk) (.slice Qa fa.length qa)) (fun _ _ => trivial)))
          generalize ((v4.setCell ⟨b5, 0, none⟩ (.slice Pa ra.length pa)).setCell ⟨b5, 1, none⟩ (.slice Qa fa.length qa)) = v5 at PBv5 KAv5 KBv5 K5v5 K6v5 Cav5 Cbv5 ⊢
          clear PBv4 KAv4 KBv4 K5v4 K6v4 Cav4 Cbv4
          refine hK.out _ _ ⟨(blk_cell KAv5.out 0).trans rfl, (blk_cell KAv5.out 1).trans rfl, (blk_cell KBv5.out 0).trans rfl, (blk_cell KBv5.out 1).trans rfl⟩ (fun hHeld => ?_)
          clear hK K
          refine one_ (i := 7) (N := none) #[true, true, true, true, true, true, true, true] rfl rfl (by kernel_rfl) (by decide) (fun K hK => ?_)
          have t0 : v5.cell? ⟨b6, 0, none⟩ = some (.slice none 0 0) := (blk_cell K6v5.out 0).trans rfl
          have t1 : v5.cell? ⟨b6, 1, none⟩ = some (.slice none 0 0) := (blk_cell K6v5.out 1).trans rfl
          have f0 := blk_frozen K6v5.out 0; have f1 := blk_frozen K6v5.out 1
          refine skip_ (w1 := ?_) (by rfl) rfl ?_ ?_
          rotate_left
          · go_simp
            rfl
          clear t0 t1 f0 f1
          have K6v6 : Hid (((v5.setCell ⟨b6, 0, none⟩ (.slice Pb rb.length pb)).setCell ⟨b6, 1, none⟩ (.slice Qb fb.length qb)).heap[b6]? = some (.cells #[.slice Pb rb.length pb, .slice Qb fb.length qb] 25 (0, 0))) := Lib.hid (blk_put (blk_put K6v5.out 0 _ rfl) 1 _ rfl)
          have K5v6 := Lib.hid (blk_far (p := ⟨b6, 1, none⟩) (blk_far (p := ⟨b6, 0, none⟩) K5v5.out N56.out (.slice Pb rb.length pb)) N56.out (.slice Qb fb.length qb))
          have KAv6 := Lib.hid (blk_far (p := ⟨b6, 1, none⟩) (blk_far (p := ⟨b6, 0, none⟩) KAv5.out GA6.out (.slice Pb rb.length pb)) GA6.out (.slice Qb fb.length qb))
          have KBv6 := Lib.hid (blk_far (p := ⟨b6, 1, none⟩) (blk_far (p := ⟨b6, 0, none⟩) KBv5.out GB6.out (.slice Pb rb.length pb)) GB6.out (.slice Qb fb.length qb))
          have PBv6 := Lib.hid (below_set (j := 1) (v := .slice Qb fb.length qb) (below_set (j := 0) (v := .slice Pb rb.length pb) PBv5.out L6.out) L6.out)
          have Cav6 : Hid (Kd.R k30 30 _ w.heap.size (fun _ => True) _ _ ∧ Kd.R k37 37 _ w.heap.size (fun _ => True) _ _) := Lib.hid (And.intro (Kd.R_mono (Kd.R_far (p := ⟨b6, 1, none⟩) (Kd.R_far (p := ⟨b6, 0, none⟩) (Kd.R_mono (Kd.R_types Cav5.out.1 K6v5.out (by decide)) (fun _ hk => hk.2)) (fun _ hk => hk) (.slice Pb rb.length pb)) (fun _ hk => hk) (.slice Qb fb.length qb)) (fun _ _ => trivial)) (Kd.R_mono (Kd.R_far (p := ⟨b6, 1, none⟩) (Kd.R_far (p := ⟨b6, 0, none⟩) (Kd.R_mono (Kd.R_types Cav5.out.2 K6v5.out (by decide)) (fun _ hk => hk.2)) (fun _ hk => hk) (.slice Pb rb.length pb)) (fun _ hk => hk) (.slice Qb fb.length qb)) (fun _ _ => trivial)))
          have Cbv6 : Hid (Kd.R k30 30 _ w.heap.size (fun _ => True) _ _ ∧ Kd.R k37 37 _ w.heap.size (fun _ => True) _ _) := Lib.hid (And.intro (Kd.R_mono (Kd.R_far (p := ⟨b6, 1, none⟩) (Kd.R_far (p := ⟨b6, 0, none⟩) (Kd.R_mono (Kd.R_types Cbv5.out.1 K6v5.out (by decide)) (fun _ hk => hk.2)) (fun _ hk => hk) (.slice Pb rb.length pb)) (fun _ hk => hk) (.slice Qb fb.length qb)) (fun _ _ => trivial)) (Kd.R_mono (Kd.R_far (p := ⟨b6, 1, none⟩) (Kd.R_far (p := ⟨b6, 0, none⟩) (Kd.R_mono (Kd.R_types Cbv5.out.2 K6v5.out (by decide)) (fun _ hk => hk.2)) (fun _ hk => hk) (.slice Pb rb.length pb)) (fun _ hk => hk) (.slice Qb fb.length qb)) (fun _ _ => trivial)))
          generalize ((v5.setCell ⟨b6, 0, none⟩ (.slice Pb rb.length pb)).setCell ⟨b6, 1, none⟩ (.slice Qb fb.length qb)) = v6 at PBv6 KAv6 KBv6 K5v6 K6v6 Cav6 Cbv6 ⊢
          clear PBv5 KAv5 KBv5 K5v5 K6v5 Cav5 Cbv5
          refine hK.out _ _ ⟨(blk_cell KAv6.out 0).trans rfl, (blk_cell KAv6.out 1).trans rfl, (blk_cell KBv6.out 0).trans rfl, (blk_cell KBv6.out 1).trans rfl⟩ (fun hHeld => ?_)
          clear hK K
          refine done_ (by kernel_rfl) ?_
          go_wp2_with fail
          go_meet
          exact ⟨b5, b6, Pa, pa, Qa, qa, Pb, pb, Qb, qb, rfl, rfl, K5v6, K6v6, KAv6, KBv6, Cav6, Cbv6, PBv6⟩
        · skip
          refine value_ (w1 := ?_) (v := ?_) (by rfl) rfl ?_ ?_
          rotate_left 2
          · go_simp
            constructor
            · rfl
            · rfl
          have hb : Below v2.heap.size v2 (v2.alloc (.cells #[.slice none 0 0, .slice none 0 0] 25)) := below_alloc (Below.refl _ _) _
          have K6v7 : Hid ((v2.alloc (.cells #[.slice none 0 0, .slice none 0 0] 25)).heap[v2.heap.size]? = some (.cells #[.slice none 0 0, .slice none 0 0] 25 (0, 0))) := Lib.hid (blk_new v2 _)
          have L6 : Hid (w.heap.size ≤ v2.heap.size) := Lib.hid PBv2.out.size
          have GA6 : Hid (w.heap.size ≠ v2.heap.size) := Lib.hid (Nat.ne_of_lt (blk_lt KAv2.out))
          have GB6 : Hid (w.heap.size + 1 ≠ v2.heap.size) := Lib.hid (Nat.ne_of_lt (blk_lt KBv2.out))
          have PBv7 := Lib.hid (PBv2.out.trans (hb.mono PBv2.out.size))
          have KAv7 := Lib.hid (blk_below KAv2.out hb)
          have KBv7 := Lib.hid (blk_below KBv2.out hb)
          have Cav7 := Lib.hid (And.intro (Kd.R_below Cav2.out.1 hb) (Kd.R_below Cav2.out.2 hb))
          have Cbv7 := Lib.hid (And.intro (Kd.R_below Cbv2.out.1 hb) (Kd.R_below Cbv2.out.2 hb))
          clear hb
          generalize v2.alloc (.cells #[.slice none 0 0, .slice none 0 0] 25) = v7 at PBv7 KAv7 KBv7 K6v7 Cav7 Cbv7 ⊢
          generalize v2.heap.size = b6 at K6v7 L6 GA6 GB6 ⊢
          clear PBv2 KAv2 KBv2 Cav2 Cbv2
          refine hK.out _ _ ⟨(blk_cell KAv7.out 0).trans rfl, (blk_cell KAv7.out 1).trans rfl, (blk_cell KBv7.out 0).trans rfl, (blk_cell KBv7.out 1).trans rfl⟩ (fun hHeld => ?_)
          clear hK K
          refine norm_ (a' := ?_) ?_ ?_
          rotate_left
          · show Act.put _ (some 6) _ = _
            simp only [Act.put, List.setIfInBounds_toArray, List.set_cons_zero, List.set_cons_succ]; rfl
          refine one_ (i := 4) (N := some 5) #[true, true, true, true, true, true, false, false] rfl rfl (by kernel_rfl) (by decide) (fun K hK => ?_)
          refine value_ (w1 := ?_) (v := ?_) (by rfl) rfl ?_ ?_
          rotate_left 2
          · go_simp
            constructor
            · rfl
            · rfl
          have hb : Below v7.heap.size v7 (v7.alloc (.cells #[.slice none 0 0, .slice none 0 0] 25)) := below_alloc (Below.refl _ _) _
          have K5v8 : Hid ((v7.alloc (.cells #[.slice none 0 0, .slice none 0 0] 25)).heap[v7.heap.size]? = some (.cells #[.slice none 0 0, .slice none 0 0] 25 (0, 0))) := Lib.hid (blk_new v7 _)
          have L5 : Hid (w.heap.size ≤ v7.heap.size) := Lib.hid PBv7.out.size
          have GA5 : Hid (w.heap.size ≠ v7.heap.size) := Lib.hid (Nat.ne_of_lt (blk_lt KAv7.out))
          have GB5 : Hid (w.heap.size + 1 ≠ v7.heap.size) := Lib.hid (Nat.ne_of_lt (blk_lt KBv7.out))
          have NQ : Hid (b6 ≠ v7.heap.size) := Lib.hid (Nat.ne_of_lt (blk_lt K6v7.out))
          have PBv8 := Lib.hid (PBv7.out.trans (hb.mono PBv7.out.size))
          have KAv8 := Lib.hid (blk_below KAv7.out hb)
          have KBv8 := Lib.hid (blk_below KBv7.out hb)
          have K6v8 := Lib.hid (blk_below K6v7.out hb)
          have Cav8 := Lib.hid (And.intro (Kd.R_below Cav7.out.1 hb) (Kd.R_below Cav7.out.2 hb))
          have Cbv8 := Lib.hid (And.intro (Kd.R_below Cbv7.out.1 hb) (Kd.R_below Cbv7.out.2 hb))
          clear hb
          generalize v7.alloc (.cells #[.slice none 0 0, .slice none 0 0] 25) = v8 at PBv8 KAv8 KBv8 K5v8 K6v8 Cav8 Cbv8 ⊢
          generalize v7.heap.size = b5 at K5v8 L5 GA5 GB5 NQ ⊢
          have N56 : Hid (b5 ≠ b6) := Lib.hid NQ.out.symm
          clear PBv7 KAv7 KBv7 K6v7 Cav7 Cbv7
          refine hK.out _ _ ⟨(blk_cell KAv8.out 0).trans rfl, (blk_cell KAv8.out 1).trans rfl, (blk_cell KBv8.out 0).trans rfl, (blk_cell KBv8.out 1).trans rfl⟩ (fun hHeld => ?_)
          clear hK K
          refine norm_ (a' := ?_) ?_ ?_
          rotate_left
          · show Act.put _ (some 5) _ = _
            simp only [Act.put, List.setIfInBounds_toArray, List.set_cons_zero, List.set_cons_succ]; rfl
          refine one_ (i := 6) (N := none) #[true, true, true, true, true, true, true, false] rfl rfl (by kernel_rfl) (by decide) (fun K hK => ?_)
          have t0 : v8.cell? ⟨b5, 0, none⟩ = some (.slice none 0 0) := (blk_cell K5v8.out 0).trans rfl
          have t1 : v8.cell? ⟨b5, 1, none⟩ = some (.slice none 0 0) := (blk_cell K5v8.out 1).trans rfl
          have f0 := blk_frozen K5v8.out 0; have f1 := blk_frozen K5v8.out 1
          refine skip_ (w1 := ?_) (by rfl) rfl ?_ ?_
          rotate_left
          · go_simp
            rfl
          clear t0 t1 f0 f1
          have K5v9 : Hid (((v8.setCell ⟨b5, 0, none⟩ (.slice Pa ra.length pa)).setCell ⟨b5, 1, none⟩ (.slice Qa fa.length qa)).heap[b5]? = some (.cells #[.slice Pa ra.length pa, .slice Qa fa.length qa] 25 (0, 0))) := Lib.hid (blk_put (blk_put K5v8.out 0 _ rfl) 1 _ rfl)
          have K6v9 := Lib.hid (blk_far (p := ⟨b5, 1, none⟩) (blk_far (p := ⟨b5, 0, none⟩) K6v8.out N56.out.symm (.slice Pa ra.length pa)) N56.out.symm (.slice Qa fa.length qa))
          have KAv9 := Lib.hid (blk_far (p := ⟨b5, 1, none⟩) (blk_far (p := ⟨b5, 0, none⟩) KAv8.out GA5.out (.slice Pa ra.length pa)) GA5.out (.slice Qa fa.length qa))
          have KBv9 := Lib.hid (blk_far (p := ⟨b5, 1, none⟩) (blk_far (p := ⟨b5, 0, none⟩) KBv8.out GB5.out (.slice Pa ra.length pa)) GB5.out (.slice Qa fa.length qa))
          have PBv9 := Lib.hid (below_set (j := 1) (v := .slice Qa fa.length qa) (below_set (j := 0) (v := .slice Pa ra.length pa) PBv8.out L5.out) L5.out)
          have Cav9 : Hid (Kd.R k30 30 _ w.heap.size (fun _ => True) _ _ ∧ Kd.R k37 37 _ w.heap.size (fun _ => True) _ _) := Lib.hid (And.intro (Kd.R_mono (Kd.R_far (p := ⟨b5, 1, none⟩) (Kd.R_far (p := ⟨b5, 0, none⟩) (Kd.R_mono (Kd.R_types Cav8.out.1 K5v8.out (by decide)) (fun _ hk => hk.2)) (fun _ hk => hk) (.slice Pa ra.length pa)) (fun _ hk => hk) (.slice Qa fa.length qa)) (fun _ _ => trivial)) (Kd.R_mono (Kd.R_far (p := ⟨b5, 1, none⟩) (Kd.R_far (p := ⟨b5, 0, none⟩) (Kd.R_mono (Kd.R_types Cav8.out.2 K5v8.out (by decide)) (fun _ hk => hk.2)) (fun _ hk => hk) (.slice Pa ra.length pa)) (fun _ hk => hk) (.slice Qa fa.length qa)) (fun _ _ => trivial)))
          have Cbv9 : Hid (Kd.R k30 30 _ w.heap.size (fun _ => True) _ _ ∧ Kd.R k37 37 _ w.heap.size (fun _ => True) _ _) := Lib.hid (And.intro (Kd.R_mono (Kd.R_far (p := ⟨b5, 1, none⟩) (Kd.R_far (p := ⟨b5, 0, none⟩) (Kd.R_mono (Kd.R_types Cbv8.out.1 K5v8.out (by decide)) (fun _ hk => hk.2)) (fun _ hk => hk) (.slice Pa ra.length pa)) (fun _ hk => hk) (.slice Qa fa.length qa)) (fun _ _ => trivial)) (Kd.R_mono (Kd.R_far (p := ⟨b5, 1, none⟩) (Kd.R_far (p := ⟨b5, 0, none⟩) (Kd.R_mono (Kd.R_types Cbv8.out.2 K5v8.out (by decide)) (fun _ hk => hk.2)) (fun _ hk => hk) (.slice Pa ra.length pa)) (fun _ hk => hk) (.slice Qa fa.length qa)) (fun _ _ => trivial)))
          generalize ((v8.setCell ⟨b5, 0, none⟩ (.slice Pa ra.length pa)).setCell ⟨b5, 1, none⟩ (.slice Qa fa.length qa)) = v9 at PBv9 KAv9 KBv9 K5v9 K6v9 Cav9 Cbv9 ⊢
          clear PBv8 KAv8 KBv8 K5v8 K6v8 Cav8 Cbv8
          refine hK.out _ _ ⟨(blk_cell KAv9.out 0).trans rfl, (blk_cell KAv9.out 1).trans rfl, (blk_cell KBv9.out 0).trans rfl, (blk_cell KBv9.out 1).trans rfl⟩ (fun hHeld => ?_)
          clear hK K
          refine one_ (i := 7) (N := none) #[true, true, true, true, true, true, true, true] rfl rfl (by kernel_rfl) (by decide) (fun K hK => ?_)
          have t0 : v9.cell? ⟨b6, 0, none⟩ = some (.slice none 0 0) := (blk_cell K6v9.out 0).trans rfl
          have t1 : v9.cell? ⟨b6, 1, none⟩ = some (.slice none 0 0) := (blk_cell K6v9.out 1).trans rfl
          have f0 := blk_frozen K6v9.out 0; have f1 := blk_frozen K6v9.out 1
          refine skip_ (w1 := ?_) (by rfl) rfl ?_ ?_
          rotate_left
          · go_simp
            rfl
          clear t0 t1 f0 f1
          have K6v10 : Hid (((v9.setCell ⟨b6, 0, none⟩ (.slice Pb rb.length pb)).setCell ⟨b6, 1, none⟩ (.slice Qb fb.length qb)).heap[b6]? = some (.cells #[.slice Pb rb.length pb, .slice Qb fb.length qb] 25 (0, 0))) := Lib.hid (blk_put (blk_put K6v9.out 0 _ rfl) 1 _ rfl)
          have K5v10 := Lib.hid (blk_far (p := ⟨b6, 1, none⟩) (blk_far (p := ⟨b6, 0, none⟩) K5v9.out N56.out (.slice Pb rb.length pb)) N56.out (.slice Qb fb.length qb))
          have KAv10 := Lib.hid (blk_far (p := ⟨b6, 1, none⟩) (blk_far (p := ⟨b6, 0, none⟩) KAv9.out GA6.out (.slice Pb rb.length pb)) GA6.out (.slice Qb fb.length qb))
          have KBv10 := Lib.hid (blk_far (p := ⟨b6, 1, none⟩) (blk_far (p := ⟨b6, 0, none⟩) KBv9.out GB6.out (.slice Pb rb.length pb)) GB6.out (.slice Qb fb.length qb))
          have PBv10 := Lib.hid (below_set (j := 1) (v := .slice Qb fb.length qb) (below_set (j := 0) (v := .slice Pb rb.length pb) PBv9.out L6.out) L6.out)
          have Cav10 : Hid (Kd.R k30 30 _ w.heap.size (fun _ => True) _ _ ∧ Kd.R k37 37 _ w.heap.size (fun _ => True) _ _) := Lib.hid (And.intro (Kd.R_mono (Kd.R_far (p := ⟨b6, 1, none⟩) (Kd.R_far (p := ⟨b6, 0, none⟩) (Kd.R_mono (Kd.R_types Cav9.out.1 K6v9.out (by decide)) (fun _ hk => hk.2)) (fun _ hk => hk) (.slice Pb rb.length pb)) (fun _ hk => hk) (.slice Qb fb.length qb)) (fun _ _ => trivial)) (Kd.R_mono (Kd.R_far (p := ⟨b6, 1, none⟩) (Kd.R_far (p := ⟨b6, 0, none⟩) (Kd.R_mono (Kd.R_types Cav9.out.2 K6v9.out (by decide)) (fun _ hk => hk.2)) (fun _ hk => hk) (.slice Pb rb.length pb)) (fun _ hk => hk) (.slice Qb fb.length qb)) (fun _ _ => trivial)))
          have Cbv10 : Hid (Kd.R k30 30 _ w.heap.size (fun _ => True) _ _ ∧ Kd.R k37 37 _ w.heap.size (fun _ => True) _ _) := Lib.hid (And.intro (Kd.R_mono (Kd.R_far (p := ⟨b6, 1, none⟩) (Kd.R_far (p := ⟨b6, 0, none⟩) (Kd.R_mono (Kd.R_types Cbv9.out.1 K6v9.out (by decide)) (fun _ hk => hk.2)) (fun _ hk => hk) (.slice Pb rb.length pb)) (fun _ hk => hk) (.slice Qb fb.length qb)) (fun _ _ => trivial)) (Kd.R_mono (Kd.R_far (p := ⟨b6, 1, none⟩) (Kd.R_far (p := ⟨b6, 0, none⟩) (Kd.R_mono (Kd.R_types Cbv9.out.2 K6v9.out (by decide)) (fun _ hk => hk.2)) (fun _ hk => hk) (.slice Pb rb.length pb)) (fun _ hk => hk) (.slice Qb fb.length qb)) (fun _ _ => trivial)))
          generalize ((v9.setCell ⟨b6, 0, none⟩ (.slice Pb rb.length pb)).setCell ⟨b6, 1, none⟩ (.slice Qb fb.length qb)) = v10 at PBv10 KAv10 KBv10 K5v10 K6v10 Cav10 Cbv10 ⊢
          clear PBv9 KAv9 KBv9 K5v9 K6v9 Cav9 Cbv9
          refine hK.out _ _ ⟨(blk_cell KAv10.out 0).trans rfl, (blk_cell KAv10.out 1).trans rfl, (blk_cell KBv10.out 0).trans rfl, (blk_cell KBv10.out 1).trans rfl⟩ (fun hHeld => ?_)
          clear hK K
          refine done_ (by kernel_rfl) ?_
          go_wp2_with fail
          go_meet
          exact ⟨b5, b6, Pa, pa, Qa, qa, Pb, pb, Qb, qb, rfl, rfl, K5v10, K6v10, KAv10, KBv10, Cav10, Cbv10, PBv10⟩
      · skip
        refine value_ (w1 := ?_) (v := ?_) (by rfl) rfl ?_ ?_
        rotate_left 2
        · go_simp
          constructor
          · rfl
          · rfl
        have hb : Below v1.heap.size v1 (v1.alloc (.cells #[.slice none 0 0, .slice none 0 0] 25)) := below_alloc (Below.refl _ _) _
        have K5v11 : Hid ((v1.alloc (.cells #[.slice none 0 0, .slice none 0 0] 25)).heap[v1.heap.size]? = some (.cells #[.slice none 0 0, .slice none 0 0] 25 (0, 0))) := Lib.hid (blk_new v1 _)
        have L5 : Hid (w.heap.size ≤ v1.heap.size) := Lib.hid PBv1.out.size
        have GA5 : Hid (w.heap.size ≠ v1.heap.size) := Lib.hid (Nat.ne_of_lt (blk_lt KAv1.out))
        have GB5 : Hid (w.heap.size + 1 ≠ v1.heap.size) := Lib.hid (Nat.ne_of_lt (blk_lt KBv1.out))
        have PBv11 := Lib.hid (PBv1.out.trans (hb.mono PBv1.out.size))
        have KAv11 := Lib.hid (blk_below KAv1.out hb)
        have KBv11 := Lib.hid (blk_below KBv1.out hb)
        have Cav11 := Lib.hid (And.intro (Kd.R_below Cav1.out.1 hb) (Kd.R_below Cav1.out.2 hb))
        clear hb
        generalize v1.alloc (.cells #[.slice none 0 0, .slice none 0 0] 25) = v11 at PBv11 KAv11 KBv11 K5v11 Cav11 ⊢
        generalize v1.heap.size = b5 at K5v11 L5 GA5 GB5 ⊢
        clear PBv1 KAv1 KBv1 Cav1
        refine hK.out _ _ ⟨(blk_cell KAv11.out 0).trans rfl, (blk_cell KAv11.out 1).trans rfl, (blk_cell KBv11.out 0).trans rfl, (blk_cell KBv11.out 1).trans rfl⟩ (fun hHeld => ?_)
        clear hK K
        refine norm_ (a' := ?_) ?_ ?_
        rotate_left
        · show Act.put _ (some 5) _ = _
          simp only [Act.put, List.setIfInBounds_toArray, List.set_cons_zero, List.set_cons_succ]; rfl
        refine two_ (i := 3) (j := 5) #[true, true, true, true, true, false, false, false] #[true, true, true, false, true, true, false, false] rfl rfl (by rfl) (by rfl) (by kernel_rfl) (by decide) (by decide) (fun K hK => ?_) (fun K hK => ?_)
        · skip
          refine goes_ Try.func4 (by kernel_rfl) rfl #[.agg #[.slice Br rb.length dr, .slice Bf fb.length df]] (by rfl) rfl rfl (by simp only [List.map_toArray, List.map_cons, List.map_nil]; rfl) ?_
          refine (HCB.out v11 PBv11.out).mono ?_
          rintro e v12 ⟨Pb, pb, Qb, qb, rfl, u1, u2, hb⟩
          refine ⟨_, rfl, ?_⟩
          have PBv12 := Lib.hid (PBv11.out.trans (hb.mono PBv11.out.size))
          have KAv12 := Lib.hid (blk_below KAv11.out hb)
          have KBv12 := Lib.hid (blk_below KBv11.out hb)
          have K5v12 := Lib.hid (blk_below K5v11.out hb)
          have Cav12 := Lib.hid (And.intro (Kd.R_below Cav11.out.1 hb) (Kd.R_below Cav11.out.2 hb))
          have Cbv12 := Lib.hid (And.intro (Kd.R_lower u1 PBv11.out.size) (Kd.R_lower u2 PBv11.out.size))
          clear hb u1 u2
          clear PBv11 KAv11 KBv11 K5v11 Cav11
          refine hK.out _ _ ⟨(blk_cell KAv12.out 0).trans rfl, (blk_cell KAv12.out 1).trans rfl, (blk_cell KBv12.out 0).trans rfl, (blk_cell KBv12.out 1).trans rfl⟩ (fun hHeld => ?_)
          clear hK K
          refine norm_ (a' := ?_) ?_ ?_
          rotate_left
          · show Act.put _ (some 10) _ = _
            simp only [Act.put, List.setIfInBounds_toArray, List.set_cons_zero, List.set_cons_succ]; rfl
          refine one_ (i := 5) (N := some 6) #[true, true, true, true, true, true, false, false] rfl rfl (by kernel_rfl) (by decide) (fun K hK => ?_)
          refine value_ (w1 := ?_) (v := ?_) (by rfl) rfl ?_ ?_
          rotate_left 2
          · go_simp
            constructor
            · rfl
            · rfl
          have hb : Below v12.heap.size v12 (v12.alloc (.cells #[.slice none 0 0, .slice none 0 0] 25)) := below_alloc (Below.refl _ _) _
          have K6v13 : Hid ((v12.alloc (.cells #[.slice none 0 0, .slice none 0 0] 25)).heap[v12.heap.size]? = some (.cells #[.slice none 0 0, .slice none 0 0] 25 (0, 0))) := Lib.hid (blk_new v12 _)
          have L6 : Hid (w.heap.size ≤ v12.heap.size) := Lib.hid PBv12.out.size
          have GA6 : Hid (w.heap.size ≠ v12.heap.size) := Lib.hid (Nat.ne_of_lt (blk_lt KAv12.out))
          have GB6 : Hid (w.heap.size + 1 ≠ v12.heap.size) := Lib.hid (Nat.ne_of_lt (blk_lt KBv12.out))
          have NQ : Hid (b5 ≠ v12.heap.size) := Lib.hid (Nat.ne_of_lt (blk_lt K5v12.out))
          have PBv13 := Lib.hid (PBv12.out.trans (hb.mono PBv12.out.size))
          have KAv13 := Lib.hid (blk_below KAv12.out hb)
          have KBv13 := Lib.hid (blk_below KBv12.out hb)
          have K5v13 := Lib.hid (blk_below K5v12.out hb)
          have Cav13 := Lib.hid (And.intro (Kd.R_below Cav12.out.1 hb) (Kd.R_below Cav12.out.2 hb))
          have Cbv13 := Lib.hid (And.intro (Kd.R_below Cbv12.out.1 hb) (Kd.R_below Cbv12.out.2 hb))
          clear hb
          generalize v12.alloc (.cells #[.slice none 0 0, .slice none 0 0] 25) = v13 at PBv13 KAv13 KBv13 K6v13 K5v13 Cav13 Cbv13 ⊢
          generalize v12.heap.size = b6 at K6v13 L6 GA6 GB6 NQ ⊢
          have N56 : Hid (b5 ≠ b6) := Lib.hid NQ.out
          clear PBv12 KAv12 KBv12 K5v12 Cav12 Cbv12
          refine hK.out _ _ ⟨(blk_cell KAv13.out 0).trans rfl, (blk_cell KAv13.out 1).trans rfl, (blk_cell KBv13.out 0).trans rfl, (blk_cell KBv13.out 1).trans rfl⟩ (fun hHeld => ?_)
          clear hK K
          refine norm_ (a' := ?_) ?_ ?_
          rotate_left
          · show Act.put _ (some 6) _ = _
            simp only [Act.put, List.setIfInBounds_toArray, List.set_cons_zero, List.set_cons_succ]; rfl
          refine one_ (i := 6) (N := none) #[true, true, true, true, true, true, true, false] rfl rfl (by kernel_rfl) (by decide) (fun K hK => ?_)
          have t0 : v13.cell? ⟨b5, 0, none⟩ = some (.slice none 0 0) := (blk_cell K5v13.out 0).trans rfl
          have t1 : v13.cell? ⟨b5, 1, none⟩ = some (.slice none 0 0) := (blk_cell K5v13.out 1).trans rfl
          have f0 := blk_frozen K5v13.out 0; have f1 := blk_frozen K5v13.out 1
          refine skip_ (w1 := ?_) (by rfl) rfl ?_ ?_
          rotate_left
          · go_simp
            rfl
          clear t0 t1 f0 f1
          have K5v14 : Hid (((v13.setCell ⟨b5, 0, none⟩ (.slice Pa ra.length pa)).setCell ⟨b5, 1, none⟩ (.slice Qa fa.length qa)).heap[b5]? = some (.cells #[.slice Pa ra.length pa, .slice Qa fa.length qa] 25 (0, 0))) := Lib.hid (blk_put (blk_put K5v13.out 0 _ rfl) 1 _ rfl)
          have K6v14 := Lib.hid (blk_far (p := ⟨b5, 1, none⟩) (blk_far (p := ⟨b5, 0, none⟩) K6v13.out N56.out.symm (.slice Pa ra.length pa)) N56.out.symm (.slice Qa fa.length qa))
          have KAv14 := Lib.hid (blk_far (p := ⟨b5, 1, none⟩) (blk_far (p := ⟨b5, 0, none⟩) KAv13.out GA5.out (.slice Pa ra.length pa)) GA5.out (.slice Qa fa.length qa))
          have KBv14 := Lib.hid (blk_far (p := ⟨b5, 1, none⟩) (blk_far (p := ⟨b5, 0, none⟩) KBv13.out GB5.out (.slice Pa ra.length pa)) GB5.out (.slice Qa fa.length qa))
          have PBv14 := Lib.hid (below_set (j := 1) (v := .slice Qa fa.length qa) (below_set (j := 0) (v := .slice Pa ra.length pa) PBv13.out L5.out) L5.out)
          have Cav14 : Hid (Kd.R k30 30 _ w.heap.size (fun _ => True) _ _ ∧ Kd.R k37 37 _ w.heap.size (fun _ => True) _ _) := Lib.hid (And.intro (Kd.R_mono (Kd.R_far (p := ⟨b5, 1, none⟩) (Kd.R_far (p := ⟨b5, 0, none⟩) (Kd.R_mono (Kd.R_types Cav13.out.1 K5v13.out (by decide)) (fun _ hk => hk.2)) (fun _ hk => hk) (.slice Pa ra.length pa)) (fun _ hk => hk) (.slice Qa fa.length qa)) (fun _ _ => trivial)) (Kd.R_mono (Kd.R_far (p := ⟨b5, 1, none⟩) (Kd.R_far (p := ⟨b5, 0, none⟩) (Kd.R_mono (Kd.R_types Cav13.out.2 K5v13.out (by decide)) (fun _ hk => hk.2)) (fun _ hk => hk) (.slice Pa ra.length pa)) (fun _ hk => hk) (.slice Qa fa.length qa)) (fun _ _ => trivial)))
          have Cbv14 : Hid (Kd.R k30 30 _ w.heap.size (fun _ => True) _ _ ∧ Kd.R k37 37 _ w.heap.size (fun _ => True) _ _) := Lib.hid (And.intro (Kd.R_mono (Kd.R_far (p := ⟨b5, 1, none⟩) (Kd.R_far (p := ⟨b5, 0, none⟩) (Kd.R_mono (Kd.R_types Cbv13.out.1 K5v13.out (by decide)) (fun _ hk => hk.2)) (fun _ hk => hk) (.slice Pa ra.length pa)) (fun _ hk => hk) (.slice Qa fa.length qa)) (fun _ _ => trivial)) (Kd.R_mono (Kd.R_far (p := ⟨b5, 1, none⟩) (Kd.R_far (p := ⟨b5, 0, none⟩) (Kd.R_mono (Kd.R_types Cbv13.out.2 K5v13.out (by decide)) (fun _ hk => hk.2)) (fun _ hk => hk) (.slice Pa ra.length pa)) (fun _ hk => hk) (.slice Qa fa.length qa)) (fun _ _ => trivial)))
          generalize ((v13.setCell ⟨b5, 0, none⟩ (.slice Pa ra.length pa)).setCell ⟨b5, 1, none⟩ (.slice Qa fa.length qa)) = v14 at PBv14 KAv14 KBv14 K5v14 K6v14 Cav14 Cbv14 ⊢
          clear PBv13 KAv13 KBv13 K5v13 K6v13 Cav13 Cbv13
          refine hK.out _ _ ⟨(blk_cell KAv14.out 0).trans rfl, (blk_cell KAv14.out 1).trans rfl, (blk_cell KBv14.out 0).trans rfl, (blk_cell KBv14.out 1).trans rfl⟩ (fun hHeld => ?_)
          clear hK K
          refine one_ (i := 7) (N := none) #[true, true, true, true, true, true, true, true] rfl rfl (by kernel_rfl) (by decide) (fun K hK => ?_)
          have t0 : v14.cell? ⟨b6, 0, none⟩ = some (.slice none 0 0) := (blk_cell K6v14.out 0).trans rfl
          have t1 : v14.cell? ⟨b6, 1, none⟩ = some (.slice none 0 0) := (blk_cell K6v14.out 1).trans rfl
          have f0 := blk_frozen K6v14.out 0; have f1 := blk_frozen K6v14.out 1
          refine skip_ (w1 := ?_) (by rfl) rfl ?_ ?_
          rotate_left
          · go_simp
            rfl
          clear t0 t1 f0 f1
          have K6v15 : Hid (((v14.setCell ⟨b6, 0, none⟩ (.slice Pb rb.length pb)).setCell ⟨b6, 1, none⟩ (.slice Qb fb.length qb)).heap[b6]? = some (.cells #[.slice Pb rb.length pb, .slice Qb fb.length qb] 25 (0, 0))) := Lib.hid (blk_put (blk_put K6v14.out 0 _ rfl) 1 _ rfl)
          have K5v15 := Lib.hid (blk_far (p := ⟨b6, 1, none⟩) (blk_far (p := ⟨b6, 0, none⟩) K5v14.out N56.out (.slice Pb rb.length pb)) N56.out (.slice Qb fb.length qb))
          have KAv15 := Lib.hid (blk_far (p := ⟨b6, 1, none⟩) (blk_far (p := ⟨b6, 0, none⟩) KAv14.out GA6.out (.slice Pb rb.length pb)) GA6.out (.slice Qb fb.length qb))
          have KBv15 := Lib.hid (blk_far (p := ⟨b6, 1, none⟩) (blk_far (p := ⟨b6, 0, none⟩) KBv14.out GB6.out (.slice Pb rb.length pb)) GB6.out (.slice Qb fb.length qb))
          have PBv15 := Lib.hid (below_set (j := 1) (v := .slice Qb fb.length qb) (below_set (j := 0) (v := .slice Pb rb.length pb) PBv14.out L6.out) L6.out)
          have Cav15 : Hid (Kd.R k30 30 _ w.heap.size (fun _ => True) _ _ ∧ Kd.R k37 37 _ w.heap.size (fun _ => True) _ _) := Lib.hid (And.intro (Kd.R_mono (Kd.R_far (p := ⟨b6, 1, none⟩) (Kd.R_far (p := ⟨b6, 0, none⟩) (Kd.R_mono (Kd.R_types Cav14.out.1 K6v14.out (by decide)) (fun _ hk => hk.2)) (fun _ hk => hk) (.slice Pb rb.length pb)) (fun _ hk => hk) (.slice Qb fb.length qb)) (fun _ _ => trivial)) (Kd.R_mono (Kd.R_far (p := ⟨b6, 1, none⟩) (Kd.R_far (p := ⟨b6, 0, none⟩) (Kd.R_mono (Kd.R_types Cav14.out.2 K6v14.out (by decide)) (fun _ hk => hk.2)) (fun _ hk => hk) (.slice Pb rb.length pb)) (fun _ hk => hk) (.slice Qb fb.length qb)) (fun _ _ => trivial)))
          have Cbv15 : Hid (Kd.R k30 30 _ w.heap.size (fun _ => True) _ _ ∧ Kd.R k37 37 _ w.heap.size (fun _ => True) _ _) := Lib.hid (And.intro (Kd.R_mono (Kd.R_far (p := ⟨b6, 1, none⟩) (Kd.R_far (p := ⟨b6, 0, none⟩) (Kd.R_mono (Kd.R_types Cbv14.out.1 K6v14.out (by decide)) (fun _ hk => hk.2)) (fun _ hk => hk) (.slice Pb rb.length pb)) (fun _ hk => hk) (.slice Qb fb.length qb)) (fun _ _ => trivial)) (Kd.R_mono (Kd.R_far (p := ⟨b6, 1, none⟩) (Kd.R_far (p := ⟨b6, 0, none⟩) (Kd.R_mono (Kd.R_types Cbv14.out.2 K6v14.out (by decide)) (fun _ hk => hk.2)) (fun _ hk => hk) (.slice Pb rb.length pb)) (fun _ hk => hk) (.slice Qb fb.length qb)) (fun _ _ => trivial)))
          generalize ((v14.setCell ⟨b6, 0, none⟩ (.slice Pb rb.length pb)).setCell ⟨b6, 1, none⟩ (.slice Qb fb.length qb)) = v15 at PBv15 KAv15 KBv15 K5v15 K6v15 Cav15 Cbv15 ⊢
          clear PBv14 KAv14 KBv14 K5v14 K6v14 Cav14 Cbv14
          refine hK.out _ _ ⟨(blk_cell KAv15.out 0).trans rfl, (blk_cell KAv15.out 1).trans rfl, (blk_cell KBv15.out 0).trans rfl, (blk_cell KBv15.out 1).trans rfl⟩ (fun hHeld => ?_)
          clear hK K
          refine done_ (by kernel_rfl) ?_
          go_wp2_with fail
          go_meet
          exact ⟨b5, b6, Pa, pa, Qa, qa, Pb, pb, Qb, qb, rfl, rfl, K5v15, K6v15, KAv15, KBv15, Cav15, Cbv15, PBv15⟩
        · skip
          refine value_ (w1 := ?_) (v := ?_) (by rfl) rfl ?_ ?_
          rotate_left 2
          · go_simp
            constructor
            · rfl
            · rfl
          have hb : Below v11.heap.size v11 (v11.alloc (.cells #[.slice none 0 0, .slice none 0 0] 25)) := below_alloc (Below.refl _ _) _
          have K6v16 : Hid ((v11.alloc (.cells #[.slice none 0 0, .slice none 0 0] 25)).heap[v11.heap.size]? = some (.cells #[.slice none 0 0, .slice none 0 0] 25 (0, 0))) := Lib.hid (blk_new v11 _)
          have L6 : Hid (w.heap.size ≤ v11.heap.size) := Lib.hid PBv11.out.size
          have GA6 : Hid (w.heap.size ≠ v11.heap.size) := Lib.hid (Nat.ne_of_lt (blk_lt KAv11.out))
          have GB6 : Hid (w.heap.size + 1 ≠ v11.heap.size) := Lib.hid (Nat.ne_of_lt (blk_lt KBv11.out))
          have NQ : Hid (b5 ≠ v11.heap.size) := Lib.hid (Nat.ne_of_lt (blk_lt K5v11.out))
          have PBv16 := Lib.hid (PBv11.out.trans (hb.mono PBv11.out.size))
          have KAv16 := Lib.hid (blk_below KAv11.out hb)
          have KBv16 := Lib.hid (blk_below KBv11.out hb)
          have K5v16 := Lib.hid (blk_below K5v11.out hb)
          have Cav16 := Lib.hid (And.intro (Kd.R_below Cav11.out.1 hb) (Kd.R_below Cav11.out.2 hb))
          clear hb
          generalize v11.alloc (.cells #[.slice none 0 0, .slice none 0 0] 25) = v16 at PBv16 KAv16 KBv16 K6v16 K5v16 Cav16 ⊢
          generalize v11.heap.size = b6 at K6v16 L6 GA6 GB6 NQ ⊢
          have N56 : Hid (b5 ≠ b6) := Lib.hid NQ.out
          clear PBv11 KAv11 KBv11 K5v11 Cav11
          refine hK.out _ _ ⟨(blk_cell KAv16.out 0).trans rfl, (blk_cell KAv16.out 1).trans rfl, (blk_cell KBv16.out 0).trans rfl, (blk_cell KBv16.out 1).trans rfl⟩ (fun hHeld => ?_)
          clear hK K
          refine norm_ (a' := ?_) ?_ ?_
          rotate_left
          · show Act.put _ (some 6) _ = _
            simp only [Act.put, List.setIfInBounds_toArray, List.set_cons_zero, List.set_cons_succ]; rfl
          refine one_ (i := 3) (N := some 10) #[true, true, true, true, true, true, false, false] rfl rfl (by kernel_rfl) (by decide) (fun K hK => ?_)
          refine goes_ Try.func4 (by kernel_rfl) rfl #[.agg #[.slice Br rb.length dr, .slice Bf fb.length df]] (by rfl) rfl rfl (by simp only [List.map_toArray, List.map_cons, List.map_nil]; rfl) ?_
          refine (HCB.out v16 PBv16.out).mono ?_
          rintro e v17 ⟨Pb, pb, Qb, qb, rfl, u1, u2, hb⟩
          refine ⟨_, rfl, ?_⟩
          have PBv17 := Lib.hid (PBv16.out.trans (hb.mono PBv16.out.size))
          have KAv17 := Lib.hid (blk_below KAv16.out hb)
          have KBv17 := Lib.hid (blk_below KBv16.out hb)
          have K5v17 := Lib.hid (blk_below K5v16.out hb)
          have K6v17 := Lib.hid (blk_below K6v16.out hb)
          have Cav17 := Lib.hid (And.intro (Kd.R_below Cav16.out.1 hb) (Kd.R_below Cav16.out.2 hb))
          have Cbv17 := Lib.hid (And.intro (Kd.R_lower u1 PBv16.out.size) (Kd.R_lower u2 PBv16.out.size))
          clear hb u1 u2
          clear PBv16 KAv16 KBv16 K5v16 K6v16 Cav16
          refine hK.out _ _ ⟨(blk_cell KAv17.out 0).trans rfl, (blk_cell KAv17.out 1).trans rfl, (blk_cell KBv17.out 0).trans rfl, (blk_cell KBv17.out 1).trans rfl⟩ (fun hHeld => ?_)
          clear hK K
          refine norm_ (a' := ?_) ?_ ?_
          rotate_left
          · show Act.put _ (some 10) _ = _
            simp only [Act.put, List.setIfInBounds_toArray, List.set_cons_zero, List.set_cons_succ]; rfl
          refine one_ (i := 6) (N := none) #[true, true, true, true, true, true, true, false] rfl rfl (by kernel_rfl) (by decide) (fun K hK => ?_)
          have t0 : v17.cell? ⟨b5, 0, none⟩ = some (.slice none 0 0) := (blk_cell K5v17.out 0).trans rfl
          have t1 : v17.cell? ⟨b5, 1, none⟩ = some (.slice none 0 0) := (blk_cell K5v17.out 1).trans rfl
          have f0 := blk_frozen K5v17.out 0; have f1 := blk_frozen K5v17.out 1
          refine skip_ (w1 := ?_) (by rfl) rfl ?_ ?_
          rotate_left
          · go_simp
            rfl
          clear t0 t1 f0 f1
          have K5v18 : Hid (((v17.setCell ⟨b5, 0, none⟩ (.slice Pa ra.length pa)).setCell ⟨b5, 1, none⟩ (.slice Qa fa.length qa)).heap[b5]? = some (.cells #[.slice Pa ra.length pa, .slice Qa fa.length qa] 25 (0, 0))) := Lib.hid (blk_put (blk_put K5v17.out 0 _ rfl) 1 _ rfl)
          have K6v18 := Lib.hid (blk_far (p := ⟨b5, 1, none⟩) (blk_far (p := ⟨b5, 0, none⟩) K6v17.out N56.out.symm (.slice Pa ra.length pa)) N56.out.symm (.slice Qa fa.length qa))
          have KAv18 := Lib.hid (blk_far (p := ⟨b5, 1, none⟩) (blk_far (p := ⟨b5, 0, none⟩) KAv17.out GA5.out (.slice Pa ra.length pa)) GA5.out (.slice Qa fa.length qa))
          have KBv18 := Lib.hid (blk_far (p := ⟨b5, 1, none⟩) (blk_far (p := ⟨b5, 0, none⟩) KBv17.out GB5.out (.slice Pa ra.length pa)) GB5.out (.slice Qa fa.length qa))
          have PBv18 := Lib.hid (below_set (j := 1) (v := .slice Qa fa.length qa) (below_set (j := 0) (v := .slice Pa ra.length pa) PBv17.out L5.out) L5.out)
          have Cav18 : Hid (Kd.R k30 30 _ w.heap.size (fun _ => True) _ _ ∧ Kd.R k37 37 _ w.heap.size (fun _ => True) _ _) := Lib.hid (And.intro (Kd.R_mono (Kd.R_far (p := ⟨b5, 1, none⟩) (Kd.R_far (p := ⟨b5, 0, none⟩) (Kd.R_mono (Kd.R_types Cav17.out.1 K5v17.out (by decide)) (fun _ hk => hk.2)) (fun _ hk => hk) (.slice Pa ra.length pa)) (fun _ hk => hk) (.slice Qa fa.length qa)) (fun _ _ => trivial)) (Kd.R_mono (Kd.R_far (p := ⟨b5, 1, none⟩) (Kd.R_far (p := ⟨b5, 0, none⟩) (Kd.R_mono (Kd.R_types Cav17.out.2 K5v17.out (by decide)) (fun _ hk => hk.2)) (fun _ hk => hk) (.slice Pa ra.length pa)) (fun _ hk => hk) (.slice Qa fa.length qa)) (fun _ _ => trivial)))
          have Cbv18 : Hid (Kd.R k30 30 _ w.heap.size (fun _ => True) _ _ ∧ Kd.R k37 37 _ w.heap.size (fun _ => True) _ _) := Lib.hid (And.intro (Kd.R_mono (Kd.R_far (p := ⟨b5, 1, none⟩) (Kd.R_far (p := ⟨b5, 0, none⟩) (Kd.R_mono (Kd.R_types Cbv17.out.1 K5v17.out (by decide)) (fun _ hk => hk.2)) (fun _ hk => hk) (.slice Pa ra.length pa)) (fun _ hk => hk) (.slice Qa fa.length qa)) (fun _ _ => trivial)) (Kd.R_mono (Kd.R_far (p := ⟨b5, 1, none⟩) (Kd.R_far (p := ⟨b5, 0, none⟩) (Kd.R_mono (Kd.R_types Cbv17.out.2 K5v17.out (by decide)) (fun _ hk => hk.2)) (fun _ hk => hk) (.slice Pa ra.length pa)) (fun _ hk => hk) (.slice Qa fa.length qa)) (fun _ _ => trivial)))
          generalize ((v17.setCell ⟨b5, 0, none⟩ (.slice Pa ra.length pa)).setCell ⟨b5, 1, none⟩ (.slice Qa fa.length qa)) = v18 at PBv18 KAv18 KBv18 K5v18 K6v18 Cav18 Cbv18 ⊢
          clear PBv17 KAv17 KBv17 K5v17 K6v17 Cav17 Cbv17
          refine hK.out _ _ ⟨(blk_cell KAv18.out 0).trans rfl, (blk_cell KAv18.out 1).trans rfl, (blk_cell KBv18.out 0).trans rfl, (blk_cell KBv18.out 1).trans rfl⟩ (fun hHeld => ?_)
          clear hK K
          refine one_ (i := 7) (N := none) #[true, true, true, true, true, true, true, true] rfl rfl (by kernel_rfl) (by decide) (fun K hK => ?_)
          have t0 : v18.cell? ⟨b6, 0, none⟩ = some (.slice none 0 0) := (blk_cell K6v18.out 0).trans rfl
          have t1 : v18.cell? ⟨b6, 1, none⟩ = some (.slice none 0 0) := (blk_cell K6v18.out 1).trans rfl
          have f0 := blk_frozen K6v18.out 0; have f1 := blk_frozen K6v18.out 1
          refine skip_ (w1 := ?_) (by rfl) rfl ?_ ?_
          rotate_left
          · go_simp
            rfl
          clear t0 t1 f0 f1
          have K6v19 : Hid (((v18.setCell ⟨b6, 0, none⟩ (.slice Pb rb.length pb)).setCell ⟨b6, 1, none⟩ (.slice Qb fb.length qb)).heap[b6]? = some (.cells #[.slice Pb rb.length pb, .slice Qb fb.length qb] 25 (0, 0))) := Lib.hid (blk_put (blk_put K6v18.out 0 _ rfl) 1 _ rfl)
          have K5v19 := Lib.hid (blk_far (p := ⟨b6, 1, none⟩) (blk_far (p := ⟨b6, 0, none⟩) K5v18.out N56.out (.slice Pb rb.length pb)) N56.out (.slice Qb fb.length qb))
          have KAv19 := Lib.hid (blk_far (p := ⟨b6, 1, none⟩) (blk_far (p := ⟨b6, 0, none⟩) KAv18.out GA6.out (.slice Pb rb.length pb)) GA6.out (.slice Qb fb.length qb))
          have KBv19 := Lib.hid (blk_far (p := ⟨b6, 1, none⟩) (blk_far (p := ⟨b6, 0, none⟩) KBv18.out GB6.out (.slice Pb rb.length pb)) GB6.out (.slice Qb fb.length qb))
          have PBv19 := Lib.hid (below_set (j := 1) (v := .slice Qb fb.length qb) (below_set (j := 0) (v := .slice Pb rb.length pb) PBv18.out L6.out) L6.out)
          have Cav19 : Hid (Kd.R k30 30 _ w.heap.size (fun _ => True) _ _ ∧ Kd.R k37 37 _ w.heap.size (fun _ => True) _ _) := Lib.hid (And.intro (Kd.R_mono (Kd.R_far (p := ⟨b6, 1, none⟩) (Kd.R_far (p := ⟨b6, 0, none⟩) (Kd.R_mono (Kd.R_types Cav18.out.1 K6v18.out (by decide)) (fun _ hk => hk.2)) (fun _ hk => hk) (.slice Pb rb.length pb)) (fun _ hk => hk) (.slice Qb fb.length qb)) (fun _ _ => trivial)) (Kd.R_mono (Kd.R_far (p := ⟨b6, 1, none⟩) (Kd.R_far (p := ⟨b6, 0, none⟩) (Kd.R_mono (Kd.R_types Cav18.out.2 K6v18.out (by decide)) (fun _ hk => hk.2)) (fun _ hk => hk) (.slice Pb rb.length pb)) (fun _ hk => hk) (.slice Qb fb.length qb)) (fun _ _ => trivial)))
          have Cbv19 : Hid (Kd.R k30 30 _ w.heap.size (fun _ => True) _ _ ∧ Kd.R k37 37 _ w.heap.size (fun _ => True) _ _) := Lib.hid (And.intro (Kd.R_mono (Kd.R_far (p := ⟨b6, 1, none⟩) (Kd.R_far (p := ⟨b6, 0, none⟩) (Kd.R_mono (Kd.R_types Cbv18.out.1 K6v18.out (by decide)) (fun _ hk => hk.2)) (fun _ hk => hk) (.slice Pb rb.length pb)) (fun _ hk => hk) (.slice Qb fb.length qb)) (fun _ _ => trivial)) (Kd.R_mono (Kd.R_far (p := ⟨b6, 1, none⟩) (Kd.R_far (p := ⟨b6, 0, none⟩) (Kd.R_mono (Kd.R_types Cbv18.out.2 K6v18.out (by decide)) (fun _ hk => hk.2)) (fun _ hk => hk) (.slice Pb rb.length pb)) (fun _ hk => hk) (.slice Qb fb.length qb)) (fun _ _ => trivial)))
          generalize ((v18.setCell ⟨b6, 0, none⟩ (.slice Pb rb.length pb)).setCell ⟨b6, 1, none⟩ (.slice Qb fb.length qb)) = v19 at PBv19 KAv19 KBv19 K5v19 K6v19 Cav19 Cbv19 ⊢
          clear PBv18 KAv18 KBv18 K5v18 K6v18 Cav18 Cbv18
          refine hK.out _ _ ⟨(blk_cell KAv19.out 0).trans rfl, (blk_cell KAv19.out 1).trans rfl, (blk_cell KBv19.out 0).trans rfl, (blk_cell KBv19.out 1).trans rfl⟩ (fun hHeld => ?_)
          clear hK K
          refine done_ (by kernel_rfl) ?_
          go_wp2_with fail
          go_meet
          exact ⟨b5, b6, Pa, pa, Qa, qa, Pb, pb, Qb, qb, rfl, rfl, K5v19, K6v19, KAv19, KBv19, Cav19, Cbv19, PBv19⟩
      · skip
        refine value_ (w1 := ?_) (v := ?_) (by rfl) rfl ?_ ?_
        rotate_left 2
        · go_simp
          constructor
          · rfl
          · rfl
        have hb : Below v1.heap.size v1 (v1.alloc (.cells #[.slice none 0 0, .slice none 0 0] 25)) := below_alloc (Below.refl _ _) _
        have K6v20 : Hid ((v1.alloc (.cells #[.slice none 0 0, .slice none 0 0] 25)).heap[v1.heap.size]? = some (.cells #[.slice none 0 0, .slice none 0 0] 25 (0, 0))) := Lib.hid (blk_new v1 _)
        have L6 : Hid (w.heap.size ≤ v1.heap.size) := Lib.hid PBv1.out.size
        have GA6 : Hid (w.heap.size ≠ v1.heap.size) := Lib.hid (Nat.ne_of_lt (blk_lt KAv1.out))
        have GB6 : Hid (w.heap.size + 1 ≠ v1.heap.size) := Lib.hid (Nat.ne_of_lt (blk_lt KBv1.out))
        have PBv20 := Lib.hid (PBv1.out.trans (hb.mono PBv1.out.size))
        have KAv20 := Lib.hid (blk_below KAv1.out hb)
        have KBv20 := Lib.hid (blk_below KBv1.out hb)
        have Cav20 := Lib.hid (And.intro (Kd.R_below Cav1.out.1 hb) (Kd.R_below Cav1.out.2 hb))
        clear hb
        generalize v1.alloc (.cells #[.slice none 0 0, .slice none 0 0] 25) = v20 at PBv20 KAv20 KBv20 K6v20 Cav20 ⊢
        generalize v1.heap.size = b6 at K6v20 L6 GA6 GB6 ⊢
        clear PBv1 KAv1 KBv1 Cav1
        refine hK.out _ _ ⟨(blk_cell KAv20.out 0).trans rfl, (blk_cell KAv20.out 1).trans rfl, (blk_cell KBv20.out 0).trans rfl, (blk_cell KBv20.out 1).trans rfl⟩ (fun hHeld => ?_)
        clear hK K
        refine norm_ (a' := ?_) ?_ ?_
        rotate_left
        · show Act.put _ (some 6) _ = _
          simp only [Act.put, List.setIfInBounds_toArray, List.set_cons_zero, List.set_cons_succ]; rfl
        refine two_ (i := 3) (j := 4) #[true, true, true, true, false, true, false, false] #[true, true, true, false, true, true, false, false] rfl rfl (by rfl) (by rfl) (by kernel_rfl) (by decide) (by decide) (fun K hK => ?_) (fun K hK => ?_)
        · skip
          refine goes_ Try.func4 (by kernel_rfl) rfl #[.agg #[.slice Br rb.length dr, .slice Bf fb.length df]] (by rfl) rfl rfl (by simp only [List.map_toArray, List.map_cons, List.map_nil]; rfl) ?_
          refine (HCB.out v20 PBv20.out).mono ?_
          rintro e v21 ⟨Pb, pb, Qb, qb, rfl, u1, u2, hb⟩
          refine ⟨_, rfl, ?_⟩
          have PBv21 := Lib.hid (PBv20.out.trans (hb.mono PBv20.out.size))
          have KAv21 := Lib.hid (blk_below KAv20.out hb)
          have KBv21 := Lib.hid (blk_below KBv20.out hb)
          have K6v21 := Lib.hid (blk_below K6v20.out hb)
          have Cav21 := Lib.hid (And.intro (Kd.R_below Cav20.out.1 hb) (Kd.R_below Cav20.out.2 hb))
          have Cbv21 := Lib.hid (And.intro (Kd.R_lower u1 PBv20.out.size) (Kd.R_lower u2 PBv20.out.size))
          clear hb u1 u2
          clear PBv20 KAv20 KBv20 K6v20 Cav20
          refine hK.out _ _ ⟨(blk_cell KAv21.out 0).trans rfl, (blk_cell KAv21.out 1).trans rfl, (blk_cell KBv21.out 0).trans rfl, (blk_cell KBv21.out 1).trans rfl⟩ (fun hHeld => ?_)
          clear hK K
          refine norm_ (a' := ?_) ?_ ?_
          rotate_left
          · show Act.put _ (some 10) _ = _
            simp only [Act.put, List.setIfInBounds_toArray, List.set_cons_zero, List.set_cons_succ]; rfl
          refine one_ (i := 4) (N := some 5) #[true, true, true, true, true, true, false, false] rfl rfl (by kernel_rfl) (by decide) (fun K hK => ?_)
          refine value_ (w1 := ?_) (v := ?_) (by rfl) rfl ?_ ?_
          rotate_left 2
          · go_simp
            constructor
            · rfl
            · rfl
          have hb : Below v21.heap.size v21 (v21.alloc (.cells #[.slice none 0 0, .slice none 0 0] 25)) := below_alloc (Below.refl _ _) _
          have K5v22 : Hid ((v21.alloc (.cells #[.slice none 0 0, .slice none 0 0] 25)).heap[v21.heap.size]? = some (.cells #[.slice none 0 0, .slice none 0 0] 25 (0, 0))) := Lib.hid (blk_new v21 _)
          have L5 : Hid (w.heap.size ≤ v21.heap.size) := Lib.hid PBv21.out.size
          have GA5 : Hid (w.heap.size ≠ v21.heap.size) := Lib.hid (Nat.ne_of_lt (blk_lt KAv21.out))
          have GB5 : Hid (w.heap.size + 1 ≠ v21.heap.size) := Lib.hid (Nat.ne_of_lt (blk_lt KBv21.out))
          have NQ : Hid (b6 ≠ v21.heap.size) := Lib.hid (Nat.ne_of_lt (blk_lt K6v21.out))
          have PBv22 := Lib.hid (PBv21.out.trans (hb.mono PBv21.out.size))
          have KAv22 := Lib.hid (blk_below KAv21.out hb)
          have KBv22 := Lib.hid (blk_below KBv21.out hb)
          have K6v22 := Lib.hid (blk_below K6v21.out hb)
          have Cav22 := Lib.hid (And.intro (Kd.R_below Cav21.out.1 hb) (Kd.R_below Cav21.out.2 hb))
          have Cbv22 := Lib.hid (And.intro (Kd.R_below Cbv21.out.1 hb) (Kd.R_below Cbv21.out.2 hb))
          clear hb
          generalize v21.alloc (.cells #[.slice none 0 0, .slice none 0 0] 25) = v22 at PBv22 KAv22 KBv22 K5v22 K6v22 Cav22 Cbv22 ⊢
          generalize v21.heap.size = b5 at K5v22 L5 GA5 GB5 NQ ⊢
          have N56 : Hid (b5 ≠ b6) := Lib.hid NQ.out.symm
          clear PBv21 KAv21 KBv21 K6v21 Cav21 Cbv21
          refine hK.out _ _ ⟨(blk_cell KAv22.out 0).trans rfl, (blk_cell KAv22.out 1).trans rfl, (blk_cell KBv22.out 0).trans rfl, (blk_cell KBv22.out 1).trans rfl⟩ (fun hHeld => ?_)
          clear hK K
          refine norm_ (a' := ?_) ?_ ?_
          rotate_left
          · show Act.put _ (some 5) _ = _
            simp only [Act.put, List.setIfInBounds_toArray, List.set_cons_zero, List.set_cons_succ]; rfl
          refine one_ (i := 6) (N := none) #[true, true, true, true, true, true, true, false] rfl rfl (by kernel_rfl) (by decide) (fun K hK => ?_)
          have t0 : v22.cell? ⟨b5, 0, none⟩ = some (.slice none 0 0) := (blk_cell K5v22.out 0).trans rfl
          have t1 : v22.cell? ⟨b5, 1, none⟩ = some (.slice none 0 0) := (blk_cell K5v22.out 1).trans rfl
          have f0 := blk_frozen K5v22.out 0; have f1 := blk_frozen K5v22.out 1
          refine skip_ (w1 := ?_) (by rfl) rfl ?_ ?_
          rotate_left
          · go_simp
            rfl
          clear t0 t1 f0 f1
          have K5v23 : Hid (((v22.setCell ⟨b5, 0, none⟩ (.slice Pa ra.length pa)).setCell ⟨b5, 1, none⟩ (.slice Qa fa.length qa)).heap[b5]? = some (.cells #[.slice Pa ra.length pa, .slice Qa fa.length qa] 25 (0, 0))) := Lib.hid (blk_put (blk_put K5v22.out 0 _ rfl) 1 _ rfl)
          have K6v23 := Lib.hid (blk_far (p := ⟨b5, 1, none⟩) (blk_far (p := ⟨b5, 0, none⟩) K6v22.out N56.out.symm (.slice Pa ra.length pa)) N56.out.symm (.slice Qa fa.length qa))
          have KAv23 := Lib.hid (blk_far (p := ⟨b5, 1, none⟩) (blk_far (p := ⟨b5, 0, none⟩) KAv22.out GA5.out (.slice Pa ra.length pa)) GA5.out (.slice Qa fa.length qa))
          have KBv23 := Lib.hid (blk_far (p := ⟨b5, 1, none⟩) (blk_far (p := ⟨b5, 0, none⟩) KBv22.out GB5.out (.slice Pa ra.length pa)) GB5.out (.slice Qa fa.length qa))
          have PBv23 := Lib.hid (below_set (j := 1) (v := .slice Qa fa.length qa) (below_set (j := 0) (v := .slice Pa ra.length pa) PBv22.out L5.out) L5.out)
          have Cav23 : Hid (Kd.R k30 30 _ w.heap.size (fun _ => True) _ _ ∧ Kd.R k37 37 _ w.heap.size (fun _ => True) _ _) := Lib.hid (And.intro (Kd.R_mono (Kd.R_far (p := ⟨b5, 1, none⟩) (Kd.R_far (p := ⟨b5, 0, none⟩) (Kd.R_mono (Kd.R_types Cav22.out.1 K5v22.out (by decide)) (fun _ hk => hk.2)) (fun _ hk => hk) (.slice Pa ra.length pa)) (fun _ hk => hk) (.slice Qa fa.length qa)) (fun _ _ => trivial)) (Kd.R_mono (Kd.R_far (p := ⟨b5, 1, none⟩) (Kd.R_far (p := ⟨b5, 0, none⟩) (Kd.R_mono (Kd.R_types Cav22.out.2 K5v22.out (by decide)) (fun _ hk => hk.2)) (fun _ hk => hk) (.slice Pa ra.length pa)) (fun _ hk => hk) (.slice Qa fa.length qa)) (fun _ _ => trivial)))
          have Cbv23 : Hid (Kd.R k30 30 _ w.heap.size (fun _ => True) _ _ ∧ Kd.R k37 37 _ w.heap.size (fun _ => True) _ _) := Lib.hid (And.intro (Kd.R_mono (Kd.R_far (p := ⟨b5, 1, none⟩) (Kd.R_far (p := ⟨b5, 0, none⟩) (Kd.R_mono (Kd.R_types Cbv22.out.1 K5v22.out (by decide)) (fun _ hk => hk.2)) (fun _ hk => hk) (.slice Pa ra.length pa)) (fun _ hk => hk) (.slice Qa fa.length qa)) (fun _ _ => trivial)) (Kd.R_mono (Kd.R_far (p := ⟨b5, 1, none⟩) (Kd.R_far (p := ⟨b5, 0, none⟩) (Kd.R_mono (Kd.R_types Cbv22.out.2 K5v22.out (by decide)) (fun _ hk => hk.2)) (fun _ hk => hk) (.slice Pa ra.length pa)) (fun _ hk => hk) (.slice Qa fa.length qa)) (fun _ _ => trivial)))
          generalize ((v22.setCell ⟨b5, 0, none⟩ (.slice Pa ra.length pa)).setCell ⟨b5, 1, none⟩ (.slice Qa fa.length qa)) = v23 at PBv23 KAv23 KBv23 K5v23 K6v23 Cav23 Cbv23 ⊢
          clear PBv22 KAv22 KBv22 K5v22 K6v22 Cav22 Cbv22
          refine hK.out _ _ ⟨(blk_cell KAv23.out 0).trans rfl, (blk_cell KAv23.out 1).trans rfl, (blk_cell KBv23.out 0).trans rfl, (blk_cell KBv23.out 1).trans rfl⟩ (fun hHeld => ?_)
          clear hK K
          refine one_ (i := 7) (N := none) #[true, true, true, true, true, true, true, true] rfl rfl (by kernel_rfl) (by decide) (fun K hK => ?_)
          have t0 : v23.cell? ⟨b6, 0, none⟩ = some (.slice none 0 0) := (blk_cell K6v23.out 0).trans rfl
          have t1 : v23.cell? ⟨b6, 1, none⟩ = some (.slice none 0 0) := (blk_cell K6v23.out 1).trans rfl
          have f0 := blk_frozen K6v23.out 0; have f1 := blk_frozen K6v23.out 1
          refine skip_ (w1 := ?_) (by rfl) rfl ?_ ?_
          rotate_left
          · go_simp
            rfl
          clear t0 t1 f0 f1
          have K6v24 : Hid (((v23.setCell ⟨b6, 0, none⟩ (.slice Pb rb.length pb)).setCell ⟨b6, 1, none⟩ (.slice Qb fb.length qb)).heap[b6]? = some (.cells #[.slice Pb rb.length pb, .slice Qb fb.length qb] 25 (0, 0))) := Lib.hid (blk_put (blk_put K6v23.out 0 _ rfl) 1 _ rfl)
          have K5v24 := Lib.hid (blk_far (p := ⟨b6, 1, none⟩) (blk_far (p := ⟨b6, 0, none⟩) K5v23.out N56.out (.slice Pb rb.length pb)) N56.out (.slice Qb fb.length qb))
          have KAv24 := Lib.hid (blk_far (p := ⟨b6, 1, none⟩) (blk_far (p := ⟨b6, 0, none⟩) KAv23.out GA6.out (.slice Pb rb.length pb)) GA6.out (.slice Qb fb.length qb))
          have KBv24 := Lib.hid (blk_far (p := ⟨b6, 1, none⟩) (blk_far (p := ⟨b6, 0, none⟩) KBv23.out GB6.out (.slice Pb rb.length pb)) GB6.out (.slice Qb fb.length qb))
          have PBv24 := Lib.hid (below_set (j := 1) (v := .slice Qb fb.length qb) (below_set (j := 0) (v := .slice Pb rb.length pb) PBv23.out L6.out) L6.out)
          have Cav24 : Hid (Kd.R k30 30 _ w.heap.size (fun _ => True) _ _ ∧ Kd.R k37 37 _ w.heap.size (fun _ => True) _ _) := Lib.hid (And.intro (Kd.R_mono (Kd.R_far (p := ⟨b6, 1, none⟩) (Kd.R_far (p := ⟨b6, 0, none⟩) (Kd.R_mono (Kd.R_types Cav23.out.1 K6v23.out (by decide)) (fun _ hk => hk.2)) (fun _ hk => hk) (.slice Pb rb.length pb)) (fun _ hk => hk) (.slice Qb fb.length qb)) (fun _ _ => trivial)) (Kd.R_mono (Kd.R_far (p := ⟨b6, 1, none⟩) (Kd.R_far (p := ⟨b6, 0, none⟩) (Kd.R_mono (Kd.R_types Cav23.out.2 K6v23.out (by decide)) (fun _ hk => hk.2)) (fun _ hk => hk) (.slice Pb rb.length pb)) (fun _ hk => hk) (.slice Qb fb.length qb)) (fun _ _ => trivial)))
          have Cbv24 : Hid (Kd.R k30 30 _ w.heap.size (fun _ => True) _ _ ∧ Kd.R k37 37 _ w.heap.size (fun _ => True) _ _) := Lib.hid (And.intro (Kd.R_mono (Kd.R_far (p := ⟨b6, 1, none⟩) (Kd.R_far (p := ⟨b6, 0, none⟩) (Kd.R_mono (Kd.R_types Cbv23.out.1 K6v23.out (by decide)) (fun _ hk => hk.2)) (fun _ hk => hk) (.slice Pb rb.length pb)) (fun _ hk => hk) (.slice Qb fb.length qb)) (fun _ _ => trivial)) (Kd.R_mono (Kd.R_far (p := ⟨b6, 1, none⟩) (Kd.R_far (p := ⟨b6, 0, none⟩) (Kd.R_mono (Kd.R_types Cbv23.out.2 K6v23.out (by decide)) (fun _ hk => hk.2)) (fun _ hk => hk) (.slice Pb rb.length pb)) (fun _ hk => hk) (.slice Qb fb.length qb)) (fun _ _ => trivial)))
          generalize ((v23.setCell ⟨b6, 0, none⟩ (.slice Pb rb.length pb)).setCell ⟨b6, 1, none⟩ (.slice Qb fb.length qb)) = v24 at PBv24 KAv24 KBv24 K5v24 K6v24 Cav24 Cbv24 ⊢
          clear PBv23 KAv23 KBv23 K5v23 K6v23 Cav23 Cbv23
          refine hK.out _ _ ⟨(blk_cell KAv24.out 0).trans rfl, (blk_cell KAv24.out 1).trans rfl, (blk_cell KBv24.out 0).trans rfl, (blk_cell KBv24.out 1).trans rfl⟩ (fun hHeld => ?_)
          clear hK K
          refine done_ (by kernel_rfl) ?_
          go_wp2_with fail
          go_meet
          exact ⟨b5, b6, Pa, pa, Qa, qa, Pb, pb, Qb, qb, rfl, rfl, K5v24, K6v24, KAv24, KBv24, Cav24, Cbv24, PBv24⟩
        · skip
          refine value_ (w1 := ?_) (v := ?_) (by rfl) rfl ?_ ?_
          rotate_left 2
          · go_simp
            constructor
            · rfl
            · rfl
          have hb : Below v20.heap.size v20 (v20.alloc (.cells #[.slice none 0 0, .slice none 0 0] 25)) := below_alloc (Below.refl _ _) _
          have K5v25 : Hid ((v20.alloc (.cells #[.slice none 0 0, .slice none 0 0] 25)).heap[v20.heap.size]? = some (.cells #[.slice none 0 0, .slice none 0 0] 25 (0, 0))) := Lib.hid (blk_new v20 _)
          have L5 : Hid (w.heap.size ≤ v20.heap.size) := Lib.hid PBv20.out.size
          have GA5 : Hid (w.heap.size ≠ v20.heap.size) := Lib.hid (Nat.ne_of_lt (blk_lt KAv20.out))
          have GB5 : Hid (w.heap.size + 1 ≠ v20.heap.size) := Lib.hid (Nat.ne_of_lt (blk_lt KBv20.out))
          have NQ : Hid (b6 ≠ v20.heap.size) := Lib.hid (Nat.ne_of_lt (blk_lt K6v20.out))
          have PBv25 := Lib.hid (PBv20.out.trans (hb.mono PBv20.out.size))
          have KAv25 := Lib.hid (blk_below KAv20.out hb)
          have KBv25 := Lib.hid (blk_below KBv20.out hb)
          have K6v25 := Lib.hid (blk_below K6v20.out hb)
          have Cav25 := Lib.hid (And.intro (Kd.R_below Cav20.out.1 hb) (Kd.R_below Cav20.out.2 hb))
          clear hb
          generalize v20.alloc (.cells #[.slice none 0 0, .slice none 0 0] 25) = v25 at PBv25 KAv25 KBv25 K5v25 K6v25 Cav25 ⊢
          generalize v20.heap.size = b5 at K5v25 L5 GA5 GB5 NQ ⊢
          have N56 : Hid (b5 ≠ b6) := Lib.hid NQ.out.symm
          clear PBv20 KAv20 KBv20 K6v20 Cav20
          refine hK.out _ _ ⟨(blk_cell KAv25.out 0).trans rfl, (blk_cell KAv25.out 1).trans rfl, (blk_cell KBv25.out 0).trans rfl, (blk_cell KBv25.out 1).trans rfl⟩ (fun hHeld => ?_)
          clear hK K
          refine norm_ (a' := ?_) ?_ ?_
          rotate_left
          · show Act.put _ (some 5) _ = _
            simp only [Act.put, List.setIfInBounds_toArray, List.set_cons_zero, List.set_cons_succ]; rfl
          refine one_ (i := 3) (N := some 10) #[true, true, true, true, true, true, false, false] rfl rfl (by kernel_rfl) (by decide) (fun K hK => ?_)
          refine goes_ Try.func4 (by kernel_rfl) rfl #[.agg #[.slice Br rb.length dr, .slice Bf fb.length df]] (by rfl) rfl rfl (by simp only [List.map_toArray, List.map_cons, List.map_nil]; rfl) ?_
          refine (HCB.out v25 PBv25.out).mono ?_
          rintro e v26 ⟨Pb, pb, Qb, qb, rfl, u1, u2, hb⟩
          refine ⟨_, rfl, ?_⟩
          have PBv26 := Lib.hid (PBv25.out.trans (hb.mono PBv25.out.size))
          have KAv26 := Lib.hid (blk_below KAv25.out hb)
          have KBv26 := Lib.hid (blk_below KBv25.out hb)
          have K5v26 := Lib.hid (blk_below K5v25.out hb)
          have K6v26 := Lib.hid (blk_below K6v25.out hb)
          have Cav26 := Lib.hid (And.intro (Kd.R_below Cav25.out.1 hb) (Kd.R_below Cav25.out.2 hb))
          have Cbv26 := Lib.hid (And.intro (Kd.R_lower u1 PBv25.out.size) (Kd.R_lower u2 PBv25.out.size))
          clear hb u1 u2
          clear PBv25 KAv25 KBv25 K5v25 K6v25 Cav25
          refine hK.out _ _ ⟨(blk_cell KAv26.out 0).trans rfl, (blk_cell KAv26.out 1).trans rfl, (blk_cell KBv26.out 0).trans rfl, (blk_cell KBv26.out 1).trans rfl⟩ (fun hHeld => ?_)
          clear hK K
          refine norm_ (a' := ?_) ?_ ?_
          rotate_left
          · show Act.put _ (some 10) _ = _
            simp only [Act.put, List.setIfInBounds_toArray, List.set_cons_zero, List.set_cons_succ]; rfl
          refine one_ (i := 6) (N := none) #[true, true, true, true, true, true, true, false] rfl rfl (by kernel_rfl) (by decide) (fun K hK => ?_)
          have t0 : v26.cell? ⟨b5, 0, none⟩ = some (.slice none 0 0) := (blk_cell K5v26.out 0).trans rfl
          have t1 : v26.cell? ⟨b5, 1, none⟩ = some (.slice none 0 0) := (blk_cell K5v26.out 1).trans rfl
          have f0 := blk_frozen K5v26.out 0; have f1 := blk_frozen K5v26.out 1
          refine skip_ (w1 := ?_) (by rfl) rfl ?_ ?_
          rotate_left
          · go_simp
            rfl
          clear t0 t1 f0 f1
          have K5v27 : Hid (((v26.setCell ⟨b5, 0, none⟩ (.slice Pa ra.length pa)).setCell ⟨b5, 1, none⟩ (.slice Qa fa.length qa)).heap[b5]? = some (.cells #[.slice Pa ra.length pa, .slice Qa fa.length qa] 25 (0, 0))) := Lib.hid (blk_put (blk_put K5v26.out 0 _ rfl) 1 _ rfl)
          have K6v27 := Lib.hid (blk_far (p := ⟨b5, 1, none⟩) (blk_far (p := ⟨b5, 0, none⟩) K6v26.out N56.out.symm (.slice Pa ra.length pa)) N56.out.symm (.slice Qa fa.length qa))
          have KAv27 := Lib.hid (blk_far (p := ⟨b5, 1, none⟩) (blk_far (p := ⟨b5, 0, none⟩) KAv26.out GA5.out (.slice Pa ra.length pa)) GA5.out (.slice Qa fa.length qa))
          have KBv27 := Lib.hid (blk_far (p := ⟨b5, 1, none⟩) (blk_far (p := ⟨b5, 0, none⟩) KBv26.out GB5.out (.slice Pa ra.length pa)) GB5.out (.slice Qa fa.length qa))
          have PBv27 := Lib.hid (below_set (j := 1) (v := .slice Qa fa.length qa) (below_set (j := 0) (v := .slice Pa ra.length pa) PBv26.out L5.out) L5.out)
          have Cav27 : Hid (Kd.R k30 30 _ w.heap.size (fun _ => True) _ _ ∧ Kd.R k37 37 _ w.heap.size (fun _ => True) _ _) := Lib.hid (And.intro (Kd.R_mono (Kd.R_far (p := ⟨b5, 1, none⟩) (Kd.R_far (p := ⟨b5, 0, none⟩) (Kd.R_mono (Kd.R_types Cav26.out.1 K5v26.out (by decide)) (fun _ hk => hk.2)) (fun _ hk => hk) (.slice Pa ra.length pa)) (fun _ hk => hk) (.slice Qa fa.length qa)) (fun _ _ => trivial)) (Kd.R_mono (Kd.R_far (p := ⟨b5, 1, none⟩) (Kd.R_far (p := ⟨b5, 0, none⟩) (Kd.R_mono (Kd.R_types Cav26.out.2 K5v26.out (by decide)) (fun _ hk => hk.2)) (fun _ hk => hk) (.slice Pa ra.length pa)) (fun _ hk => hk) (.slice Qa fa.length qa)) (fun _ _ => trivial)))
          have Cbv27 : Hid (Kd.R k30 30 _ w.heap.size (fun _ => True) _ _ ∧ Kd.R k37 37 _ w.heap.size (fun _ => True) _ _) := Lib.hid (And.intro (Kd.R_mono (Kd.R_far (p := ⟨b5, 1, none⟩) (Kd.R_far (p := ⟨b5, 0, none⟩) (Kd.R_mono (Kd.R_types Cbv26.out.1 K5v26.out (by decide)) (fun _ hk => hk.2)) (fun _ hk => hk) (.slice Pa ra.length pa)) (fun _ hk => hk) (.slice Qa fa.length qa)) (fun _ _ => trivial)) (Kd.R_mono (Kd.R_far (p := ⟨b5, 1, none⟩) (Kd.R_far (p := ⟨b5, 0, none⟩) (Kd.R_mono (Kd.R_types Cbv26.out.2 K5v26.out (by decide)) (fun _ hk => hk.2)) (fun _ hk => hk) (.slice Pa ra.length pa)) (fun _ hk => hk) (.slice Qa fa.length qa)) (fun _ _ => trivial)))
          generalize ((v26.setCell ⟨b5, 0, none⟩ (.slice Pa ra.length pa)).setCell ⟨b5, 1, none⟩ (.slice Qa fa.length qa)) = v27 at PBv27 KAv27 KBv27 K5v27 K6v27 Cav27 Cbv27 ⊢
          clear PBv26 KAv26 KBv26 K5v26 K6v26 Cav26 Cbv26
          refine hK.out _ _ ⟨(blk_cell KAv27.out 0).trans rfl, (blk_cell KAv27.out 1).trans rfl, (blk_cell KBv27.out 0).trans rfl, (blk_cell KBv27.out 1).trans rfl⟩ (fun hHeld => ?_)
          clear hK K
          refine one_ (i := 7) (N := none) #[true, true, true, true, true, true, true, true] rfl rfl (by kernel_rfl) (by decide) (fun K hK => ?_)
          have t0 : v27.cell? ⟨b6, 0, none⟩ = some (.slice none 0 0) := (blk_cell K6v27.out 0).trans rfl
          have t1 : v27.cell? ⟨b6, 1, none⟩ = some (.slice none 0 0) := (blk_cell K6v27.out 1).trans rfl
          have f0 := blk_frozen K6v27.out 0; have f1 := blk_frozen K6v27.out 1
          refine skip_ (w1 := ?_) (by rfl) rfl ?_ ?_
          rotate_left
          · go_simp
            rfl
          clear t0 t1 f0 f1
          have K6v28 : Hid (((v27.setCell ⟨b6, 0, none⟩ (.slice Pb rb.length pb)).setCell ⟨b6, 1, none⟩ (.slice Qb fb.length qb)).heap[b6]? = some (.cells #[.slice Pb rb.length pb, .slice Qb fb.length qb] 25 (0, 0))) := Lib.hid (blk_put (blk_put K6v27.out 0 _ rfl) 1 _ rfl)
          have K5v28 := Lib.hid (blk_far (p := ⟨b6, 1, none⟩) (blk_far (p := ⟨b6, 0, none⟩) K5v27.out N56.out (.slice Pb rb.length pb)) N56.out (.slice Qb fb.length qb))
          have KAv28 := Lib.hid (blk_far (p := ⟨b6, 1, none⟩) (blk_far (p := ⟨b6, 0, none⟩) KAv27.out GA6.out (.slice Pb rb.length pb)) GA6.out (.slice Qb fb.length qb))
          have KBv28 := Lib.hid (blk_far (p := ⟨b6, 1, none⟩) (blk_far (p := ⟨b6, 0, none⟩) KBv27.out GB6.out (.slice Pb rb.length pb)) GB6.out (.slice Qb fb.length qb))
          have PBv28 := Lib.hid (below_set (j := 1) (v := .slice Qb fb.length qb) (below_set (j := 0) (v := .slice Pb rb.length pb) PBv27.out L6.out) L6.out)
          have Cav28 : Hid (Kd.R k30 30 _ w.heap.size (fun _ => True) _ _ ∧ Kd.R k37 37 _ w.heap.size (fun _ => True) _ _) := Lib.hid (And.intro (Kd.R_mono (Kd.R_far (p := ⟨b6, 1, none⟩) (Kd.R_far (p := ⟨b6, 0, none⟩) (Kd.R_mono (Kd.R_types Cav27.out.1 K6v27.out (by decide)) (fun _ hk => hk.2)) (fun _ hk => hk) (.slice Pb rb.length pb)) (fun _ hk => hk) (.slice Qb fb.length qb)) (fun _ _ => trivial)) (Kd.R_mono (Kd.R_far (p := ⟨b6, 1, none⟩) (Kd.R_far (p := ⟨b6, 0, none⟩) (Kd.R_mono (Kd.R_types Cav27.out.2 K6v27.out (by decide)) (fun _ hk => hk.2)) (fun _ hk => hk) (.slice Pb rb.length pb)) (fun _ hk => hk) (.slice Qb fb.length qb)) (fun _ _ => trivial)))
          have Cbv28 : Hid (Kd.R k30 30 _ w.heap.size (fun _ => True) _ _ ∧ Kd.R k37 37 _ w.heap.size (fun _ => True) _ _) := Lib.hid (And.intro (Kd.R_mono (Kd.R_far (p := ⟨b6, 1, none⟩) (Kd.R_far (p := ⟨b6, 0, none⟩) (Kd.R_mono (Kd.R_types Cbv27.out.1 K6v27.out (by decide)) (fun _ hk => hk.2)) (fun _ hk => hk) (.slice Pb rb.length pb)) (fun _ hk => hk) (.slice Qb fb.length qb)) (fun _ _ => trivial)) (Kd.R_mono (Kd.R_far (p := ⟨b6, 1, none⟩) (Kd.R_far (p := ⟨b6, 0, none⟩) (Kd.R_mono (Kd.R_types Cbv27.out.2 K6v27.out (by decide)) (fun _ hk => hk.2)) (fun _ hk => hk) (.slice Pb rb.length pb)) (fun _ hk => hk) (.slice Qb fb.length qb)) (fun _ _ => trivial)))
          generalize ((v27.setCell ⟨b6, 0, none⟩ (.slice Pb rb.length pb)).setCell ⟨b6, 1, none⟩ (.slice Qb fb.length qb)) = v28 at PBv28 KAv28 KBv28 K5v28 K6v28 Cav28 Cbv28 ⊢
          clear PBv27 KAv27 KBv27 K5v27 K6v27 Cav27 Cbv27
          refine hK.out _ _ ⟨(blk_cell KAv28.out 0).trans rfl, (blk_cell KAv28.out 1).trans rfl, (blk_cell KBv28.out 0).trans rfl, (blk_cell KBv28.out 1).trans rfl⟩ (fun hHeld => ?_)
          clear hK K
          refine done_ (by kernel_rfl) ?_
          go_wp2_with fail
          go_meet
          exact ⟨b5, b6, Pa, pa, Qa, qa, Pb, pb, Qb, qb, rfl, rfl, K5v28, K6v28, KAv28, KBv28, Cav28, Cbv28, PBv28⟩
    · skip
      refine value_ (w1 := ?_) (v := ?_) (by rfl) rfl ?_ ?_
      rotate_left 2
      · go_simp
        constructor
        · rfl
        · rfl
      have hb : Below v0.heap.size v0 (v0.alloc (.cells #[.slice none 0 0, .slice none 0 0] 25)) := below_alloc (Below.refl _ _) _
      have K5v29 : Hid ((v0.alloc (.cells #[.slice none 0 0, .slice none 0 0] 25)).heap[v0.heap.size]? = some (.cells #[.slice none 0 0, .slice none 0 0] 25 (0, 0))) := Lib.hid (blk_new v0 _)
      have L5 : Hid (w.heap.size ≤ v0.heap.size) := Lib.hid PBv0.out.size
      have GA5 : Hid (w.heap.size ≠ v0.heap.size) := Lib.hid (Nat.ne_of_lt (blk_lt KAv0.out))
      have GB5 : Hid (w.heap.size + 1 ≠ v0.heap.size) := Lib.hid (Nat.ne_of_lt (blk_lt KBv0.out))
      have PBv29 := Lib.hid (PBv0.out.trans (hb.mono PBv0.out.size))
      have KAv29 := Lib.hid (blk_below KAv0.out hb)
      have KBv29 := Lib.hid (blk_below KBv0.out hb)
      clear hb
      generalize v0.alloc (.cells #[.slice none 0 0, .slice none 0 0] 25) = v29 at PBv29 KAv29 KBv29 K5v29 ⊢
      generalize v0.heap.size = b5 at K5v29 L5 GA5 GB5 ⊢
      clear PBv0 KAv0 KBv0
      refine hK.out _ _ ⟨(blk_cell KAv29.out 0).trans rfl, (blk_cell KAv29.out 1).trans rfl, (blk_cell KBv29.out 0).trans rfl, (blk_cell KBv29.out 1).trans rfl⟩ (fun hHeld => ?_)
      clear hK K
      refine norm_ (a' := ?_) ?_ ?_
      rotate_left
      · show Act.put _ (some 5) _ = _
        simp only [Act.put, List.setIfInBounds_toArray, List.set_cons_zero, List.set_cons_succ]; rfl
      refine two_ (i := 1) (j := 5) #[true, true, true, false, true, false, false, false] #[true, false, true, false, true, true, false, false] rfl rfl (by rfl) (by rfl) (by kernel_rfl) (by decide) (by decide) (fun K hK => ?_) (fun K hK => ?_)
      · skip
        refine goes_ Try.func4 (by kernel_rfl) rfl #[.agg #[.slice Ar ra.length cr, .slice Af fa.length cf]] (by rfl) rfl rfl (by simp only [List.map_toArray, List.map_cons, List.map_nil]; rfl) ?_
        refine (HCA.out v29 PBv29.out).mono ?_
        rintro e v30 ⟨Pa, pa, Qa, qa, rfl, u1, u2, hb⟩
        refine ⟨_, rfl, ?_⟩
        have PBv30 := Lib.hid (PBv29.out.trans (hb.mono PBv29.out.size))
        have KAv30 := Lib.hid (blk_below KAv29.out hb)
        have KBv30 := Lib.hid (blk_below KBv29.out hb)
        have K5v30 := Lib.hid (blk_below K5v29.out hb)
        have Cav30 := Lib.hid (And.intro (Kd.R_lower u1 PBv29.out.size) (Kd.R_lower u2 PBv29.out.size))
        clear hb u1 u2
        clear PBv29 KAv29 KBv29 K5v29
        refine hK.out _ _ ⟨(blk_cell KAv30.out 0).trans rfl, (blk_cell KAv30.out 1).trans rfl, (blk_cell KBv30.out 0).trans rfl, (blk_cell KBv30.out 1).trans rfl⟩ (fun hHeld => ?_)
        clear hK K
        refine norm_ (a' := ?_) ?_ ?_
        rotate_left
        · show Act.put _ (some 8) _ = _
          simp only [Act.put, List.setIfInBounds_toArray, List.set_cons_zero, List.set_cons_succ]; rfl
        refine two_ (i := 3) (j := 5) #[true, true, true, true, true, false, false, false] #[true, true, true, false, true, true, false, false] rfl rfl (by rfl) (by rfl) (by kernel_rfl) (by decide) (by decide) (fun K hK => ?_) (fun K hK => ?_)
        · skip
          refine goes_ Try.func4 (by kernel_rfl) rfl #[.agg #[.slice Br rb.length dr, .slice Bf fb.length df]] (by rfl) rfl rfl (by simp only [List.map_toArray, List.map_cons, List.map_nil]; rfl) ?_
          refine (HCB.out v30 PBv30.out).mono ?_
          rintro e v31 ⟨Pb, pb, Qb, qb, rfl, u1, u2, hb⟩
          refine ⟨_, rfl, ?_⟩
          have PBv31 := Lib.hid (PBv30.out.trans (hb.mono PBv30.out.size))
          have KAv31 := Lib.hid (blk_below KAv30.out hb)
          have KBv31 := Lib.hid (blk_below KBv30.out hb)
          have K5v31 := Lib.hid (blk_below K5v30.out hb)
          have Cav31 := Lib.hid (And.intro (Kd.R_below Cav30.out.1 hb) (Kd.R_below Cav30.out.2 hb))
          have Cbv31 := Lib.hid (And.intro (Kd.R_lower u1 PBv30.out.size) (Kd.R_lower u2 PBv30.out.size))
          clear hb u1 u2
          clear PBv30 KAv30 KBv30 K5v30 Cav30
          refine hK.out _ _ ⟨(blk_cell KAv31.out 0).trans rfl, (blk_cell KAv31.out 1).trans rfl, (blk_cell KBv31.out 0).trans rfl, (blk_cell KBv31.out 1).trans rfl⟩ (fun hHeld => ?_)
          clear hK K
          refine norm_ (a' := ?_) ?_ ?_
          rotate_left
          · show Act.put _ (some 10) _ = _
            simp only [Act.put, List.setIfInBounds_toArray, List.set_cons_zero, List.set_cons_succ]; rfl
          refine one_ (i := 5) (N := some 6) #[true, true, true, true, true, true, false, false] rfl rfl (by kernel_rfl) (by decide) (fun K hK => ?_)
          refine value_ (w1 := ?_) (v := ?_) (by rfl) rfl ?_ ?_
          rotate_left 2
          · go_simp
            constructor
            · rfl
            · rfl
          have hb : Below v31.heap.size v31 (v31.alloc (.cells #[.slice none 0 0, .slice none 0 0] 25)) := below_alloc (Below.refl _ _) _
          have K6v32 : Hid ((v31.alloc (.cells #[.slice none 0 0, .slice none 0 0] 25)).heap[v31.heap.size]? = some (.cells #[.slice none 0 0, .slice none 0 0] 25 (0, 0))) := Lib.hid (blk_new v31 _)
          have L6 : Hid (w.heap.size ≤ v31.heap.size) := Lib.hid PBv31.out.size
          have GA6 : Hid (w.heap.size ≠ v31.heap.size) := Lib.hid (Nat.ne_of_lt (blk_lt KAv31.out))
          have GB6 : Hid (w.heap.size + 1 ≠ v31.heap.size) := Lib.hid (Nat.ne_of_lt (blk_lt KBv31.out))
          have NQ : Hid (b5 ≠ v31.heap.size) := Lib.hid (Nat.ne_of_lt (blk_lt K5v31.out))
          have PBv32 := Lib.hid (PBv31.out.trans (hb.mono PBv31.out.size))
          have KAv32 := Lib.hid (blk_below KAv31.out hb)
          have KBv32 := Lib.hid (blk_below KBv31.out hb)
          have K5v32 := Lib.hid (blk_below K5v31.out hb)
          have Cav32 := Lib.hid (And.intro (Kd.R_below Cav31.out.1 hb) (Kd.R_below Cav31.out.2 hb))
          have Cbv32 := Lib.hid (And.intro (Kd.R_below Cbv31.out.1 hb) (Kd.R_below Cbv31.out.2 hb))
          clear hb
          generalize v31.alloc (.cells #[.slice none 0 0, .slice none 0 0] 25) = v32 at PBv32 KAv32 KBv32 K6v32 K5v32 Cav32 Cbv32 ⊢
          generalize v31.heap.size = b6 at K6v32 L6 GA6 GB6 NQ ⊢
          have N56 : Hid (b5 ≠ b6) := Lib.hid NQ.out
          clear PBv31 KAv31 KBv31 K5v31 Cav31 Cbv31
          refine hK.out _ _ ⟨(blk_cell KAv32.out 0).trans rfl, (blk_cell KAv32.out 1).trans rfl, (blk_cell KBv32.out 0).trans rfl, (blk_cell KBv32.out 1).trans rfl⟩ (fun hHeld => ?_)
          clear hK K
          refine norm_ (a' := ?_) ?_ ?_
          rotate_left
          · show Act.put _ (some 6) _ = _
            simp only [Act.put, List.setIfInBounds_toArray, List.set_cons_zero, List.set_cons_succ]; rfl
          refine one_ (i := 6) (N := none) #[true, true, true, true, true, true, true, false] rfl rfl (by kernel_rfl) (by decide) (fun K hK => ?_)
          have t0 : v32.cell? ⟨b5, 0, none⟩ = some (.slice none 0 0) := (blk_cell K5v32.out 0).trans rfl
          have t1 : v32.cell? ⟨b5, 1, none⟩ = some (.slice none 0 0) := (blk_cell K5v32.out 1).trans rfl
          have f0 := blk_frozen K5v32.out 0; have f1 := blk_frozen K5v32.out 1
          refine skip_ (w1 := ?_) (by rfl) rfl ?_ ?_
          rotate_left
          · go_simp
            rfl
          clear t0 t1 f0 f1
          have K5v33 : Hid (((v32.setCell ⟨b5, 0, none⟩ (.slice Pa ra.length pa)).setCell ⟨b5, 1, none⟩ (.slice Qa fa.length qa)).heap[b5]? = some (.cells #[.slice Pa ra.length pa, .slice Qa fa.length qa] 25 (0, 0))) := Lib.hid (blk_put (blk_put K5v32.out 0 _ rfl) 1 _ rfl)
          have K6v33 := Lib.hid (blk_far (p := ⟨b5, 1, none⟩) (blk_far (p := ⟨b5, 0, none⟩) K6v32.out N56.out.symm (.slice Pa ra.length pa)) N56.out.symm (.slice Qa fa.length qa))
          have KAv33 := Lib.hid (blk_far (p := ⟨b5, 1, none⟩) (blk_far (p := ⟨b5, 0, none⟩) KAv32.out GA5.out (.slice Pa ra.length pa)) GA5.out (.slice Qa fa.length qa))
          have KBv33 := Lib.hid (blk_far (p := ⟨b5, 1, none⟩) (blk_far (p := ⟨b5, 0, none⟩) KBv32.out GB5.out (.slice Pa ra.length pa)) GB5.out (.slice Qa fa.length qa))
          have PBv33 := Lib.hid (below_set (j := 1) (v := .slice Qa fa.length qa) (below_set (j := 0) (v := .slice Pa ra.length pa) PBv32.out L5.out) L5.out)
          have Cav33 : Hid (Kd.R k30 30 _ w.heap.size (fun _ => True) _ _ ∧ Kd.R k37 37 _ w.heap.size (fun _ => True) _ _) := Lib.hid (And.intro (Kd.R_mono (Kd.R_far (p := ⟨b5, 1, none⟩) (Kd.R_far (p := ⟨b5, 0, none⟩) (Kd.R_mono (Kd.R_types Cav32.out.1 K5v32.out (by decide)) (fun _ hk => hk.2)) (fun _ hk => hk) (.slice Pa ra.length pa)) (fun _ hk => hk) (.slice Qa fa.length qa)) (fun _ _ => trivial)) (Kd.R_mono (Kd.R_far (p := ⟨b5, 1, none⟩) (Kd.R_far (p := ⟨b5, 0, none⟩) (Kd.R_mono (Kd.R_types Cav32.out.2 K5v32.out (by decide)) (fun _ hk => hk.2)) (fun _ hk => hk) (.slice Pa ra.length pa)) (fun _ hk => hk) (.slice Qa fa.length qa)) (fun _ _ => trivial)))
          have Cbv33 : Hid (Kd.R k30 30 _ w.heap.size (fun _ => True) _ _ ∧ Kd.R k37 37 _ w.heap.size (fun _ => True) _ _) := Lib.hid (And.intro (Kd.R_mono (Kd.R_far (p := ⟨b5, 1, none⟩) (Kd.R_far (p := ⟨b5, 0, none⟩) (Kd.R_mono (Kd.R_types Cbv32.out.1 K5v32.out (by decide)) (fun _ hk => hk.2)) (fun _ hk => hk) (.slice Pa ra.length pa)) (fun _ hk => hk) (.slice Qa fa.length qa)) (fun _ _ => trivial)) (Kd.R_mono (Kd.R_far (p := ⟨b5, 1, none⟩) (Kd.R_far (p := ⟨b5, 0, none⟩) (Kd.R_mono (Kd.R_types Cbv32.out.2 K5v32.out (by decide)) (fun _ hk => hk.2)) (fun _ hk => hk) (.slice Pa ra.length pa)) (fun _ hk => hk) (.slice Qa fa.length qa)) (fun _ _ => trivial)))
          generalize ((v32.setCell ⟨b5, 0, none⟩ (.slice Pa ra.length pa)).setCell ⟨b5, 1, none⟩ (.slice Qa fa.length qa)) = v33 at PBv33 KAv33 KBv33 K5v33 K6v33 Cav33 Cbv33 ⊢
          clear PBv32 KAv32 KBv32 K5v32 K6v32 Cav32 Cbv32
          refine hK.out _ _ ⟨(blk_cell KAv33.out 0).trans rfl, (blk_cell KAv33.out 1).trans rfl, (blk_cell KBv33.out 0).trans rfl, (blk_cell KBv33.out 1).trans rfl⟩ (fun hHeld => ?_)
          clear hK K
          refine one_ (i := 7) (N := none) #[true, true, true, true, true, true, true, true] rfl rfl (by kernel_rfl) (by decide) (fun K hK => ?_)
          have t0 : v33.cell? ⟨b6, 0, none⟩ = some (.slice none 0 0) := (blk_cell K6v33.out 0).trans rfl
          have t1 : v33.cell? ⟨b6, 1, none⟩ = some (.slice none 0 0) := (blk_cell K6v33.out 1).trans rfl
          have f0 := blk_frozen K6v33.out 0; have f1 := blk_frozen K6v33.out 1
          refine skip_ (w1 := ?_) (by rfl) rfl ?_ ?_
          rotate_left
          · go_simp
            rfl
          clear t0 t1 f0 f1
          have K6v34 : Hid (((v33.setCell ⟨b6, 0, none⟩ (.slice Pb rb.length pb)).setCell ⟨b6, 1, none⟩ (.slice Qb fb.length qb)).heap[b6]? = some (.cells #[.slice Pb rb.length pb, .slice Qb fb.length qb] 25 (0, 0))) := Lib.hid (blk_put (blk_put K6v33.out 0 _ rfl) 1 _ rfl)
          have K5v34 := Lib.hid (blk_far (p := ⟨b6, 1, none⟩) (blk_far (p := ⟨b6, 0, none⟩) K5v33.out N56.out (.slice Pb rb.length pb)) N56.out (.slice Qb fb.length qb))
          have KAv34 := Lib.hid (blk_far (p := ⟨b6, 1, none⟩) (blk_far (p := ⟨b6, 0, none⟩) KAv33.out GA6.out (.slice Pb rb.length pb)) GA6.out (.slice Qb fb.length qb))
          have KBv34 := Lib.hid (blk_far (p := ⟨b6, 1, none⟩) (blk_far (p := ⟨b6, 0, none⟩) KBv33.out GB6.out (.slice Pb rb.length pb)) GB6.out (.slice Qb fb.length qb))
          have PBv34 := Lib.hid (below_set (j := 1) (v := .slice Qb fb.length qb) (below_set (j := 0) (v := .slice Pb rb.length pb) PBv33.out L6.out) L6.out)
          have Cav34 : Hid (Kd.R k30 30 _ w.heap.size (fun _ => True) _ _ ∧ Kd.R k37 37 _ w.heap.size (fun _ => True) _ _) := Lib.hid (And.intro (Kd.R_mono (Kd.R_far (p := ⟨b6, 1, none⟩) (Kd.R_far (p := ⟨b6, 0, none⟩) (Kd.R_mono (Kd.R_types Cav33.out.1 K6v33.out (by decide)) (fun _ hk => hk.2)) (fun _ hk => hk) (.slice Pb rb.length pb)) (fun _ hk => hk) (.slice Qb fb.length qb)) (fun _ _ => trivial)) (Kd.R_mono (Kd.R_far (p := ⟨b6, 1, none⟩) (Kd.R_far (p := ⟨b6, 0, none⟩) (Kd.R_mono (Kd.R_types Cav33.out.2 K6v33.out (by decide)) (fun _ hk => hk.2)) (fun _ hk => hk) (.slice Pb rb.length pb)) (fun _ hk => hk) (.slice Qb fb.length qb)) (fun _ _ => trivial)))
          have Cbv34 : Hid (Kd.R k30 30 _ w.heap.size (fun _ => True) _ _ ∧ Kd.R k37 37 _ w.heap.size (fun _ => True) _ _) := Lib.hid (And.intro (Kd.R_mono (Kd.R_far (p := ⟨b6, 1, none⟩) (Kd.R_far (p := ⟨b6, 0, none⟩) (Kd.R_mono (Kd.R_types Cbv33.out.1 K6v33.out (by decide)) (fun _ hk => hk.2)) (fun _ hk => hk) (.slice Pb rb.length pb)) (fun _ hk => hk) (.slice Qb fb.length qb)) (fun _ _ => trivial)) (Kd.R_mono (Kd.R_far (p := ⟨b6, 1, none⟩) (Kd.R_far (p := ⟨b6, 0, none⟩) (Kd.R_mono (Kd.R_types Cbv33.out.2 K6v33.out (by decide)) (fun _ hk => hk.2)) (fun _ hk => hk) (.slice Pb rb.length pb)) (fun _ hk => hk) (.slice Qb fb.length qb)) (fun _ _ => trivial)))
          generalize ((v33.setCell ⟨b6, 0, none⟩ (.slice Pb rb.length pb)).setCell ⟨b6, 1, none⟩ (.slice Qb fb.length qb)) = v34 at PBv34 KAv34 KBv34 K5v34 K6v34 Cav34 Cbv34 ⊢
          clear PBv33 KAv33 KBv33 K5v33 K6v33 Cav33 Cbv33
          refine hK.out _ _ ⟨(blk_cell KAv34.out 0).trans rfl, (blk_cell KAv34.out 1).trans rfl, (blk_cell KBv34.out 0).trans rfl, (blk_cell KBv34.out 1).trans rfl⟩ (fun hHeld => ?_)
          clear hK K
          refine done_ (by kernel_rfl) ?_
          go_wp2_with fail
          go_meet
          exact ⟨b5, b6, Pa, pa, Qa, qa, Pb, pb, Qb, qb, rfl, rfl, K5v34, K6v34, KAv34, KBv34, Cav34, Cbv34, PBv34⟩
        · skip
          refine value_ (w1 := ?_) (v := ?_) (by rfl) rfl ?_ ?_
          rotate_left 2
          · go_simp
            constructor
            · rfl
            · rfl
          have hb : Below v30.heap.size v30 (v30.alloc (.cells #[.slice none 0 0, .slice none 0 0] 25)) := below_alloc (Below.refl _ _) _
          have K6v35 : Hid ((v30.alloc (.cells #[.slice none 0 0, .slice none 0 0] 25)).heap[v30.heap.size]? = some (.cells #[.slice none 0 0, .slice none 0 0] 25 (0, 0))) := Lib.hid (blk_new v30 _)
          have L6 : Hid (w.heap.size ≤ v30.heap.size) := Lib.hid PBv30.out.size
          have GA6 : Hid (w.heap.size ≠ v30.heap.size) := Lib.hid (Nat.ne_of_lt (blk_lt KAv30.out))
          have GB6 : Hid (w.heap.size + 1 ≠ v30.heap.size) := Lib.hid (Nat.ne_of_lt (blk_lt KBv30.out))
          have NQ : Hid (b5 ≠ v30.heap.size) := Lib.hid (Nat.ne_of_lt (blk_lt K5v30.out))
          have PBv35 := Lib.hid (PBv30.out.trans (hb.mono PBv30.out.size))
          have KAv35 := Lib.hid (blk_below KAv30.out hb)
          have KBv35 := Lib.hid (blk_below KBv30.out hb)
          have K5v35 := Lib.hid (blk_below K5v30.out hb)
          have Cav35 := Lib.hid (And.intro (Kd.R_below Cav30.out.1 hb) (Kd.R_below Cav30.out.2 hb))
          clear hb
          generalize v30.alloc (.cells #[.slice none 0 0, .slice none 0 0] 25) = v35 at PBv35 KAv35 KBv35 K6v35 K5v35 Cav35 ⊢
          generalize v30.heap.size = b6 at K6v35 L6 GA6 GB6 NQ ⊢
          have N56 : Hid (b5 ≠ b6) := Lib.hid NQ.out
          clear PBv30 KAv30 KBv30 K5v30 Cav30
          refine hK.out _ _ ⟨(blk_cell KAv35.out 0).trans rfl, (blk_cell KAv35.out 1).trans rfl, (blk_cell KBv35.out 0).trans rfl, (blk_cell KBv35.out 1).trans rfl⟩ (fun hHeld => ?_)
          clear hK K
          refine norm_ (a' := ?_) ?_ ?_
          rotate_left
          · show Act.put _ (some 6) _ = _
            simp only [Act.put, List.setIfInBounds_toArray, List.set_cons_zero, List.set_cons_succ]; rfl
          refine one_ (i := 3) (N := some 10) #[true, true, true, true, true, true, false, false] rfl rfl (by kernel_rfl) (by decide) (fun K hK => ?_)
          refine goes_ Try.func4 (by kernel_rfl) rfl #[.agg #[.slice Br rb.length dr, .slice Bf fb.length df]] (by rfl) rfl rfl (by simp only [List.map_toArray, List.map_cons, List.map_nil]; rfl) ?_
          refine (HCB.out v35 PBv35.out).mono ?_
          rintro e v36 ⟨Pb, pb, Qb, qb, rfl, u1, u2, hb⟩
          refine ⟨_, rfl, ?_⟩
          have PBv36 := Lib.hid (PBv35.out.trans (hb.mono PBv35.out.size))
          have KAv36 := Lib.hid (blk_below KAv35.out hb)
          have KBv36 := Lib.hid (blk_below KBv35.out hb)
          have K5v36 := Lib.hid (blk_below K5v35.out hb)
          have K6v36 := Lib.hid (blk_below K6v35.out hb)
          have Cav36 := Lib.hid (And.intro (Kd.R_below Cav35.out.1 hb) (Kd.R_below Cav35.out.2 hb))
          have Cbv36 := Lib.hid (And.intro (Kd.R_lower u1 PBv35.out.size) (Kd.R_lower u2 PBv35.out.size))
          clear hb u1 u2
          clear PBv35 KAv35 KBv35 K5v35 K6v35 Cav35
          refine hK.out _ _ ⟨(blk_cell KAv36.out 0).trans rfl, (blk_cell KAv36.out 1).trans rfl, (blk_cell KBv36.out 0).trans rfl, (blk_cell KBv36.out 1).trans rfl⟩ (fun hHeld => ?_)
          clear hK K
          refine norm_ (a' := ?_) ?_ ?_
          rotate_left
          · show Act.put _ (some 10) _ = _
            simp only [Act.put, List.setIfInBounds_toArray, List.set_cons_zero, List.set_cons_succ]; rfl
          refine one_ (i := 6) (N := none) #[true, true, true, true, true, true, true, false] rfl rfl (by kernel_rfl) (by decide) (fun K hK => ?_)
          have t0 : v36.cell? ⟨b5, 0, none⟩ = some (.slice none 0 0) := (blk_cell K5v36.out 0).trans rfl
          have t1 : v36.cell? ⟨b5, 1, none⟩ = some (.slice none 0 0) := (blk_cell K5v36.out 1).trans rfl
          have f0 := blk_frozen K5v36.out 0; have f1 := blk_frozen K5v36.out 1
          refine skip_ (w1 := ?_) (by rfl) rfl ?_ ?_
          rotate_left
          · go_simp
            rfl
          clear t0 t1 f0 f1
          have K5v37 : Hid (((v36.setCell ⟨b5, 0, none⟩ (.slice Pa ra.length pa)).setCell ⟨b5, 1, none⟩ (.slice Qa fa.length qa)).heap[b5]? = some (.cells #[.slice Pa ra.length pa, .slice Qa fa.length qa] 25 (0, 0))) := Lib.hid (blk_put (blk_put K5v36.out 0 _ rfl) 1 _ rfl)
          have K6v37 := Lib.hid (blk_far (p := ⟨b5, 1, none⟩) (blk_far (p := ⟨b5, 0, none⟩) K6v36.out N56.out.symm (.slice Pa ra.length pa)) N56.out.symm (.slice Qa fa.length qa))
          have KAv37 := Lib.hid (blk_far (p := ⟨b5, 1, none⟩) (blk_far (p := ⟨b5, 0, none⟩) KAv36.out GA5.out (.slice Pa ra.length pa)) GA5.out (.slice Qa fa.length qa))
          have KBv37 := Lib.hid (blk_far (p := ⟨b5, 1, none⟩) (blk_far (p := ⟨b5, 0, none⟩) KBv36.out GB5.out (.slice Pa ra.length pa)) GB5.out (.slice Qa fa.length qa))
          have PBv37 := Lib.hid (below_set (j := 1) (v := .slice Qa fa.length qa) (below_set (j := 0) (v := .slice Pa ra.length pa) PBv36.out L5.out) L5.out)
          have Cav37 : Hid (Kd.R k30 30 _ w.heap.size (fun _ => True) _ _ ∧ Kd.R k37 37 _ w.heap.size (fun _ => True) _ _) := Lib.hid (And.intro (Kd.R_mono (Kd.R_far (p := ⟨b5, 1, none⟩) (Kd.R_far (p := ⟨b5, 0, none⟩) (Kd.R_mono (Kd.R_types Cav36.out.1 K5v36.out (by decide)) (fun _ hk => hk.2)) (fun _ hk => hk) (.slice Pa ra.length pa)) (fun _ hk => hk) (.slice Qa fa.length qa)) (fun _ _ => trivial)) (Kd.R_mono (Kd.R_far (p := ⟨b5, 1, none⟩) (Kd.R_far (p := ⟨b5, 0, none⟩) (Kd.R_mono (Kd.R_types Cav36.out.2 K5v36.out (by decide)) (fun _ hk => hk.2)) (fun _ hk => hk) (.slice Pa ra.length pa)) (fun _ hk => hk) (.slice Qa fa.length qa)) (fun _ _ => trivial)))
          have Cbv37 : Hid (Kd.R k30 30 _ w.heap.size (fun _ => True) _ _ ∧ Kd.R k37 37 _ w.heap.size (fun _ => True) _ _) := Lib.hid (And.intro (Kd.R_mono (Kd.R_far (p := ⟨b5, 1, none⟩) (Kd.R_far (p := ⟨b5, 0, none⟩) (Kd.R_mono (Kd.R_types Cbv36.out.1 K5v36.out (by decide)) (fun _ hk => hk.2)) (fun _ hk => hk) (.slice Pa ra.length pa)) (fun _ hk => hk) (.slice Qa fa.length qa)) (fun _ _ => trivial)) (Kd.R_mono (Kd.R_far (p := ⟨b5, 1, none⟩) (Kd.R_far (p := ⟨b5, 0, none⟩) (Kd.R_mono (Kd.R_types Cbv36.out.2 K5v36.out (by decide)) (fun _ hk => hk.2)) (fun _ hk => hk) (.slice Pa ra.length pa)) (fun _ hk => hk) (.slice Qa fa.length qa)) (fun _ _ => trivial)))
          generalize ((v36.setCell ⟨b5, 0, none⟩ (.slice Pa ra.length pa)).setCell ⟨b5, 1, none⟩ (.slice Qa fa.length qa)) = v37 at PBv37 KAv37 KBv37 K5v37 K6v37 Cav37 Cbv37 ⊢
          clear PBv36 KAv36 KBv36 K5v36 K6v36 Cav36 Cbv36
          refine hK.out _ _ ⟨(blk_cell KAv37.out 0).trans rfl, (blk_cell KAv37.out 1).trans rfl, (blk_cell KBv37.out 0).trans rfl, (blk_cell KBv37.out 1).trans rfl⟩ (fun hHeld => ?_)
          clear hK K
          refine one_ (i := 7) (N := none) #[true, true, true, true, true, true, true, true] rfl rfl (by kernel_rfl) (by decide) (fun K hK => ?_)
          have t0 : v37.cell? ⟨b6, 0, none⟩ = some (.slice none 0 0) := (blk_cell K6v37.out 0).trans rfl
          have t1 : v37.cell? ⟨b6, 1, none⟩ = some (.slice none 0 0) := (blk_cell K6v37.out 1).trans rfl
          have f0 := blk_frozen K6v37.out 0; have f1 := blk_frozen K6v37.out 1
          refine skip_ (w1 := ?_) (by rfl) rfl ?_ ?_
          rotate_left
          · go_simp
            rfl
          clear t0 t1 f0 f1
          have K6v38 : Hid (((v37.setCell ⟨b6, 0, none⟩ (.slice Pb rb.length pb)).setCell ⟨b6, 1, none⟩ (.slice Qb fb.length qb)).heap[b6]? = some (.cells #[.slice Pb rb.length pb, .slice Qb fb.length qb] 25 (0, 0))) := Lib.hid (blk_put (blk_put K6v37.out 0 _ rfl) 1 _ rfl)
          have K5v38 := Lib.hid (blk_far (p := ⟨b6, 1, none⟩) (blk_far (p := ⟨b6, 0, none⟩) K5v37.out N56.out (.slice Pb rb.length pb)) N56.out (.slice Qb fb.length qb))
          have KAv38 := Lib.hid (blk_far (p := ⟨b6, 1, none⟩) (blk_far (p := ⟨b6, 0, none⟩) KAv37.out GA6.out (.slice Pb rb.length pb)) GA6.out (.slice Qb fb.length qb))
          have KBv38 := Lib.hid (blk_far (p := ⟨b6, 1, none⟩) (blk_far (p := ⟨b6, 0, none⟩) KBv37.out GB6.out (.slice Pb rb.length pb)) GB6.out (.slice Qb fb.length qb))
          have PBv38 := Lib.hid (below_set (j := 1) (v := .slice Qb fb.length qb) (below_set (j := 0) (v := .slice Pb rb.length pb) PBv37.out L6.out) L6.out)
          have Cav38 : Hid (Kd.R k30 30 _ w.heap.size (fun _ => True) _ _ ∧ Kd.R k37 37 _ w.heap.size (fun _ => True) _ _) := Lib.hid (And.intro (Kd.R_mono (Kd.R_far (p := ⟨b6, 1, none⟩) (Kd.R_far (p := ⟨b6, 0, none⟩) (Kd.R_mono (Kd.R_types Cav37.out.1 K6v37.out (by decide)) (fun _ hk => hk.2)) (fun _ hk => hk) (.slice Pb rb.length pb)) (fun _ hk => hk) (.slice Qb fb.length qb)) (fun _ _ => trivial)) (Kd.R_mono (Kd.R_far (p := ⟨b6, 1, none⟩) (Kd.R_far (p := ⟨b6, 0, none⟩) (Kd.R_mono (Kd.R_types Cav37.out.2 K6v37.out (by decide)) (fun _ hk => hk.2)) (fun _ hk => hk) (.slice Pb rb.length pb)) (fun _ hk => hk) (.slice Qb fb.length qb)) (fun _ _ => trivial)))
          have Cbv38 : Hid (Kd.R k30 30 _ w.heap.size (fun _ => True) _ _ ∧ Kd.R k37 37 _ w.heap.size (fun _ => True) _ _) := Lib.hid (And.intro (Kd.R_mono (Kd.R_far (p := ⟨b6, 1, none⟩) (Kd.R_far (p := ⟨b6, 0, none⟩) (Kd.R_mono (Kd.R_types Cbv37.out.1 K6v37.out (by decide)) (fun _ hk => hk.2)) (fun _ hk => hk) (.slice Pb rb.length pb)) (fun _ hk => hk) (.slice Qb fb.length qb)) (fun _ _ => trivial)) (Kd.R_mono (Kd.R_far (p := ⟨b6, 1, none⟩) (Kd.R_far (p := ⟨b6, 0, none⟩) (Kd.R_mono (Kd.R_types Cbv37.out.2 K6v37.out (by decide)) (fun _ hk => hk.2)) (fun _ hk => hk) (.slice Pb rb.length pb)) (fun _ hk => hk) (.slice Qb fb.length qb)) (fun _ _ => trivial)))
          generalize ((v37.setCell ⟨b6, 0, none⟩ (.slice Pb rb.length pb)).setCell ⟨b6, 1, none⟩ (.slice Qb fb.length qb)) = v38 at PBv38 KAv38 KBv38 K5v38 K6v38 Cav38 Cbv38 ⊢
          clear PBv37 KAv37 KBv37 K5v37 K6v37 Cav37 Cbv37
          refine hK.out _ _ ⟨(blk_cell KAv38.out 0).trans rfl, (blk_cell KAv38.out 1).trans rfl, (blk_cell KBv38.out 0).trans rfl, (blk_cell KBv38.out 1).trans rfl⟩ (fun hHeld => ?_)
          clear hK K
          refine done_ (by kernel_rfl) ?_
          go_wp2_with fail
          go_meet
          exact ⟨b5, b6, Pa, pa, Qa, qa, Pb, pb, Qb, qb, rfl, rfl, K5v38, K6v38, KAv38, KBv38, Cav38, Cbv38, PBv38⟩
      · skip
        refine value_ (w1 := ?_) (v := ?_) (by rfl) rfl ?_ ?_
        rotate_left 2
        · go_simp
          constructor
          · rfl
          · rfl
        have hb : Below v29.heap.size v29 (v29.alloc (.cells #[.slice none 0 0, .slice none 0 0] 25)) := below_alloc (Below.refl _ _) _
        have K6v39 : Hid ((v29.alloc (.cells #[.slice none 0 0, .slice none 0 0] 25)).heap[v29.heap.size]? = some (.cells #[.slice none 0 0, .slice none 0 0] 25 (0, 0))) := Lib.hid (blk_new v29 _)
        have L6 : Hid (w.heap.size ≤ v29.heap.size) := Lib.hid PBv29.out.size
        have GA6 : Hid (w.heap.size ≠ v29.heap.size) := Lib.hid (Nat.ne_of_lt (blk_lt KAv29.out))
        have GB6 : Hid (w.heap.size + 1 ≠ v29.heap.size) := Lib.hid (Nat.ne_of_lt (blk_lt KBv29.out))
        have NQ : Hid (b5 ≠ v29.heap.size) := Lib.hid (Nat.ne_of_lt (blk_lt K5v29.out))
        have PBv39 := Lib.hid (PBv29.out.trans (hb.mono PBv29.out.size))
        have KAv39 := Lib.hid (blk_below KAv29.out hb)
        have KBv39 := Lib.hid (blk_below KBv29.out hb)
        have K5v39 := Lib.hid (blk_below K5v29.out hb)
        clear hb
        generalize v29.alloc (.cells #[.slice none 0 0, .slice none 0 0] 25) = v39 at PBv39 KAv39 KBv39 K6v39 K5v39 ⊢
        generalize v29.heap.size = b6 at K6v39 L6 GA6 GB6 NQ ⊢
        have N56 : Hid (b5 ≠ b6) := Lib.hid NQ.out
        clear PBv29 KAv29 KBv29 K5v29
        refine hK.out _ _ ⟨(blk_cell KAv39.out 0).trans rfl, (blk_cell KAv39.out 1).trans rfl, (blk_cell KBv39.out 0).trans rfl, (blk_cell KBv39.out 1).trans rfl⟩ (fun hHeld => ?_)
        clear hK K
        refine norm_ (a' := ?_) ?_ ?_
        rotate_left
        · show Act.put _ (some 6) _ = _
          simp only [Act.put, List.setIfInBounds_toArray, List.set_cons_zero, List.set_cons_succ]; rfl
        refine one_ (i := 1) (N := some 8) #[true, true, true, false, true, true, false, false] rfl rfl (by kernel_rfl) (by decide) (fun K hK => ?_)
        refine goes_ Try.func4 (by kernel_rfl) rfl #[.agg #[.slice Ar ra.length cr, .slice Af fa.length cf]] (by rfl) rfl rfl (by simp only [List.map_toArray, List.map_cons, List.map_nil]; rfl) ?_
        refine (HCA.out v39 PBv39.out).mono ?_
        rintro e v40 ⟨Pa, pa, Qa, qa, rfl, u1, u2, hb⟩
        refine ⟨_, rfl, ?_⟩
        have PBv40 := Lib.hid (PBv39.out.trans (hb.mono PBv39.out.size))
        have KAv40 := Lib.hid (blk_below KAv39.out hb)
        have KBv40 := Lib.hid (blk_below KBv39.out hb)
        have K5v40 := Lib.hid (blk_below K5v39.out hb)
        have K6v40 := Lib.hid (blk_below K6v39.out hb)
        have Cav40 := Lib.hid (And.intro (Kd.R_lower u1 PBv39.out.size) (Kd.R_lower u2 PBv39.out.size))
        clear hb u1 u2
        clear PBv39 KAv39 KBv39 K5v39 K6v39
        refine hK.out _ _ ⟨(blk_cell KAv40.out 0).trans rfl, (blk_cell KAv40.out 1).trans rfl, (blk_cell KBv40.out 0).trans rfl, (blk_cell KBv40.out 1).trans rfl⟩ (fun hHeld => ?_)
        clear hK K
        refine norm_ (a' := ?_) ?_ ?_
        rotate_left
        · show Act.put _ (some 8) _ = _
          simp only [Act.put, List.setIfInBounds_toArray, List.set_cons_zero, List.set_cons_succ]; rfl
        refine one_ (i := 3) (N := some 10) #[true, true, true, true, true, true, false, false] rfl rfl (by kernel_rfl) (by decide) (fun K hK => ?_)
        refine goes_ Try.func4 (by kernel_rfl) rfl #[.agg #[.slice Br rb.length dr, .slice Bf fb.length df]] (by rfl) rfl rfl (by simp only [List.map_toArray, List.map_cons, List.map_nil]; rfl) ?_
        refine (HCB.out v40 PBv40.out).mono ?_
        rintro e v41 ⟨Pb, pb, Qb, qb, rfl, u1, u2, hb⟩
        refine ⟨_, rfl, ?_⟩
        have PBv41 := Lib.hid (PBv40.out.trans (hb.mono PBv40.out.size))
        have KAv41 := Lib.hid (blk_below KAv40.out hb)
        have KBv41 := Lib.hid (blk_below KBv40.out hb)
        have K5v41 := Lib.hid (blk_below K5v40.out hb)
        have K6v41 := Lib.hid (blk_below K6v40.out hb)
        have Cav41 := Lib.hid (And.intro (Kd.R_below Cav40.out.1 hb) (Kd.R_below Cav40.out.2 hb))
        have Cbv41 := Lib.hid (And.intro (Kd.R_lower u1 PBv40.out.size) (Kd.R_lower u2 PBv40.out.size))
        clear hb u1 u2
        clear PBv40 KAv40 KBv40 K5v40 K6v40 Cav40
        refine hK.out _ _ ⟨(blk_cell KAv41.out 0).trans rfl, (blk_cell KAv41.out 1).trans rfl, (blk_cell KBv41.out 0).trans rfl, (blk_cell KBv41.out 1).trans rfl⟩ (fun hHeld => ?_)
        clear hK K
        refine norm_ (a' := ?_) ?_ ?_
        rotate_left
        · show Act.put _ (some 10) _ = _
          simp only [Act.put, List.setIfInBounds_toArray, List.set_cons_zero, List.set_cons_succ]; rfl
        refine one_ (i := 6) (N := none) #[true, true, true, true, true, true, true, false] rfl rfl (by kernel_rfl) (by decide) (fun K hK => ?_)
        have t0 : v41.cell? ⟨b5, 0, none⟩ = some (.slice none 0 0) := (blk_cell K5v41.out 0).trans rfl
        have t1 : v41.cell? ⟨b5, 1, none⟩ = some (.slice none 0 0) := (blk_cell K5v41.out 1).trans rfl
        have f0 := blk_frozen K5v41.out 0; have f1 := blk_frozen K5v41.out 1
        refine skip_ (w1 := ?_) (by rfl) rfl ?_ ?_
        rotate_left
        · go_simp
          rfl
        clear t0 t1 f0 f1
        have K5v42 : Hid (((v41.setCell ⟨b5, 0, none⟩ (.slice Pa ra.length pa)).setCell ⟨b5, 1, none⟩ (.slice Qa fa.length qa)).heap[b5]? = some (.cells #[.slice Pa ra.length pa, .slice Qa fa.length qa] 25 (0, 0))) := Lib.hid (blk_put (blk_put K5v41.out 0 _ rfl) 1 _ rfl)
        have K6v42 := Lib.hid (blk_far (p := ⟨b5, 1, none⟩) (blk_far (p := ⟨b5, 0, none⟩) K6v41.out N56.out.symm (.slice Pa ra.length pa)) N56.out.symm (.slice Qa fa.length qa))
        have KAv42 := Lib.hid (blk_far (p := ⟨b5, 1, none⟩) (blk_far (p := ⟨b5, 0, none⟩) KAv41.out GA5.out (.slice Pa ra.length pa)) GA5.out (.slice Qa fa.length qa))
        have KBv42 := Lib.hid (blk_far (p := ⟨b5, 1, none⟩) (blk_far (p := ⟨b5, 0, none⟩) KBv41.out GB5.out (.slice Pa ra.length pa)) GB5.out (.slice Qa fa.length qa))
        have PBv42 := Lib.hid (below_set (j := 1) (v := .slice Qa fa.length qa) (below_set (j := 0) (v := .slice Pa ra.length pa) PBv41.out L5.out) L5.out)
        have Cav42 : Hid (Kd.R k30 30 _ w.heap.size (fun _ => True) _ _ ∧ Kd.R k37 37 _ w.heap.size (fun _ => True) _ _) := Lib.hid (And.intro (Kd.R_mono (Kd.R_far (p := ⟨b5, 1, none⟩) (Kd.R_far (p := ⟨b5, 0, none⟩) (Kd.R_mono (Kd.R_types Cav41.out.1 K5v41.out (by decide)) (fun _ hk => hk.2)) (fun _ hk => hk) (.slice Pa ra.length pa)) (fun _ hk => hk) (.slice Qa fa.length qa)) (fun _ _ => trivial)) (Kd.R_mono (Kd.R_far (p := ⟨b5, 1, none⟩) (Kd.R_far (p := ⟨b5, 0, none⟩) (Kd.R_mono (Kd.R_types Cav41.out.2 K5v41.out (by decide)) (fun _ hk => hk.2)) (fun _ hk => hk) (.slice Pa ra.length pa)) (fun _ hk => hk) (.slice Qa fa.length qa)) (fun _ _ => trivial)))
        have Cbv42 : Hid (Kd.R k30 30 _ w.heap.size (fun _ => True) _ _ ∧ Kd.R k37 37 _ w.heap.size (fun _ => True) _ _) := Lib.hid (And.intro (Kd.R_mono (Kd.R_far (p := ⟨b5, 1, none⟩) (Kd.R_far (p := ⟨b5, 0, none⟩) (Kd.R_mono (Kd.R_types Cbv41.out.1 K5v41.out (by decide)) (fun _ hk => hk.2)) (fun _ hk => hk) (.slice Pa ra.length pa)) (fun _ hk => hk) (.slice Qa fa.length qa)) (fun _ _ => trivial)) (Kd.R_mono (Kd.R_far (p := ⟨b5, 1, none⟩) (Kd.R_far (p := ⟨b5, 0, none⟩) (Kd.R_mono (Kd.R_types Cbv41.out.2 K5v41.out (by decide)) (fun _ hk => hk.2)) (fun _ hk => hk) (.slice Pa ra.length pa)) (fun _ hk => hk) (.slice Qa fa.length qa)) (fun _ _ => trivial)))
        generalize ((v41.setCell ⟨b5, 0, none⟩ (.slice Pa ra.length pa)).setCell ⟨b5, 1, none⟩ (.slice Qa fa.length qa)) = v42 at PBv42 KAv42 KBv42 K5v42 K6v42 Cav42 Cbv42 ⊢
        clear PBv41 KAv41 KBv41 K5v41 K6v41 Cav41 Cbv41
        refine hK.out _ _ ⟨(blk_cell KAv42.out 0).trans rfl, (blk_cell KAv42.out 1).trans rfl, (blk_cell KBv42.out 0).trans rfl, (blk_cell KBv42.out 1).trans rfl⟩ (fun hHeld => ?_)
        clear hK K
        refine one_ (i := 7) (N := none) #[true, true, true, true, true, true, true, true] rfl rfl (by kernel_rfl) (by decide) (fun K hK => ?_)
        have t0 : v42.cell? ⟨b6, 0, none⟩ = some (.slice none 0 0) := (blk_cell K6v42.out 0).trans rfl
        have t1 : v42.cell? ⟨b6, 1, none⟩ = some (.slice none 0 0) := (blk_cell K6v42.out 1).trans rfl
        have f0 := blk_frozen K6v42.out 0; have f1 := blk_frozen K6v42.out 1
        refine skip_ (w1 := ?_) (by rfl) rfl ?_ ?_
        rotate_left
        · go_simp
          rfl
        clear t0 t1 f0 f1
        have K6v43 : Hid (((v42.setCell ⟨b6, 0, none⟩ (.slice Pb rb.length pb)).setCell ⟨b6, 1, none⟩ (.slice Qb fb.length qb)).heap[b6]? = some (.cells #[.slice Pb rb.length pb, .slice Qb fb.length qb] 25 (0, 0))) := Lib.hid (blk_put (blk_put K6v42.out 0 _ rfl) 1 _ rfl)
        have K5v43 := Lib.hid (blk_far (p := ⟨b6, 1, none⟩) (blk_far (p := ⟨b6, 0, none⟩) K5v42.out N56.out (.slice Pb rb.length pb)) N56.out (.slice Qb fb.length qb))
        have KAv43 := Lib.hid (blk_far (p := ⟨b6, 1, none⟩) (blk_far (p := ⟨b6, 0, none⟩) KAv42.out GA6.out (.slice Pb rb.length pb)) GA6.out (.slice Qb fb.length qb))
        have KBv43 := Lib.hid (blk_far (p := ⟨b6, 1, none⟩) (blk_far (p := ⟨b6, 0, none⟩) KBv42.out GB6.out (.slice Pb rb.length pb)) GB6.out (.slice Qb fb.length qb))
        have PBv43 := Lib.hid (below_set (j := 1) (v := .slice Qb fb.length qb) (below_set (j := 0) (v := .slice Pb rb.length pb) PBv42.out L6.out) L6.out)
        have Cav43 : Hid (Kd.R k30 30 _ w.heap.size (fun _ => True) _ _ ∧ Kd.R k37 37 _ w.heap.size (fun _ => True) _ _) := Lib.hid (And.intro (Kd.R_mono (Kd.R_far (p := ⟨b6, 1, none⟩) (Kd.R_far (p := ⟨b6, 0, none⟩) (Kd.R_mono (Kd.R_types Cav42.out.1 K6v42.out (by decide)) (fun _ hk => hk.2)) (fun _ hk => hk) (.slice Pb rb.length pb)) (fun _ hk => hk) (.slice Qb fb.length qb)) (fun _ _ => trivial)) (Kd.R_mono (Kd.R_far (p := ⟨b6, 1, none⟩) (Kd.R_far (p := ⟨b6, 0, none⟩) (Kd.R_mono (Kd.R_types Cav42.out.2 K6v42.out (by decide)) (fun _ hk => hk.2)) (fun _ hk => hk) (.slice Pb rb.length pb)) (fun _ hk => hk) (.slice Qb fb.length qb)) (fun _ _ => trivial)))
        have Cbv43 : Hid (Kd.R k30 30 _ w.heap.size (fun _ => True) _ _ ∧ Kd.R k37 37 _ w.heap.size (fun _ => True) _ _) := Lib.hid (And.intro (Kd.R_mono (Kd.R_far (p := ⟨b6, 1, none⟩) (Kd.R_far (p := ⟨b6, 0, none⟩) (Kd.R_mono (Kd.R_types Cbv42.out.1 K6v42.out (by decide)) (fun _ hk => hk.2)) (fun _ hk => hk) (.slice Pb rb.length pb)) (fun _ hk => hk) (.slice Qb fb.length qb)) (fun _ _ => trivial)) (Kd.R_mono (Kd.R_far (p := ⟨b6, 1, none⟩) (Kd.R_far (p := ⟨b6, 0, none⟩) (Kd.R_mono (Kd.R_types Cbv42.out.2 K6v42.out (by decide)) (fun _ hk => hk.2)) (fun _ hk => hk) (.slice Pb rb.length pb)) (fun _ hk => hk) (.slice Qb fb.length qb)) (fun _ _ => trivial)))
        generalize ((v42.setCell ⟨b6, 0, none⟩ (.slice Pb rb.length pb)).setCell ⟨b6, 1, none⟩ (.slice Qb fb.length qb)) = v43 at PBv43 KAv43 KBv43 K5v43 K6v43 Cav43 Cbv43 ⊢
        clear PBv42 KAv42 KBv42 K5v42 K6v42 Cav42 Cbv42
        refine hK.out _ _ ⟨(blk_cell KAv43.out 0).trans rfl, (blk_cell KAv43.out 1).trans rfl, (blk_cell KBv43.out 0).trans rfl, (blk_cell KBv43.out 1).trans rfl⟩ (fun hHeld => ?_)
        clear hK K
        refine done_ (by kernel_rfl) ?_
        go_wp2_with fail
        go_meet
        exact ⟨b5, b6, Pa, pa, Qa, qa, Pb, pb, Qb, qb, rfl, rfl, K5v43, K6v43, KAv43, KBv43, Cav43, Cbv43, PBv43⟩
    · skip
      refine value_ (w1 := ?_) (v := ?_) (by rfl) rfl ?_ ?_
      rotate_left 2
      · go_simp
        constructor
        · rfl
        · rfl
      have hb : Below v0.heap.size v0 (v0.alloc (.cells #[.slice none 0 0, .slice none 0 0] 25)) := below_alloc (Below.refl _ _) _
      have K6v44 : Hid ((v0.alloc (.cells #[.slice none 0 0, .slice none 0 0] 25)).heap[v0.heap.size]? = some (.cells #[.slice none 0 0, .slice none 0 0] 25 (0, 0))) := Lib.hid (blk_new v0 _)
      have L6 : Hid (w.heap.size ≤ v0.heap.size) := Lib.hid PBv0.out.size
      have GA6 : Hid (w.heap.size ≠ v0.heap.size) := Lib.hid (Nat.ne_of_lt (blk_lt KAv0.out))
      have GB6 : Hid (w.heap.size + 1 ≠ v0.heap.size) := Lib.hid (Nat.ne_of_lt (blk_lt KBv0.out))
      have PBv44 := Lib.hid (PBv0.out.trans (hb.mono PBv0.out.size))
      have KAv44 := Lib.hid (blk_below KAv0.out hb)
      have KBv44 := Lib.hid (blk_below KBv0.out hb)
      clear hb
      generalize v0.alloc (.cells #[.slice none 0 0, .slice none 0 0] 25) = v44 at PBv44 KAv44 KBv44 K6v44 ⊢
      generalize v0.heap.size = b6 at K6v44 L6 GA6 GB6 ⊢
      clear PBv0 KAv0 KBv0
      refine hK.out _ _ ⟨(blk_cell KAv44.out 0).trans rfl, (blk_cell KAv44.out 1).trans rfl, (blk_cell KBv44.out 0).trans rfl, (blk_cell KBv44.out 1).trans rfl⟩ (fun hHeld => ?_)
      clear hK K
      refine norm_ (a' := ?_) ?_ ?_
      rotate_left
      · show Act.put _ (some 6) _ = _
        simp only [Act.put, List.setIfInBounds_toArray, List.set_cons_zero, List.set_cons_succ]; rfl
      refine two_ (i := 1) (j := 4) #[true, true, true, false, false, true, false, false] #[true, false, true, false, true, true, false, false] rfl rfl (by rfl) (by rfl) (by kernel_rfl) (by decide) (by decide) (fun K hK => ?_) (fun K hK => ?_)
      · skip
        refine goes_ Try.func4 (by kernel_rfl) rfl #[.agg #[.slice Ar ra.length cr, .slice Af fa.length cf]] (by rfl) rfl rfl (by simp only [List.map_toArray, List.map_cons, List.map_nil]; rfl) ?_
        refine (HCA.out v44 PBv44.out).mono ?_
        rintro e v45 ⟨Pa, pa, Qa, qa, rfl, u1, u2, hb⟩
        refine ⟨_, rfl, ?_⟩
        have PBv45 := Lib.hid (PBv44.out.trans (hb.mono PBv44.out.size))
        have KAv45 := Lib.hid (blk_below KAv44.out hb)
        have KBv45 := Lib.hid (blk_below KBv44.out hb)
        have K6v45 := Lib.hid (blk_below K6v44.out hb)
        have Cav45 := Lib.hid (And.intro (Kd.R_lower u1 PBv44.out.size) (Kd.R_lower u2 PBv44.out.size))
        clear hb u1 u2
        clear PBv44 KAv44 KBv44 K6v44
        refine hK.out _ _ ⟨(blk_cell KAv45.out 0).trans rfl, (blk_cell KAv45.out 1).trans rfl, (blk_cell KBv45.out 0).trans rfl, (blk_cell KBv45.out 1).trans rfl⟩ (fun hHeld => ?_)
        clear hK K
        refine norm_ (a' := ?_) ?_ ?_
        rotate_left
        · show Act.put _ (some 8) _ = _
          simp only [Act.put, List.setIfInBounds_toArray, List.set_cons_zero, List.set_cons_succ]; rfl
        refine two_ (i := 3) (j := 4) #[true, true, true, true, false, true, false, false] #[true, true, true, false, true, true, false, false] rfl rfl (by rfl) (by rfl) (by kernel_rfl) (by decide) (by decide) (fun K hK => ?_) (fun K hK => ?_)
        · skip
          refine goes_ Try.func4 (by kernel_rfl) rfl #[.agg #[.slice Br rb.length dr, .slice Bf fb.length df]] (by rfl) rfl rfl (by simp only [List.map_toArray, List.map_cons, List.map_nil]; rfl) ?_
          refine (HCB.out v45 PBv45.out).mono ?_
          rintro e v46 ⟨Pb, pb, Qb, qb, rfl, u1, u2, hb⟩
          refine ⟨_, rfl, ?_⟩
          have PBv46 := Lib.hid (PBv45.out.trans (hb.mono PBv45.out.size))
          have KAv46 := Lib.hid (blk_below KAv45.out hb)
          have KBv46 := Lib.hid (blk_below KBv45.out hb)
          have K6v46 := Lib.hid (blk_below K6v45.out hb)
          have Cav46 := Lib.hid (And.intro (Kd.R_below Cav45.out.1 hb) (Kd.R_below Cav45.out.2 hb))
          have Cbv46 := Lib.hid (And.intro (Kd.R_lower u1 PBv45.out.size) (Kd.R_lower u2 PBv45.out.size))
          clear hb u1 u2
          clear PBv45 KAv45 KBv45 K6v45 Cav45
          refine hK.out _ _ ⟨(blk_cell KAv46.out 0).trans rfl, (blk_cell KAv46.out 1).trans rfl, (blk_cell KBv46.out 0).trans rfl, (blk_cell KBv46.out 1).trans rfl⟩ (fun hHeld => ?_)
          clear hK K
          refine norm_ (a' := ?_) ?_ ?_
          rotate_left
          · show Act.put _ (some 10) _ = _
            simp only [Act.put, List.setIfInBounds_toArray, List.set_cons_zero, List.set_cons_succ]; rfl
          refine one_ (i := 4) (N := some 5) #[true, true, true, true, true, true, false, false] rfl rfl (by kernel_rfl) (by decide) (fun K hK => ?_)
          refine value_ (w1 := ?_) (v := ?_) (by rfl) rfl ?_ ?_
          rotate_left 2
          · go_simp
            constructor
            · rfl
            · rfl
          have hb : Below v46.heap.size v46 (v46.alloc (.cells #[.slice none 0 0, .slice none 0 0] 25)) := below_alloc (Below.refl _ _) _
          have K5v47 : Hid ((v46.alloc (.cells #[.slice none 0 0, .slice none 0 0] 25)).heap[v46.heap.size]? = some (.cells #[.slice none 0 0, .slice none 0 0] 25 (0, 0))) := Lib.hid (blk_new v46 _)
          have L5 : Hid (w.heap.size ≤ v46.heap.size) := Lib.hid PBv46.out.size
          have GA5 : Hid (w.heap.size ≠ v46.heap.size) := Lib.hid (Nat.ne_of_lt (blk_lt KAv46.out))
          have GB5 : Hid (w.heap.size + 1 ≠ v46.heap.size) := Lib.hid (Nat.ne_of_lt (blk_lt KBv46.out))
          have NQ : Hid (b6 ≠ v46.heap.size) := Lib.hid (Nat.ne_of_lt (blk_lt K6v46.out))
          have PBv47 := Lib.hid (PBv46.out.trans (hb.mono PBv46.out.size))
          have KAv47 := Lib.hid (blk_below KAv46.out hb)
          have KBv47 := Lib.hid (blk_below KBv46.out hb)
          have K6v47 := Lib.hid (blk_below K6v46.out hb)
          have Cav47 := Lib.hid (And.intro (Kd.R_below Cav46.out.1 hb) (Kd.R_below Cav46.out.2 hb))
          have Cbv47 := Lib.hid (And.intro (Kd.R_below Cbv46.out.1 hb) (Kd.R_below Cbv46.out.2 hb))
          clear hb
          generalize v46.alloc (.cells #[.slice none 0 0, .slice none 0 0] 25) = v47 at PBv47 KAv47 KBv47 K5v47 K6v47 Cav47 Cbv47 ⊢
          generalize v46.heap.size = b5 at K5v47 L5 GA5 GB5 NQ ⊢
          have N56 : Hid (b5 ≠ b6) := Lib.hid NQ.out.symm
          clear PBv46 KAv46 KBv46 K6v46 Cav46 Cbv46
          refine hK.out _ _ ⟨(blk_cell KAv47.out 0).trans rfl, (blk_cell KAv47.out 1).trans rfl, (blk_cell KBv47.out 0).trans rfl, (blk_cell KBv47.out 1).trans rfl⟩ (fun hHeld => ?_)
          clear hK K
          refine norm_ (a' := ?_) ?_ ?_
          rotate_left
          · show Act.put _ (some 5) _ = _
            simp only [Act.put, List.setIfInBounds_toArray, List.set_cons_zero, List.set_cons_succ]; rfl
          refine one_ (i := 6) (N := none) #[true, true, true, true, true, true, true, false] rfl rfl (by kernel_rfl) (by decide) (fun K hK => ?_)
          have t0 : v47.cell? ⟨b5, 0, none⟩ = some (.slice none 0 0) := (blk_cell K5v47.out 0).trans rfl
          have t1 : v47.cell? ⟨b5, 1, none⟩ = some (.slice none 0 0) := (blk_cell K5v47.out 1).trans rfl
          have f0 := blk_frozen K5v47.out 0; have f1 := blk_frozen K5v47.out 1
          refine skip_ (w1 := ?_) (by rfl) rfl ?_ ?_
          rotate_left
          · go_simp
            rfl
          clear t0 t1 f0 f1
          have K5v48 : Hid (((v47.setCell ⟨b5, 0, none⟩ (.slice Pa ra.length pa)).setCell ⟨b5, 1, none⟩ (.slice Qa fa.length qa)).heap[b5]? = some (.cells #[.slice Pa ra.length pa, .slice Qa fa.length qa] 25 (0, 0))) := Lib.hid (blk_put (blk_put K5v47.out 0 _ rfl) 1 _ rfl)
          have K6v48 := Lib.hid (blk_far (p := ⟨b5, 1, none⟩) (blk_far (p := ⟨b5, 0, none⟩) K6v47.out N56.out.symm (.slice Pa ra.length pa)) N56.out.symm (.slice Qa fa.length qa))
          have KAv48 := Lib.hid (blk_far (p := ⟨b5, 1, none⟩) (blk_far (p := ⟨b5, 0, none⟩) KAv47.out GA5.out (.slice Pa ra.length pa)) GA5.out (.slice Qa fa.length qa))
          have KBv48 := Lib.hid (blk_far (p := ⟨b5, 1, none⟩) (blk_far (p := ⟨b5, 0, none⟩) KBv47.out GB5.out (.slice Pa ra.length pa)) GB5.out (.slice Qa fa.length qa))
          have PBv48 := Lib.hid (below_set (j := 1) (v := .slice Qa fa.length qa) (below_set (j := 0) (v := .slice Pa ra.length pa) PBv47.out L5.out) L5.out)
          have Cav48 : Hid (Kd.R k30 30 _ w.heap.size (fun _ => True) _ _ ∧ Kd.R k37 37 _ w.heap.size (fun _ => True) _ _) := Lib.hid (And.intro (Kd.R_mono (Kd.R_far (p := ⟨b5, 1, none⟩) (Kd.R_far (p := ⟨b5, 0, none⟩) (Kd.R_mono (Kd.R_types Cav47.out.1 K5v47.out (by decide)) (fun _ hk => hk.2)) (fun _ hk => hk) (.slice Pa ra.length pa)) (fun _ hk => hk) (.slice Qa fa.length qa)) (fun _ _ => trivial)) (Kd.R_mono (Kd.R_far (p := ⟨b5, 1, none⟩) (Kd.R_far (p := ⟨b5, 0, none⟩) (Kd.R_mono (Kd.R_types Cav47.out.2 K5v47.out (by decide)) (fun _ hk => hk.2)) (fun _ hk => hk) (.slice Pa ra.length pa)) (fun _ hk => hk) (.slice Qa fa.length qa)) (fun _ _ => trivial)))
          have Cbv48 : Hid (Kd.R k30 30 _ w.heap.size (fun _ => True) _ _ ∧ Kd.R k37 37 _ w.heap.size (fun _ => True) _ _) := Lib.hid (And.intro (Kd.R_mono (Kd.R_far (p := ⟨b5, 1, none⟩) (Kd.R_far (p := ⟨b5, 0, none⟩) (Kd.R_mono (Kd.R_types Cbv47.out.1 K5v47.out (by decide)) (fun _ hk => hk.2)) (fun _ hk => hk) (.slice Pa ra.length pa)) (fun _ hk => hk) (.slice Qa fa.length qa)) (fun _ _ => trivial)) (Kd.R_mono (Kd.R_far (p := ⟨b5, 1, none⟩) (Kd.R_far (p := ⟨b5, 0, none⟩) (Kd.R_mono (Kd.R_types Cbv47.out.2 K5v47.out (by decide)) (fun _ hk => hk.2)) (fun _ hk => hk) (.slice Pa ra.length pa)) (fun _ hk => hk) (.slice Qa fa.length qa)) (fun _ _ => trivial)))
          generalize ((v47.setCell ⟨b5, 0, none⟩ (.slice Pa ra.length pa)).setCell ⟨b5, 1, none⟩ (.slice Qa fa.length qa)) = v48 at PBv48 KAv48 KBv48 K5v48 K6v48 Cav48 Cbv48 ⊢
          clear PBv47 KAv47 KBv47 K5v47 K6v47 Cav47 Cbv47
          refine hK.out _ _ ⟨(blk_cell KAv48.out 0).trans rfl, (blk_cell KAv48.out 1).trans rfl, (blk_cell KBv48.out 0).trans rfl, (blk_cell KBv48.out 1).trans rfl⟩ (fun hHeld => ?_)
          clear hK K
          refine one_ (i := 7) (N := none) #[true, true, true, true, true, true, true, true] rfl rfl (by kernel_rfl) (by decide) (fun K hK => ?_)
          have t0 : v48.cell? ⟨b6, 0, none⟩ = some (.slice none 0 0) := (blk_cell K6v48.out 0).trans rfl
          have t1 : v48.cell? ⟨b6, 1, none⟩ = some (.slice none 0 0) := (blk_cell K6v48.out 1).trans rfl
          have f0 := blk_frozen K6v48.out 0; have f1 := blk_frozen K6v48.out 1
          refine skip_ (w1 := ?_) (by rfl) rfl ?_ ?_
          rotate_left
          · go_simp
            rfl
          clear t0 t1 f0 f1
          have K6v49 : Hid (((v48.setCell ⟨b6, 0, none⟩ (.slice Pb rb.length pb)).setCell ⟨b6, 1, none⟩ (.slice Qb fb.length qb)).heap[b6]? = some (.cells #[.slice Pb rb.length pb, .slice Qb fb.length qb] 25 (0, 0))) := Lib.hid (blk_put (blk_put K6v48.out 0 _ rfl) 1 _ rfl)
          have K5v49 := Lib.hid (blk_far (p := ⟨b6, 1, none⟩) (blk_far (p := ⟨b6, 0, none⟩) K5v48.out N56.out (.slice Pb rb.length pb)) N56.out (.slice Qb fb.length qb))
          have KAv49 := Lib.hid (blk_far (p := ⟨b6, 1, none⟩) (blk_far (p := ⟨b6, 0, none⟩) KAv48.out GA6.out (.slice Pb rb.length pb)) GA6.out (.slice Qb fb.length qb))
          have KBv49 := Lib.hid (blk_far (p := ⟨b6, 1, none⟩) (blk_far (p := ⟨b6, 0, none⟩) KBv48.out GB6.out (.slice Pb rb.length pb)) GB6.out (.slice Qb fb.length qb))
          have PBv49 := Lib.hid (below_set (j := 1) (v := .slice Qb fb.length qb) (below_set (j := 0) (v := .slice Pb rb.length pb) PBv48.out L6.out) L6.out)
          have Cav49 : Hid (Kd.R k30 30 _ w.heap.size (fun _ => True) _ _ ∧ Kd.R k37 37 _ w.heap.size (fun _ => True) _ _) := Lib.hid (And.intro (Kd.R_mono (Kd.R_far (p := ⟨b6, 1, none⟩) (Kd.R_far (p := ⟨b6, 0, none⟩) (Kd.R_mono (Kd.R_types Cav48.out.1 K6v48.out (by decide)) (fun _ hk => hk.2)) (fun _ hk => hk) (.slice Pb rb.length pb)) (fun _ hk => hk) (.slice Qb fb.length qb)) (fun _ _ => trivial)) (Kd.R_mono (Kd.R_far (p := ⟨b6, 1, none⟩) (Kd.R_far (p := ⟨b6, 0, none⟩) (Kd.R_mono (Kd.R_types Cav48.out.2 K6v48.out (by decide)) (fun _ hk => hk.2)) (fun _ hk => hk) (.slice Pb rb.length pb)) (fun _ hk => hk) (.slice Qb fb.length qb)) (fun _ _ => trivial)))
          have Cbv49 : Hid (Kd.R k30 30 _ w.heap.size (fun _ => True) _ _ ∧ Kd.R k37 37 _ w.heap.size (fun _ => True) _ _) := Lib.hid (And.intro (Kd.R_mono (Kd.R_far (p := ⟨b6, 1, none⟩) (Kd.R_far (p := ⟨b6, 0, none⟩) (Kd.R_mono (Kd.R_types Cbv48.out.1 K6v48.out (by decide)) (fun _ hk => hk.2)) (fun _ hk => hk) (.slice Pb rb.length pb)) (fun _ hk => hk) (.slice Qb fb.length qb)) (fun _ _ => trivial)) (Kd.R_mono (Kd.R_far (p := ⟨b6, 1, none⟩) (Kd.R_far (p := ⟨b6, 0, none⟩) (Kd.R_mono (Kd.R_types Cbv48.out.2 K6v48.out (by decide)) (fun _ hk => hk.2)) (fun _ hk => hk) (.slice Pb rb.length pb)) (fun _ hk => hk) (.slice Qb fb.length qb)) (fun _ _ => trivial)))
          generalize ((v48.setCell ⟨b6, 0, none⟩ (.slice Pb rb.length pb)).setCell ⟨b6, 1, none⟩ (.slice Qb fb.length qb)) = v49 at PBv49 KAv49 KBv49 K5v49 K6v49 Cav49 Cbv49 ⊢
          clear PBv48 KAv48 KBv48 K5v48 K6v48 Cav48 Cbv48
          refine hK.out _ _ ⟨(blk_cell KAv49.out 0).trans rfl, (blk_cell KAv49.out 1).trans rfl, (blk_cell KBv49.out 0).trans rfl, (blk_cell KBv49.out 1).trans rfl⟩ (fun hHeld => ?_)
          clear hK K
          refine done_ (by kernel_rfl) ?_
          go_wp2_with fail
          go_meet
          exact ⟨b5, b6, Pa, pa, Qa, qa, Pb, pb, Qb, qb, rfl, rfl, K5v49, K6v49, KAv49, KBv49, Cav49, Cbv49, PBv49⟩
        · skip
          refine value_ (w1 := ?_) (v := ?_) (by rfl) rfl ?_ ?_
          rotate_left 2
          · go_simp
            constructor
            · rfl
            · rfl
          have hb : Below v45.heap.size v45 (v45.alloc (.cells #[.slice none 0 0, .slice none 0 0] 25)) := below_alloc (Below.refl _ _) _
          have K5v50 : Hid ((v45.alloc (.cells #[.slice none 0 0, .slice none 0 0] 25)).heap[v45.heap.size]? = some (.cells #[.slice none 0 0, .slice none 0 0] 25 (0, 0))) := Lib.hid (blk_new v45 _)
          have L5 : Hid (w.heap.size ≤ v45.heap.size) := Lib.hid PBv45.out.size
          have GA5 : Hid (w.heap.size ≠ v45.heap.size) := Lib.hid (Nat.ne_of_lt (blk_lt KAv45.out))
          have GB5 : Hid (w.heap.size + 1 ≠ v45.heap.size) := Lib.hid (Nat.ne_of_lt (blk_lt KBv45.out))
          have NQ : Hid (b6 ≠ v45.heap.size) := Lib.hid (Nat.ne_of_lt (blk_lt K6v45.out))
          have PBv50 := Lib.hid (PBv45.out.trans (hb.mono PBv45.out.size))
          have KAv50 := Lib.hid (blk_below KAv45.out hb)
          have KBv50 := Lib.hid (blk_below KBv45.out hb)
          have K6v50 := Lib.hid (blk_below K6v45.out hb)
          have Cav50 := Lib.hid (And.intro (Kd.R_below Cav45.out.1 hb) (Kd.R_below Cav45.out.2 hb))
          clear hb
          generalize v45.alloc (.cells #[.slice none 0 0, .slice none 0 0] 25) = v50 at PBv50 KAv50 KBv50 K5v50 K6v50 Cav50 ⊢
          generalize v45.heap.size = b5 at K5v50 L5 GA5 GB5 NQ ⊢
          have N56 : Hid (b5 ≠ b6) := Lib.hid NQ.out.symm
          clear PBv45 KAv45 KBv45 K6v45 Cav45
          refine hK.out _ _ ⟨(blk_cell KAv50.out 0).trans rfl, (blk_cell KAv50.out 1).trans rfl, (blk_cell KBv50.out 0).trans rfl, (blk_cell KBv50.out 1).trans rfl⟩ (fun hHeld => ?_)
          clear hK K
          refine norm_ (a' := ?_) ?_ ?_
          rotate_left
          · show Act.put _ (some 5) _ = _
            simp only [Act.put, List.setIfInBounds_toArray, List.set_cons_zero, List.set_cons_succ]; rfl
          refine one_ (i := 3) (N := some 10) #[true, true, true, true, true, true, false, false] rfl rfl (by kernel_rfl) (by decide) (fun K hK => ?_)
          refine goes_ Try.func4 (by kernel_rfl) rfl #[.agg #[.slice Br rb.length dr, .slice Bf fb.length df]] (by rfl) rfl rfl (by simp only [List.map_toArray, List.map_cons, List.map_nil]; rfl) ?_
          refine (HCB.out v50 PBv50.out).mono ?_
          rintro e v51 ⟨Pb, pb, Qb, qb, rfl, u1, u2, hb⟩
          refine ⟨_, rfl, ?_⟩
          have PBv51 := Lib.hid (PBv50.out.trans (hb.mono PBv50.out.size))
          have KAv51 := Lib.hid (blk_below KAv50.out hb)
          have KBv51 := Lib.hid (blk_below KBv50.out hb)
          have K5v51 := Lib.hid (blk_below K5v50.out hb)
          have K6v51 := Lib.hid (blk_below K6v50.out hb)
          have Cav51 := Lib.hid (And.intro (Kd.R_below Cav50.out.1 hb) (Kd.R_below Cav50.out.2 hb))
          have Cbv51 := Lib.hid (And.intro (Kd.R_lower u1 PBv50.out.size) (Kd.R_lower u2 PBv50.out.size))
          clear hb u1 u2
          clear PBv50 KAv50 KBv50 K5v50 K6v50 Cav50
          refine hK.out _ _ ⟨(blk_cell KAv51.out 0).trans rfl, (blk_cell KAv51.out 1).trans rfl, (blk_cell KBv51.out 0).trans rfl, (blk_cell KBv51.out 1).trans rfl⟩ (fun hHeld => ?_)
          clear hK K
          refine norm_ (a' := ?_) ?_ ?_
          rotate_left
          · show Act.put _ (some 10) _ = _
            simp only [Act.put, List.setIfInBounds_toArray, List.set_cons_zero, List.set_cons_succ]; rfl
          refine one_ (i := 6) (N := none) #[true, true, true, true, true, true, true, false] rfl rfl (by kernel_rfl) (by decide) (fun K hK => ?_)
          have t0 : v51.cell? ⟨b5, 0, none⟩ = some (.slice none 0 0) := (blk_cell K5v51.out 0).trans rfl
          have t1 : v51.cell? ⟨b5, 1, none⟩ = some (.slice none 0 0) := (blk_cell K5v51.out 1).trans rfl
          have f0 := blk_frozen K5v51.out 0; have f1 := blk_frozen K5v51.out 1
          refine skip_ (w1 := ?_) (by rfl) rfl ?_ ?_
          rotate_left
          · go_simp
            rfl
          clear t0 t1 f0 f1
          have K5v52 : Hid (((v51.setCell ⟨b5, 0, none⟩ (.slice Pa ra.length pa)).setCell ⟨b5, 1, none⟩ (.slice Qa fa.length qa)).heap[b5]? = some (.cells #[.slice Pa ra.length pa, .slice Qa fa.length qa] 25 (0, 0))) := Lib.hid (blk_put (blk_put K5v51.out 0 _ rfl) 1 _ rfl)
          have K6v52 := Lib.hid (blk_far (p := ⟨b5, 1, none⟩) (blk_far (p := ⟨b5, 0, none⟩) K6v51.out N56.out.symm (.slice Pa ra.length pa)) N56.out.symm (.slice Qa fa.length qa))
          have KAv52 := Lib.hid (blk_far (p := ⟨b5, 1, none⟩) (blk_far (p := ⟨b5, 0, none⟩) KAv51.out GA5.out (.slice Pa ra.length pa)) GA5.out (.slice Qa fa.length qa))
          have KBv52 := Lib.hid (blk_far (p := ⟨b5, 1, none⟩) (blk_far (p := ⟨b5, 0, none⟩) KBv51.out GB5.out (.slice Pa ra.length pa)) GB5.out (.slice Qa fa.length qa))
          have PBv52 := Lib.hid (below_set (j := 1) (v := .slice Qa fa.length qa) (below_set (j := 0) (v := .slice Pa ra.length pa) PBv51.out L5.out) L5.out)
          have Cav52 : Hid (Kd.R k30 30 _ w.heap.size (fun _ => True) _ _ ∧ Kd.R k37 37 _ w.heap.size (fun _ => True) _ _) := Lib.hid (And.intro (Kd.R_mono (Kd.R_far (p := ⟨b5, 1, none⟩) (Kd.R_far (p := ⟨b5, 0, none⟩) (Kd.R_mono (Kd.R_types Cav51.out.1 K5v51.out (by decide)) (fun _ hk => hk.2)) (fun _ hk => hk) (.slice Pa ra.length pa)) (fun _ hk => hk) (.slice Qa fa.length qa)) (fun _ _ => trivial)) (Kd.R_mono (Kd.R_far (p := ⟨b5, 1, none⟩) (Kd.R_far (p := ⟨b5, 0, none⟩) (Kd.R_mono (Kd.R_types Cav51.out.2 K5v51.out (by decide)) (fun _ hk => hk.2)) (fun _ hk => hk) (.slice Pa ra.length pa)) (fun _ hk => hk) (.slice Qa fa.length qa)) (fun _ _ => trivial)))
          have Cbv52 : Hid (Kd.R k30 30 _ w.heap.size (fun _ => True) _ _ ∧ Kd.R k37 37 _ w.heap.size (fun _ => True) _ _) := Lib.hid (And.intro (Kd.R_mono (Kd.R_far (p := ⟨b5, 1, none⟩) (Kd.R_far (p := ⟨b5, 0, none⟩) (Kd.R_mono (Kd.R_types Cbv51.out.1 K5v51.out (by decide)) (fun _ hk => hk.2)) (fun _ hk => hk) (.slice Pa ra.length pa)) (fun _ hk => hk) (.slice Qa fa.length qa)) (fun _ _ => trivial)) (Kd.R_mono (Kd.R_far (p := ⟨b5, 1, none⟩) (Kd.R_far (p := ⟨b5, 0, none⟩) (Kd.R_mono (Kd.R_types Cbv51.out.2 K5v51.out (by decide)) (fun _ hk => hk.2)) (fun _ hk => hk) (.slice Pa ra.length pa)) (fun _ hk => hk) (.slice Qa fa.length qa)) (fun _ _ => trivial)))
          generalize ((v51.setCell ⟨b5, 0, none⟩ (.slice Pa ra.length pa)).setCell ⟨b5, 1, none⟩ (.slice Qa fa.length qa)) = v52 at PBv52 KAv52 KBv52 K5v52 K6v52 Cav52 Cbv52 ⊢
          clear PBv51 KAv51 KBv51 K5v51 K6v51 Cav51 Cbv51
          refine hK.out _ _ ⟨(blk_cell KAv52.out 0).trans rfl, (blk_cell KAv52.out 1).trans rfl, (blk_cell KBv52.out 0).trans rfl, (blk_cell KBv52.out 1).trans rfl⟩ (fun hHeld => ?_)
          clear hK K
          refine one_ (i := 7) (N := none) #[true, true, true, true, true, true, true, true] rfl rfl (by kernel_rfl) (by decide) (fun K hK => ?_)
          have t0 : v52.cell? ⟨b6, 0, none⟩ = some (.slice none 0 0) := (blk_cell K6v52.out 0).trans rfl
          have t1 : v52.cell? ⟨b6, 1, none⟩ = some (.slice none 0 0) := (blk_cell K6v52.out 1).trans rfl
          have f0 := blk_frozen K6v52.out 0; have f1 := blk_frozen K6v52.out 1
          refine skip_ (w1 := ?_) (by rfl) rfl ?_ ?_
          rotate_left
          · go_simp
            rfl
          clear t0 t1 f0 f1
          have K6v53 : Hid (((v52.setCell ⟨b6, 0, none⟩ (.slice Pb rb.length pb)).setCell ⟨b6, 1, none⟩ (.slice Qb fb.length qb)).heap[b6]? = some (.cells #[.slice Pb rb.length pb, .slice Qb fb.length qb] 25 (0, 0))) := Lib.hid (blk_put (blk_put K6v52.out 0 _ rfl) 1 _ rfl)
          have K5v53 := Lib.hid (blk_far (p := ⟨b6, 1, none⟩) (blk_far (p := ⟨b6, 0, none⟩) K5v52.out N56.out (.slice Pb rb.length pb)) N56.out (.slice Qb fb.length qb))
          have KAv53 := Lib.hid (blk_far (p := ⟨b6, 1, none⟩) (blk_far (p := ⟨b6, 0, none⟩) KAv52.out GA6.out (.slice Pb rb.length pb)) GA6.out (.slice Qb fb.length qb))
          have KBv53 := Lib.hid (blk_far (p := ⟨b6, 1, none⟩) (blk_far (p := ⟨b6, 0, none⟩) KBv52.out GB6.out (.slice Pb rb.length pb)) GB6.out (.slice Qb fb.length qb))
          have PBv53 := Lib.hid (below_set (j := 1) (v := .slice Qb fb.length qb) (below_set (j := 0) (v := .slice Pb rb.length pb) PBv52.out L6.out) L6.out)
          have Cav53 : Hid (Kd.R k30 30 _ w.heap.size (fun _ => True) _ _ ∧ Kd.R k37 37 _ w.heap.size (fun _ => True) _ _) := Lib.hid (And.intro (Kd.R_mono (Kd.R_far (p := ⟨b6, 1, none⟩) (Kd.R_far (p := ⟨b6, 0, none⟩) (Kd.R_mono (Kd.R_types Cav52.out.1 K6v52.out (by decide)) (fun _ hk => hk.2)) (fun _ hk => hk) (.slice Pb rb.length pb)) (fun _ hk => hk) (.slice Qb fb.length qb)) (fun _ _ => trivial)) (Kd.R_mono (Kd.R_far (p := ⟨b6, 1, none⟩) (Kd.R_far (p := ⟨b6, 0, none⟩) (Kd.R_mono (Kd.R_types Cav52.out.2 K6v52.out (by decide)) (fun _ hk => hk.2)) (fun _ hk => hk) (.slice Pb rb.length pb)) (fun _ hk => hk) (.slice Qb fb.length qb)) (fun _ _ => trivial)))
          have Cbv53 : Hid (Kd.R k30 30 _ w.heap.size (fun _ => True) _ _ ∧ Kd.R k37 37 _ w.heap.size (fun _ => True) _ _) := Lib.hid (And.intro (Kd.R_mono (Kd.R_far (p := ⟨b6, 1, none⟩) (Kd.R_far (p := ⟨b6, 0, none⟩) (Kd.R_mono (Kd.R_types Cbv52.out.1 K6v52.out (by decide)) (fun _ hk => hk.2)) (fun _ hk => hk) (.slice Pb rb.length pb)) (fun _ hk => hk) (.slice Qb fb.length qb)) (fun _ _ => trivial)) (Kd.R_mono (Kd.R_far (p := ⟨b6, 1, none⟩) (Kd.R_far (p := ⟨b6, 0, none⟩) (Kd.R_mono (Kd.R_types Cbv52.out.2 K6v52.out (by decide)) (fun _ hk => hk.2)) (fun _ hk => hk) (.slice Pb rb.length pb)) (fun _ hk => hk) (.slice Qb fb.length qb)) (fun _ _ => trivial)))
          generalize ((v52.setCell ⟨b6, 0, none⟩ (.slice Pb rb.length pb)).setCell ⟨b6, 1, none⟩ (.slice Qb fb.length qb)) = v53 at PBv53 KAv53 KBv53 K5v53 K6v53 Cav53 Cbv53 ⊢
          clear PBv52 KAv52 KBv52 K5v52 K6v52 Cav52 Cbv52
          refine hK.out _ _ ⟨(blk_cell KAv53.out 0).trans rfl, (blk_cell KAv53.out 1).trans rfl, (blk_cell KBv53.out 0).trans rfl, (blk_cell KBv53.out 1).trans rfl⟩ (fun hHeld => ?_)
          clear hK K
          refine done_ (by kernel_rfl) ?_
          go_wp2_with fail
          go_meet
          exact ⟨b5, b6, Pa, pa, Qa, qa, Pb, pb, Qb, qb, rfl, rfl, K5v53, K6v53, KAv53, KBv53, Cav53, Cbv53, PBv53⟩
      · skip
        refine value_ (w1 := ?_) (v := ?_) (by rfl) rfl ?_ ?_
        rotate_left 2
        · go_simp
          constructor
          · rfl
          · rfl
        have hb : Below v44.heap.size v44 (v44.alloc (.cells #[.slice none 0 0, .slice none 0 0] 25)) := below_alloc (Below.refl _ _) _
        have K5v54 : Hid ((v44.alloc (.cells #[.slice none 0 0, .slice none 0 0] 25)).heap[v44.heap.size]? = some (.cells #[.slice none 0 0, .slice none 0 0] 25 (0, 0))) := Lib.hid (blk_new v44 _)
        have L5 : Hid (w.heap.size ≤ v44.heap.size) := Lib.hid PBv44.out.size
        have GA5 : Hid (w.heap.size ≠ v44.heap.size) := Lib.hid (Nat.ne_of_lt (blk_lt KAv44.out))
        have GB5 : Hid (w.heap.size + 1 ≠ v44.heap.size) := Lib.hid (Nat.ne_of_lt (blk_lt KBv44.out))
        have NQ : Hid (b6 ≠ v44.heap.size) := Lib.hid (Nat.ne_of_lt (blk_lt K6v44.out))
        have PBv54 := Lib.hid (PBv44.out.trans (hb.mono PBv44.out.size))
        have KAv54 := Lib.hid (blk_below KAv44.out hb)
        have KBv54 := Lib.hid (blk_below KBv44.out hb)
        have K6v54 := Lib.hid (blk_below K6v44.out hb)
        clear hb
        generalize v44.alloc (.cells #[.slice none 0 0, .slice none 0 0] 25) = v54 at PBv54 KAv54 KBv54 K5v54 K6v54 ⊢
        generalize v44.heap.size = b5 at K5v54 L5 GA5 GB5 NQ ⊢
        have N56 : Hid (b5 ≠ b6) := Lib.hid NQ.out.symm
        clear PBv44 KAv44 KBv44 K6v44
        refine hK.out _ _ ⟨(blk_cell KAv54.out 0).trans rfl, (blk_cell KAv54.out 1).trans rfl, (blk_cell KBv54.out 0).trans rfl, (blk_cell KBv54.out 1).trans rfl⟩ (fun hHeld => ?_)
        clear hK K
        refine norm_ (a' := ?_) ?_ ?_
        rotate_left
        · show Act.put _ (some 5) _ = _
          simp only [Act.put, List.setIfInBounds_toArray, List.set_cons_zero, List.set_cons_succ]; rfl
        refine one_ (i := 1) (N := some 8) #[true, true, true, false, true, true, false, false] rfl rfl (by kernel_rfl) (by decide) (fun K hK => ?_)
        refine goes_ Try.func4 (by kernel_rfl) rfl #[.agg #[.slice Ar ra.length cr, .slice Af fa.length cf]] (by rfl) rfl rfl (by simp only [List.map_toArray, List.map_cons, List.map_nil]; rfl) ?_
        refine (HCA.out v54 PBv54.out).mono ?_
        rintro e v55 ⟨Pa, pa, Qa, qa, rfl, u1, u2, hb⟩
        refine ⟨_, rfl, ?_⟩
        have PBv55 := Lib.hid (PBv54.out.trans (hb.mono PBv54.out.size))
        have KAv55 := Lib.hid (blk_below KAv54.out hb)
        have KBv55 := Lib.hid (blk_below KBv54.out hb)
        have K5v55 := Lib.hid (blk_below K5v54.out hb)
        have K6v55 := Lib.hid (blk_below K6v54.out hb)
        have Cav55 := Lib.hid (And.intro (Kd.R_lower u1 PBv54.out.size) (Kd.R_lower u2 PBv54.out.size))
        clear hb u1 u2
        clear PBv54 KAv54 KBv54 K5v54 K6v54
        refine hK.out _ _ ⟨(blk_cell KAv55.out 0).trans rfl, (blk_cell KAv55.out 1).trans rfl, (blk_cell KBv55.out 0).trans rfl, (blk_cell KBv55.out 1).trans rfl⟩ (fun hHeld => ?_)
        clear hK K
        refine norm_ (a' := ?_) ?_ ?_
        rotate_left
        · show Act.put _ (some 8) _ = _
          simp only [Act.put, List.setIfInBounds_toArray, List.set_cons_zero, List.set_cons_succ]; rfl
        refine one_ (i := 3) (N := some 10) #[true, true, true, true, true, true, false, false] rfl rfl (by kernel_rfl) (by decide) (fun K hK => ?_)
        refine goes_ Try.func4 (by kernel_rfl) rfl #[.agg #[.slice Br rb.length dr, .slice Bf fb.length df]] (by rfl) rfl rfl (by simp only [List.map_toArray, List.map_cons, List.map_nil]; rfl) ?_
        refine (HCB.out v55 PBv55.out).mono ?_
        rintro e v56 ⟨Pb, pb, Qb, qb, rfl, u1, u2, hb⟩
        refine ⟨_, rfl, ?_⟩
        have PBv56 := Lib.hid (PBv55.out.trans (hb.mono PBv55.out.size))
        have KAv56 := Lib.hid (blk_below KAv55.out hb)
        have KBv56 := Lib.hid (blk_below KBv55.out hb)
        have K5v56 := Lib.hid (blk_below K5v55.out hb)
        have K6v56 := Lib.hid (blk_below K6v55.out hb)
        have Cav56 := Lib.hid (And.intro (Kd.R_below Cav55.out.1 hb) (Kd.R_below Cav55.out.2 hb))
        have Cbv56 := Lib.hid (And.intro (Kd.R_lower u1 PBv55.out.size) (Kd.R_lower u2 PBv55.out.size))
        clear hb u1 u2
        clear PBv55 KAv55 KBv55 K5v55 K6v55 Cav55
        refine hK.out _ _ ⟨(blk_cell KAv56.out 0).trans rfl, (blk_cell KAv56.out 1).trans rfl, (blk_cell KBv56.out 0).trans rfl, (blk_cell KBv56.out 1).trans rfl⟩ (fun hHeld => ?_)
        clear hK K
        refine norm_ (a' := ?_) ?_ ?_
        rotate_left
        · show Act.put _ (some 10) _ = _
          simp only [Act.put, List.setIfInBounds_toArray, List.set_cons_zero, List.set_cons_succ]; rfl
        refine one_ (i := 6) (N := none) #[true, true, true, true, true, true, true, false] rfl rfl (by kernel_rfl) (by decide) (fun K hK => ?_)
        have t0 : v56.cell? ⟨b5, 0, none⟩ = some (.slice none 0 0) := (blk_cell K5v56.out 0).trans rfl
        have t1 : v56.cell? ⟨b5, 1, none⟩ = some (.slice none 0 0) := (blk_cell K5v56.out 1).trans rfl
        have f0 := blk_frozen K5v56.out 0; have f1 := blk_frozen K5v56.out 1
        refine skip_ (w1 := ?_) (by rfl) rfl ?_ ?_
        rotate_left
        · go_simp
          rfl
        clear t0 t1 f0 f1
        have K5v57 : Hid (((v56.setCell ⟨b5, 0, none⟩ (.slice Pa ra.length pa)).setCell ⟨b5, 1, none⟩ (.slice Qa fa.length qa)).heap[b5]? = some (.cells #[.slice Pa ra.length pa, .slice Qa fa.length qa] 25 (0, 0))) := Lib.hid (blk_put (blk_put K5v56.out 0 _ rfl) 1 _ rfl)
        have K6v57 := Lib.hid (blk_far (p := ⟨b5, 1, none⟩) (blk_far (p := ⟨b5, 0, none⟩) K6v56.out N56.out.symm (.slice Pa ra.length pa)) N56.out.symm (.slice Qa fa.length qa))
        have KAv57 := Lib.hid (blk_far (p := ⟨b5, 1, none⟩) (blk_far (p := ⟨b5, 0, none⟩) KAv56.out GA5.out (.slice Pa ra.length pa)) GA5.out (.slice Qa fa.length qa))
        have KBv57 := Lib.hid (blk_far (p := ⟨b5, 1, none⟩) (blk_far (p := ⟨b5, 0, none⟩) KBv56.out GB5.out (.slice Pa ra.length pa)) GB5.out (.slice Qa fa.length qa))
        have PBv57 := Lib.hid (below_set (j := 1) (v := .slice Qa fa.length qa) (below_set (j := 0) (v := .slice Pa ra.length pa) PBv56.out L5.out) L5.out)
        have Cav57 : Hid (Kd.R k30 30 _ w.heap.size (fun _ => True) _ _ ∧ Kd.R k37 37 _ w.heap.size (fun _ => True) _ _) := Lib.hid (And.intro (Kd.R_mono (Kd.R_far (p := ⟨b5, 1, none⟩) (Kd.R_far (p := ⟨b5, 0, none⟩) (Kd.R_mono (Kd.R_types Cav56.out.1 K5v56.out (by decide)) (fun _ hk => hk.2)) (fun _ hk => hk) (.slice Pa ra.length pa)) (fun _ hk => hk) (.slice Qa fa.length qa)) (fun _ _ => trivial)) (Kd.R_mono (Kd.R_far (p := ⟨b5, 1, none⟩) (Kd.R_far (p := ⟨b5, 0, none⟩) (Kd.R_mono (Kd.R_types Cav56.out.2 K5v56.out (by decide)) (fun _ hk => hk.2)) (fun _ hk => hk) (.slice Pa ra.length pa)) (fun _ hk => hk) (.slice Qa fa.length qa)) (fun _ _ => trivial)))
        have Cbv57 : Hid (Kd.R k30 30 _ w.heap.size (fun _ => True) _ _ ∧ Kd.R k37 37 _ w.heap.size (fun _ => True) _ _) := Lib.hid (And.intro (Kd.R_mono (Kd.R_far (p := ⟨b5, 1, none⟩) (Kd.R_far (p := ⟨b5, 0, none⟩) (Kd.R_mono (Kd.R_types Cbv56.out.1 K5v56.out (by decide)) (fun _ hk => hk.2)) (fun _ hk => hk) (.slice Pa ra.length pa)) (fun _ hk => hk) (.slice Qa fa.length qa)) (fun _ _ => trivial)) (Kd.R_mono (Kd.R_far (p := ⟨b5, 1, none⟩) (Kd.R_far (p := ⟨b5, 0, none⟩) (Kd.R_mono (Kd.R_types Cbv56.out.2 K5v56.out (by decide)) (fun _ hk => hk.2)) (fun _ hk => hk) (.slice Pa ra.length pa)) (fun _ hk => hk) (.slice Qa fa.length qa)) (fun _ _ => trivial)))
        generalize ((v56.setCell ⟨b5, 0, none⟩ (.slice Pa ra.length pa)).setCell ⟨b5, 1, none⟩ (.slice Qa fa.length qa)) = v57 at PBv57 KAv57 KBv57 K5v57 K6v57 Cav57 Cbv57 ⊢
        clear PBv56 KAv56 KBv56 K5v56 K6v56 Cav56 Cbv56
        refine hK.out _ _ ⟨(blk_cell KAv57.out 0).trans rfl, (blk_cell KAv57.out 1).trans rfl, (blk_cell KBv57.out 0).trans rfl, (blk_cell KBv57.out 1).trans rfl⟩ (fun hHeld => ?_)
        clear hK K
        refine one_ (i := 7) (N := none) #[true, true, true, true, true, true, true, true] rfl rfl (by kernel_rfl) (by decide) (fun K hK => ?_)
        have t0 : v57.cell? ⟨b6, 0, none⟩ = some (.slice none 0 0) := (blk_cell K6v57.out 0).trans rfl
        have t1 : v57.cell? ⟨b6, 1, none⟩ = some (.slice none 0 0) := (blk_cell K6v57.out 1).trans rfl
        have f0 := blk_frozen K6v57.out 0; have f1 := blk_frozen K6v57.out 1
        refine skip_ (w1 := ?_) (by rfl) rfl ?_ ?_
        rotate_left
        · go_simp
          rfl
        clear t0 t1 f0 f1
        have K6v58 : Hid (((v57.setCell ⟨b6, 0, none⟩ (.slice Pb rb.length pb)).setCell ⟨b6, 1, none⟩ (.slice Qb fb.length qb)).heap[b6]? = some (.cells #[.slice Pb rb.length pb, .slice Qb fb.length qb] 25 (0, 0))) := Lib.hid (blk_put (blk_put K6v57.out 0 _ rfl) 1 _ rfl)
        have K5v58 := Lib.hid (blk_far (p := ⟨b6, 1, none⟩) (blk_far (p := ⟨b6, 0, none⟩) K5v57.out N56.out (.slice Pb rb.length pb)) N56.out (.slice Qb fb.length qb))
        have KAv58 := Lib.hid (blk_far (p := ⟨b6, 1, none⟩) (blk_far (p := ⟨b6, 0, none⟩) KAv57.out GA6.out (.slice Pb rb.length pb)) GA6.out (.slice Qb fb.length qb))
        have KBv58 := Lib.hid (blk_far (p := ⟨b6, 1, none⟩) (blk_far (p := ⟨b6, 0, none⟩) KBv57.out GB6.out (.slice Pb rb.length pb)) GB6.out (.slice Qb fb.length qb))
        have PBv58 := Lib.hid (below_set (j := 1) (v := .slice Qb fb.length qb) (below_set (j := 0) (v := .slice Pb rb.length pb) PBv57.out L6.out) L6.out)
        have Cav58 : Hid (Kd.R k30 30 _ w.heap.size (fun _ => True) _ _ ∧ Kd.R k37 37 _ w.heap.size (fun _ => True) _ _) := Lib.hid (And.intro (Kd.R_mono (Kd.R_far (p := ⟨b6, 1, none⟩) (Kd.R_far (p := ⟨b6, 0, none⟩) (Kd.R_mono (Kd.R_types Cav57.out.1 K6v57.out (by decide)) (fun _ hk => hk.2)) (fun _ hk => hk) (.slice Pb rb.length pb)) (fun _ hk => hk) (.slice Qb fb.length qb)) (fun _ _ => trivial)) (Kd.R_mono (Kd.R_far (p := ⟨b6, 1, none⟩) (Kd.R_far (p := ⟨b6, 0, none⟩) (Kd.R_mono (Kd.R_types Cav57.out.2 K6v57.out (by decide)) (fun _ hk => hk.2)) (fun _ hk => hk) (.slice Pb rb.length pb)) (fun _ hk => hk) (.slice Qb fb.length qb)) (fun _ _ => trivial)))
        have Cbv58 : Hid (Kd.R k30 30 _ w.heap.size (fun _ => True) _ _ ∧ Kd.R k37 37 _ w.heap.size (fun _ => True) _ _) := Lib.hid (And.intro (Kd.R_mono (Kd.R_far (p := ⟨b6, 1, none⟩) (Kd.R_far (p := ⟨b6, 0, none⟩) (Kd.R_mono (Kd.R_types Cbv57.out.1 K6v57.out (by decide)) (fun _ hk => hk.2)) (fun _ hk => hk) (.slice Pb rb.length pb)) (fun _ hk => hk) (.slice Qb fb.length qb)) (fun _ _ => trivial)) (Kd.R_mono (Kd.R_far (p := ⟨b6, 1, none⟩) (Kd.R_far (p := ⟨b6, 0, none⟩) (Kd.R_mono (Kd.R_types Cbv57.out.2 K6v57.out (by decide)) (fun _ hk => hk.2)) (fun _ hk => hk) (.slice Pb rb.length pb)) (fun _ hk => hk) (.slice Qb fb.length qb)) (fun _ _ => trivial)))
        generalize ((v57.setCell ⟨b6, 0, none⟩ (.slice Pb rb.length pb)).setCell ⟨b6, 1, none⟩ (.slice Qb fb.length qb)) = v58 at PBv58 KAv58 KBv58 K5v58 K6v58 Cav58 Cbv58 ⊢
        clear PBv57 KAv57 KBv57 K5v57 K6v57 Cav57 Cbv57
        refine hK.out _ _ ⟨(blk_cell KAv58.out 0).trans rfl, (blk_cell KAv58.out 1).trans rfl, (blk_cell KBv58.out 0).trans rfl, (blk_cell KBv58.out 1).trans rfl⟩ (fun hHeld => ?_)
        clear hK K
        refine done_ (by kernel_rfl) ?_
        go_wp2_with fail
        go_meet
        exact ⟨b5, b6, Pa, pa, Qa, qa, Pb, pb, Qb, qb, rfl, rfl, K5v58, K6v58, KAv58, KBv58, Cav58, Cbv58, PBv58⟩
  case rest =>
    clear KA0 KB0 PB0 HCA HCB
    obtain ⟨b5, b6, Pa, pa, Qa, qa, Pb, pb, Qb, qb, rfl, rfl, K5, K6, KA, KB, Ca, Cb, PB⟩ := hcut
    obtain ⟨q, hq⟩ := le_all (fun x : S37 => SizeOf.sizeOf x.f4) fa
    have HZ := Lib.hid hq
    have HRf : Hid (sameG q ra ra fa fa = true) := Lib.hid (sameG_refl q ra fa hq)
    obtain ⟨r, hr⟩ : ∃ r, r = sameG q ra rb fa fb := ⟨_, rfl⟩
    have HRr := Lib.hid hr
    clear hq hr
    go_wp2_with fail
    have K5z0 := Lib.hid (blk_drew K5.out); have K6z0 := Lib.hid (blk_drew K6.out); have KAz0 := Lib.hid (blk_drew KA.out); have KBz0 := Lib.hid (blk_drew KB.out); have PBz0 := Lib.hid (below_drew PB.out)
    have Caz0 := Lib.hid (And.intro (Kd.R_drew Ca.out.1) (Kd.R_drew Ca.out.2)); have Cbz0 := Lib.hid (And.intro (Kd.R_drew Cb.out.1) (Kd.R_drew Cb.out.2))
    clear K5 K6 KA KB Ca Cb PB
    cases r
    all_goals (
      refine start_ (n := 23) (S := (fun W' => W'.cell? ⟨b5, 0, none⟩ = some (.slice Pa ra.length pa) ∧ W'.cell? ⟨b5, 1, none⟩ = some (.slice Qa fa.length qa) ∧ W'.cell? ⟨b6, 0, none⟩ = some (.slice Pb rb.length pb) ∧ W'.cell? ⟨b6, 1, none⟩ = some (.slice Qb fb.length qb) ∧ W'.cell? ⟨w.heap.size, 0, none⟩ = some (.slice Ar ra.length cr) ∧ W'.cell? ⟨w.heap.size, 1, none⟩ = some (.slice Af fa.length cf) ∧ W'.cell? ⟨w.heap.size + 1, 0, none⟩ = some (.slice Br rb.length dr) ∧ W'.cell? ⟨w.heap.size + 1, 1, none⟩ = some (.slice Bf fb.length df))) (ds := []) #[false, false, false, false, false, false, false, false, false, false, false, false, false, false, false, false, false, false, false, false, false, false, false] (by kernel_rfl) rfl rfl ⟨(blk_cell K5z0.out 0).trans rfl, (blk_cell K5z0.out 1).trans rfl, (blk_cell K6z0.out 0).trans rfl, (blk_cell K6z0.out 1).trans rfl, (blk_cell KAz0.out 0).trans rfl, (blk_cell KAz0.out 1).trans rfl, (blk_cell KBz0.out 0).trans rfl, (blk_cell KBz0.out 1).trans rfl⟩ (fun hHeld => ?_)
      generalize wc.drew = z0 at K5z0 K6z0 KAz0 KBz0 PBz0 Caz0 Cbz0 hHeld ⊢
      refine take_ (i := 0) (N := some 11) (v := ?_) (a' := ?_) #[true, false, false, false, false, false, false, false, false, false, false, false, false, false, false, false, false, false, false, false, false, false, false] rfl rfl (by kernel_rfl) (fun _ _ _ h => h) (Or.inl ⟨by rfl, ?_⟩) hHeld ?_ ?_
      rotate_left
      · intro w_ hS_
        obtain ⟨s0, s1, s2, s3, s4, s5, s6, s7⟩ := hS_
        go_simp
        with_reducible rfl
      rotate_left
      · simp only [Act.put, List.setIfInBounds_toArray, List.set_cons_zero, List.set_cons_succ]
        rfl
      refine take_ (i := 1) (N := some 12) (v := ?_) (a' := ?_) #[true, true, false, false, false, false, false, false, false, false, false, false, false, false, false, false, false, false, false, false, false, false, false] rfl rfl (by kernel_rfl) (fun _ _ _ h => h) (Or.inl ⟨by rfl, ?_⟩) hHeld ?_ ?_
      rotate_left
      · intro w_ hS_
        obtain ⟨s0, s1, s2, s3, s4, s5, s6, s7⟩ := hS_
        go_simp
        with_reducible rfl
      rotate_left
      · simp only [Act.put, List.setIfInBounds_toArray, List.set_cons_zero, List.set_cons_succ]
        rfl
      refine take_ (i := 3) (N := some 14) (v := ?_) (a' := ?_) #[true, true, false, true, false, false, false, false, false, false, false, false, false, false, false, false, false, false, false, false, false, false, false] rfl rfl (by kernel_rfl) (fun _ _ _ h => h) (Or.inl ⟨by rfl, ?_⟩) hHeld ?_ ?_
      rotate_left
      · intro w_ hS_
        obtain ⟨s0, s1, s2, s3, s4, s5, s6, s7⟩ := hS_
        go_simp
        with_reducible rfl
      rotate_left
      · simp only [Act.put, List.setIfInBounds_toArray, List.set_cons_zero, List.set_cons_succ]
        rfl
      refine take_ (i := 4) (N := some 15) (v := ?_) (a' := ?_) #[true, true, false, true, true, false, false, false, false, false, false, false, false, false, false, false, false, false, false, false, false, false, false] rfl rfl (by kernel_rfl) (fun _ _ _ h => h) (Or.inl ⟨by rfl, ?_⟩) hHeld ?_ ?_
      rotate_left
      · intro w_ hS_
        obtain ⟨s0, s1, s2, s3, s4, s5, s6, s7⟩ := hS_
        go_simp
        with_reducible rfl
      rotate_left
      · simp only [Act.put, List.setIfInBounds_toArray, List.set_cons_zero, List.set_cons_succ]
        rfl
      refine one_ (i := 2) (N := some 13) #[true, true, true, true, true, false, false, false, false, false, false, false, false, false, false, false, false, false, false, false, false, false, false] rfl rfl (by kernel_rfl) (by decide) (fun K hK => ?_)
      refine goes_ Try.func5 (by kernel_rfl) rfl #[.agg #[.slice Pa ra.length pa, .slice Qa fa.length qa], .agg #[.slice Pb rb.length pb, .slice Qb fb.length qb]] (by rfl) rfl rfl (by simp only [List.map_toArray, List.map_cons, List.map_nil]; rfl) ?_
      refine (same_c q ra rb fa fb _ _ _ _ _ _ _ _ _ HZ.out (Kd.R_reads' Caz0.out.1).2.2 (Kd.R_reads' Caz0.out.1).2.1 (Kd.R_reads' Caz0.out.2).2.2 (Kd.R_reads' Caz0.out.2).2.1 (Kd.R_reads' Cbz0.out.1).2.2 (Kd.R_reads' Cbz0.out.1).2.1 (Kd.R_reads' Cbz0.out.2).2.2 (Kd.R_reads' Cbz0.out.2).2.1).mono ?_
      rintro e z1 ⟨rfl, hb⟩
      rw [← HRr.out]
      refine ⟨_, rfl, ?_⟩
      have PBz1 := Lib.hid (PBz0.out.trans (hb.mono PBz0.out.size))
      have K5z1 := Lib.hid (blk_below K5z0.out hb)
      have K6z1 := Lib.hid (blk_below K6z0.out hb)
      have KAz1 := Lib.hid (blk_below KAz0.out hb)
      have KBz1 := Lib.hid (blk_below KBz0.out hb)
      have Caz1 := Lib.hid (And.intro (Kd.R_below Caz0.out.1 hb) (Kd.R_below Caz0.out.2 hb))
      have Cbz1 := Lib.hid (And.intro (Kd.R_below Cbz0.out.1 hb) (Kd.R_below Cbz0.out.2 hb))
      clear hb PBz0 K5z0 K6z0 KAz0 KBz0 Caz0 Cbz0
      refine hK.out _ _ ⟨(blk_cell K5z1.out 0).trans rfl, (blk_cell K5z1.out 1).trans rfl, (blk_cell K6z1.out 0).trans rfl, (blk_cell K6z1.out 1).trans rfl, (blk_cell KAz1.out 0).trans rfl, (blk_cell KAz1.out 1).trans rfl, (blk_cell KBz1.out 0).trans rfl, (blk_cell KBz1.out 1).trans rfl⟩ (fun hHeld => ?_)
      clear hK K
      refine norm_ (a' := ?_) ?_ ?_
      rotate_left
      · show Act.put _ (some 13) _ = _
        simp only [Act.put, List.setIfInBounds_toArray, List.set_cons_zero, List.set_cons_succ]; rfl
      refine one_ (i := 5) (N := some 16) #[true, true, true, true, true, true, false, false, false, false, false, false, false, false, false, false, false, false, false, false, false, false, false] rfl rfl (by kernel_rfl) (by decide) (fun K hK => ?_)
      refine goes_ Try.func6 (by kernel_rfl) rfl #[.agg #[.slice Ar ra.length cr, .slice Af fa.length cf], .agg #[.slice Br rb.length dr, .slice Bf fb.length df]] (by rfl) rfl rfl (by simp only [List.map_toArray, List.map_cons, List.map_nil]; rfl) ?_
      refine (same6 q ra rb fa fb _ _ _ _ _ _ _ _ _ HZ.out (Kd.C_below H1.out PBz1.out) l1 (Kd.C_below H2.out PBz1.out) l2 (Kd.C_below H3.out PBz1.out) l3 (Kd.C_below H4.out PBz1.out) l4).mono ?_
      rintro e z2 ⟨rfl, hb⟩
      rw [← HRr.out]
      refine ⟨_, rfl, ?_⟩
      have PBz2 := Lib.hid (PBz1.out.trans (hb.mono PBz1.out.size))
      have K5z2 := Lib.hid (blk_below K5z1.out hb)
      have K6z2 := Lib.hid (blk_below K6z1.out hb)
      have KAz2 := Lib.hid (blk_below KAz1.out hb)
      have KBz2 := Lib.hid (blk_below KBz1.out hb)
      have Caz2 := Lib.hid (And.intro (Kd.R_below Caz1.out.1 hb) (Kd.R_below Caz1.out.2 hb))
      have Cbz2 := Lib.hid (And.intro (Kd.R_below Cbz1.out.1 hb) (Kd.R_below Cbz1.out.2 hb))
      clear hb PBz1 K5z1 K6z1 KAz1 KBz1 Caz1 Cbz1
      refine hK.out _ _ ⟨(blk_cell K5z2.out 0).trans rfl, (blk_cell K5z2.out 1).trans rfl, (blk_cell K6z2.out 0).trans rfl, (blk_cell K6z2.out 1).trans rfl, (blk_cell KAz2.out 0).trans rfl, (blk_cell KAz2.out 1).trans rfl, (blk_cell KBz2.out 0).trans rfl, (blk_cell KBz2.out 1).trans rfl⟩ (fun hHeld => ?_)
      clear hK K
      refine norm_ (a' := ?_) ?_ ?_
      rotate_left
      · show Act.put _ (some 16) _ = _
        simp only [Act.put, List.setIfInBounds_toArray, List.set_cons_zero, List.set_cons_succ]; rfl
      refine pure_ (i := 6) (N := some 17) (v := ?_) (a' := ?_) #[true, true, true, true, true, true, true, false, false, false, false, false, false, false, false, false, false, false, false, false, false, false, false] rfl rfl (by kernel_rfl) (fun _ _ _ h => h) (Or.inl ⟨by rfl, ?_⟩) ?_ ?_
      rotate_left
      · intro w_
        go_simp
        with_reducible rfl
      rotate_left
      · simp only [Act.put, List.setIfInBounds_toArray, List.set_cons_zero, List.set_cons_succ]
        rfl
      refine pure_ (i := 7) (N := some 18) (v := ?_) (a' := ?_) #[true, true, true, true, true, true, true, true, false, false, false, false, false, false, false, false, false, false, false, false, false, false, false] rfl rfl (by kernel_rfl) (fun _ _ _ h => h) (Or.inl ⟨by rfl, ?_⟩) ?_ ?_
      rotate_left
      · intro w_
        go_simp
        with_reducible rfl
      rotate_left
      · simp only [Act.put, List.setIfInBounds_toArray, List.set_cons_zero, List.set_cons_succ]
        rfl
      refine take_ (i := 8) (N := some 19) (v := ?_) (a' := ?_) #[true, true, true, true, true, true, true, true, true, false, false, false, false, false, false, false, false, false, false, false, false, false, false] rfl rfl (by kernel_rfl) (fun _ _ _ h => h) (Or.inl ⟨by rfl, ?_⟩) hHeld ?_ ?_
      rotate_left
      · intro w_ hS_
        obtain ⟨s0, s1, s2, s3, s4, s5, s6, s7⟩ := hS_
        go_simp
        with_reducible rfl
      rotate_left
      · simp only [Act.put, List.setIfInBounds_toArray, List.set_cons_zero, List.set_cons_succ]
        rfl
      refine take_ (i := 9) (N := some 20) (v := ?_) (a' := ?_) #[true, true, true, true, true, true, true, true, true, true, false, false, false, false, false, false, false, false, false, false, false, false, false] rfl rfl (by kernel_rfl) (fun _ _ _ h => h) (Or.inl ⟨by rfl, ?_⟩) hHeld ?_ ?_
      rotate_left
      · intro w_ hS_
        obtain ⟨s0, s1, s2, s3, s4, s5, s6, s7⟩ := hS_
        go_simp
        with_reducible rfl
      rotate_left
      · simp only [Act.put, List.setIfInBounds_toArray, List.set_cons_zero, List.set_cons_succ]
        rfl
      refine one_ (i := 10) (N := some 21) #[true, true, true, true, true, true, true, true, true, true, true, false, false, false, false, false, false, false, false, false, false, false, false] rfl rfl (by kernel_rfl) (by decide) (fun K hK => ?_)
      refine goes_ Try.func5 (by kernel_rfl) rfl #[.agg #[.slice Pa ra.length pa, .slice Qa fa.length qa], .agg #[.slice Pa ra.length pa, .slice Qa fa.length qa]] (by rfl) rfl rfl (by simp only [List.map_toArray, List.map_cons, List.map_nil]; rfl) ?_
      refine (same_c q ra ra fa fa _ _ _ _ _ _ _ _ _ HZ.out (Kd.R_reads' Caz2.out.1).2.2 (Kd.R_reads' Caz2.out.1).2.1 (Kd.R_reads' Caz2.out.2).2.2 (Kd.R_reads' Caz2.out.2).2.1 (Kd.R_reads' Caz2.out.1).2.2 (Kd.R_reads' Caz2.out.1).2.1 (Kd.R_reads' Caz2.out.2).2.2 (Kd.R_reads' Caz2.out.2).2.1).mono ?_
      rintro e z3 ⟨rfl, hb⟩
      rw [HRf.out]
      refine ⟨_, rfl, ?_⟩
      have PBz3 := Lib.hid (PBz2.out.trans (hb.mono PBz2.out.size))
      have K5z3 := Lib.hid (blk_below K5z2.out hb)
      have K6z3 := Lib.hid (blk_below K6z2.out hb)
      have KAz3 := Lib.hid (blk_below KAz2.out hb)
      have KBz3 := Lib.hid (blk_below KBz2.out hb)
      have Caz3 := Lib.hid (And.intro (Kd.R_below Caz2.out.1 hb) (Kd.R_below Caz2.out.2 hb))
      have Cbz3 := Lib.hid (And.intro (Kd.R_below Cbz2.out.1 hb) (Kd.R_below Cbz2.out.2 hb))
      clear hb PBz2 K5z2 K6z2 KAz2 KBz2 Caz2 Cbz2
      refine hK.out _ _ ⟨(blk_cell K5z3.out 0).trans rfl, (blk_cell K5z3.out 1).trans rfl, (blk_cell K6z3.out 0).trans rfl, (blk_cell K6z3.out 1).trans rfl, (blk_cell KAz3.out 0).trans rfl, (blk_cell KAz3.out 1).trans rfl, (blk_cell KBz3.out 0).trans rfl, (blk_cell KBz3.out 1).trans rfl⟩ (fun hHeld => ?_)
      clear hK K
      refine norm_ (a' := ?_) ?_ ?_
      rotate_left
      · show Act.put _ (some 21) _ = _
        simp only [Act.put, List.setIfInBounds_toArray, List.set_cons_zero, List.set_cons_succ]; rfl
      refine pure_ (i := 11) (N := some 22) (v := ?_) (a' := ?_) #[true, true, true, true, true, true, true, true, true, true, true, true, false, false, false, false, false, false, false, false, false, false, false] rfl rfl (by kernel_rfl) (fun _ _ _ h => h) (Or.inl ⟨by rfl, ?_⟩) ?_ ?_
      rotate_left
      · intro w_
        go_simp
        with_reducible rfl
      rotate_left
      · simp only [Act.put, List.setIfInBounds_toArray, List.set_cons_zero, List.set_cons_succ]
        rfl
      refine pure_ (i := 12) (N := some 23) (v := ?_) (a' := ?_) #[true, true, true, true, true, true, true, true, true, true, true, true, true, false, false, false, false, false, false, false, false, false, false] rfl rfl (by kernel_rfl) (fun _ _ _ h => h) (Or.inl ⟨by rfl, ?_⟩) ?_ ?_
      rotate_left
      · intro w_
        go_simp
        with_reducible rfl
      rotate_left
      · simp only [Act.put, List.setIfInBounds_toArray, List.set_cons_zero, List.set_cons_succ]
        rfl
      refine take_ (i := 13) (N := some 24) (v := ?_) (a' := ?_) #[true, true, true, true, true, true, true, true, true, true, true, true, true, true, false, false, false, false, false, false, false, false, false] rfl rfl (by kernel_rfl) (fun _ _ _ h => h) (Or.inl ⟨by rfl, ?_⟩) hHeld ?_ ?_
      rotate_left
      · intro w_ hS_
        obtain ⟨s0, s1, s2, s3, s4, s5, s6, s7⟩ := hS_
        go_simp
        with_reducible rfl
      rotate_left
      · simp only [Act.put, List.setIfInBounds_toArray, List.set_cons_zero, List.set_cons_succ]
        rfl
      refine take_ (i := 14) (N := some 25) (v := ?_) (a' := ?_) #[true, true, true, true, true, true, true, true, true, true, true, true, true, true, true, false, false, false, false, false, false, false, false] rfl rfl (by kernel_rfl) (fun _ _ _ h => h) (Or.inl ⟨by rfl, ?_⟩) hHeld ?_ ?_
      rotate_left
      · intro w_ hS_
        obtain ⟨s0, s1, s2, s3, s4, s5, s6, s7⟩ := hS_
        go_simp
        with_reducible rfl
      rotate_left
      · simp only [Act.put, List.setIfInBounds_toArray, List.set_cons_zero, List.set_cons_succ]
        rfl
      refine one_ (i := 15) (N := some 26) #[true, true, true, true, true, true, true, true, true, true, true, true, true, true, true, true, false, false, false, false, false, false, false] rfl rfl (by kernel_rfl) (by decide) (fun K hK => ?_)
      refine goes_ Try.func7 (by kernel_rfl) rfl #[.agg #[.slice Pa ra.length pa, .slice Qa fa.length qa], .agg #[.slice Ar ra.length cr, .slice Af fa.length cf]] (by rfl) rfl rfl (by simp only [List.map_toArray, List.map_cons, List.map_nil]; rfl) ?_
      refine (same7 ra fa _ _ _ _ _ _ _ _ _ (fun x hx => Nat.le_trans (Nat.le_mul_of_pos_right _ (by decide : 0 < 48)) (Nat.le_trans (OA.out.1 x hx) (by decide))) (fun x hx => (OA.out.2.1 x hx).2) (Kd.R_reads' Caz3.out.1).2.2 (Kd.R_reads' Caz3.out.1).2.1 (Kd.R_reads' Caz3.out.2).2.2 (Kd.R_reads' Caz3.out.2).2.1 (Kd.C_below H1.out PBz3.out) l1 (Kd.C_below H2.out PBz3.out) l2).mono ?_
      rintro e z4 ⟨rfl, hb⟩
      refine ⟨_, rfl, ?_⟩
      have PBz4 := Lib.hid (PBz3.out.trans (hb.mono PBz3.out.size))
      have K5z4 := Lib.hid (blk_below K5z3.out hb)
      have K6z4 := Lib.hid (blk_below K6z3.out hb)
      have KAz4 := Lib.hid (blk_below KAz3.out hb)
      have KBz4 := Lib.hid (blk_below KBz3.out hb)
      have Caz4 := Lib.hid (And.intro (Kd.R_below Caz3.out.1 hb) (Kd.R_below Caz3.out.2 hb))
      have Cbz4 := Lib.hid (And.intro (Kd.R_below Cbz3.out.1 hb) (Kd.R_below Cbz3.out.2 hb))
      clear hb PBz3 K5z3 K6z3 KAz3 KBz3 Caz3 Cbz3
      refine hK.out _ _ ⟨(blk_cell K5z4.out 0).trans rfl, (blk_cell K5z4.out 1).trans rfl, (blk_cell K6z4.out 0).trans rfl, (blk_cell K6z4.out 1).trans rfl, (blk_cell KAz4.out 0).trans rfl, (blk_cell KAz4.out 1).trans rfl, (blk_cell KBz4.out 0).trans rfl, (blk_cell KBz4.out 1).trans rfl⟩ (fun hHeld => ?_)
      clear hK K
      refine norm_ (a' := ?_) ?_ ?_
      rotate_left
      · show Act.put _ (some 26) _ = _
        simp only [Act.put, List.setIfInBounds_toArray, List.set_cons_zero, List.set_cons_succ]; rfl
      refine pure_ (i := 16) (N := some 27) (v := ?_) (a' := ?_) #[true, true, true, true, true, true, true, true, true, true, true, true, true, true, true, true, true, false, false, false, false, false, false] rfl rfl (by kernel_rfl) (fun _ _ _ h => h) (Or.inl ⟨by rfl, ?_⟩) ?_ ?_
      rotate_left
      · intro w_
        go_simp
        with_reducible rfl
      rotate_left
      · simp only [Act.put, List.setIfInBounds_toArray, List.set_cons_zero, List.set_cons_succ]
        rfl
      refine pure_ (i := 17) (N := some 28) (v := ?_) (a' := ?_) #[true, true, true, true, true, true, true, true, true, true, true, true, true, true, true, true, true, true, false, false, false, false, false] rfl rfl (by kernel_rfl) (fun _ _ _ h => h) (Or.inl ⟨by rfl, ?_⟩) ?_ ?_
      rotate_left
      · intro w_
        go_simp
        with_reducible rfl
      rotate_left
      · simp only [Act.put, List.setIfInBounds_toArray, List.set_cons_zero, List.set_cons_succ]
        rfl
      refine take_ (i := 18) (N := some 29) (v := ?_) (a' := ?_) #[true, true, true, true, true, true, true, true, true, true, true, true, true, true, true, true, true, true, true, false, false, false, false] rfl rfl (by kernel_rfl) (fun _ _ _ h => h) (Or.inl ⟨by rfl, ?_⟩) hHeld ?_ ?_
      rotate_left
      · intro w_ hS_
        obtain ⟨s0, s1, s2, s3, s4, s5, s6, s7⟩ := hS_
        go_simp
        with_reducible rfl
      rotate_left
      · simp only [Act.put, List.setIfInBounds_toArray, List.set_cons_zero, List.set_cons_succ]
        rfl
      refine take_ (i := 19) (N := some 30) (v := ?_) (a' := ?_) #[true, true, true, true, true, true, true, true, true, true, true, true, true, true, true, true, true, true, true, true, false, false, false] rfl rfl (by kernel_rfl) (fun _ _ _ h => h) (Or.inl ⟨by rfl, ?_⟩) hHeld ?_ ?_
      rotate_left
      · intro w_ hS_
        obtain ⟨s0, s1, s2, s3, s4, s5, s6, s7⟩ := hS_
        go_simp
        with_reducible rfl
      rotate_left
      · simp only [Act.put, List.setIfInBounds_toArray, List.set_cons_zero, List.set_cons_succ]
        rfl
      refine one_ (i := 20) (N := some 31) #[true, true, true, true, true, true, true, true, true, true, true, true, true, true, true, true, true, true, true, true, true, false, false] rfl rfl (by kernel_rfl) (by decide) (fun K hK => ?_)
      refine goes_ Try.func7 (by kernel_rfl) rfl #[.agg #[.slice Pb rb.length pb, .slice Qb fb.length qb], .agg #[.slice Br rb.length dr, .slice Bf fb.length df]] (by rfl) rfl rfl (by simp only [List.map_toArray, List.map_cons, List.map_nil]; rfl) ?_
      refine (same7 rb fb _ _ _ _ _ _ _ _ _ (fun x hx => Nat.le_trans (Nat.le_mul_of_pos_right _ (by decide : 0 < 48)) (Nat.le_trans (OB.out.1 x hx) (by decide))) (fun x hx => (OB.out.2.1 x hx).2) (Kd.R_reads' Cbz4.out.1).2.2 (Kd.R_reads' Cbz4.out.1).2.1 (Kd.R_reads' Cbz4.out.2).2.2 (Kd.R_reads' Cbz4.out.2).2.1 (Kd.C_below H3.out PBz4.out) l3 (Kd.C_below H4.out PBz4.out) l4).mono ?_
      rintro e z5 ⟨rfl, hb⟩
      refine ⟨_, rfl, ?_⟩
      have PBz5 := Lib.hid (PBz4.out.trans (hb.mono PBz4.out.size))
      have K5z5 := Lib.hid (blk_below K5z4.out hb)
      have K6z5 := Lib.hid (blk_below K6z4.out hb)
      have KAz5 := Lib.hid (blk_below KAz4.out hb)
      have KBz5 := Lib.hid (blk_below KBz4.out hb)
      have Caz5 := Lib.hid (And.intro (Kd.R_below Caz4.out.1 hb) (Kd.R_below Caz4.out.2 hb))
      have Cbz5 := Lib.hid (And.intro (Kd.R_below Cbz4.out.1 hb) (Kd.R_below Cbz4.out.2 hb))
      clear hb PBz4 K5z4 K6z4 KAz4 KBz4 Caz4 Cbz4
      refine hK.out _ _ ⟨(blk_cell K5z5.out 0).trans rfl, (blk_cell K5z5.out 1).trans rfl, (blk_cell K6z5.out 0).trans rfl, (blk_cell K6z5.out 1).trans rfl, (blk_cell KAz5.out 0).trans rfl, (blk_cell KAz5.out 1).trans rfl, (blk_cell KBz5.out 0).trans rfl, (blk_cell KBz5.out 1).trans rfl⟩ (fun hHeld => ?_)
      clear hK K
      refine norm_ (a' := ?_) ?_ ?_
      rotate_left
      · show Act.put _ (some 31) _ = _
        simp only [Act.put, List.setIfInBounds_toArray, List.set_cons_zero, List.set_cons_succ]; rfl
      refine pure_ (i := 21) (N := some 32) (v := ?_) (a' := ?_) #[true, true, true, true, true, true, true, true, true, true, true, true, true, true, true, true, true, true, true, true, true, true, false] rfl rfl (by kernel_rfl) (fun _ _ _ h => h) (Or.inl ⟨by rfl, ?_⟩) ?_ ?_
      rotate_left
      · intro w_
        go_simp
        with_reducible rfl
      rotate_left
      · simp only [Act.put, List.setIfInBounds_toArray, List.set_cons_zero, List.set_cons_succ]
        rfl
      refine pure_ (i := 22) (N := some 4) (v := ?_) (a' := ?_) #[true, true, true, true, true, true, true, true, true, true, true, true, true, true, true, true, true, true, true, true, true, true, true] rfl rfl (by kernel_rfl) (fun _ _ _ h => h) (Or.inl ⟨by rfl, ?_⟩) ?_ ?_
      rotate_left
      · intro w_
        go_simp
        with_reducible rfl
      rotate_left
      · simp only [Act.put, List.setIfInBounds_toArray, List.set_cons_zero, List.set_cons_succ]
        rfl
      refine done_ (by kernel_rfl) ?_
      go_wp2_with fail
      go_ret
      exact ⟨rfl, PBz5.out⟩)
end Go.Proofs.Ytpimociplmpfcaa.Sam
