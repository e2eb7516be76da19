/- provisoplain.Stmts: a printed text, turned by hand. -/
import Derived.Test.YtpimociplmpfcaaPParseSamesx0
import Derived.Test.YtpimociplmpfcaaExprK
namespace Go.Proofs.Ytpimociplmpfcaa.PParseSames
open Go.RowKit Go.Proofs.YtpimociplmpfcaaW.PrintWords Go.Proofs.YtpimociplmpfcaaW.PrintLast Go.Proofs.YtpimociplmpfcaaW.PrintMore
attribute [local go_sem] max2_int min2_int max_two min_two max_three min_three max_four min_four   -- for this text's walks alone
set_option linter.unusedVariables false
set_option linter.unusedSimpArgs false

/-! ### provisoplain_Stmts: function 9 -/
mutual
def provisoplain_Stmts.l0 : Nat → List (S47) → List (S47) → Int → Int → Option ((List (S47)))
  | 0, _, _, _, _ => none
  | k + 1, x3, x9, x10, x11 => if x11 < x10 then (if 0 ≤ x11 then (if x11 < (x9.length : Int) then (provisoplain_Stmts.l1 k x3 x9 x10 x11 ((rd_T47 x9 x11).f5) (((rd_T47 x9 x11).f5).length : Int) 0 ((rd_T47 x9 x11).f0) ((rd_T47 x9 x11).f1) ((rd_T47 x9 x11).f2) ((rd_T47 x9 x11).f3) ((rd_T47 x9 x11).f4) ((rd_T47 x9 x11).f5) ((rd_T47 x9 x11).f6) ((rd_T47 x9 x11).f7) ((rd_T47 x9 x11).f8) ((rd_T47 x9 x11).f9) ((rd_T47 x9 x11).f0) ((rd_T47 x9 x11).f1) ((rd_T47 x9 x11).f2) ((rd_T47 x9 x11).f3) ((rd_T47 x9 x11).f4) ([] : List (S49)) ((rd_T47 x9 x11).f6) ((rd_T47 x9 x11).f7) ((rd_T47 x9 x11).f8) ((rd_T47 x9 x11).f9)) else (none)) else (none)) else (some x3)
def provisoplain_Stmts.l1 : Nat → List (S47) → List (S47) → Int → Int → List (S49) → Int → Int → Int → Int → ByteArray → ByteArray → Int → List (S49) → List (S47) → List (S47) → Int → Int → Int → Int → ByteArray → ByteArray → Int → List (S49) → List (S47) → List (S47) → Int → Int → Option ((List (S47)))
  | 0, _, _, _, _, _, _, _, _, _, _, _, _, _, _, _, _, _, _, _, _, _, _, _, _, _, _, _ => none
  | k + 1, x3, x9, x10, x11, x18, x19, x20, x120000, x120001, x120002, x120003, x120004, x120005, x120006, x120007, x120008, x120009, x121000, x121001, x121002, x121003, x121004, x121005, x121006, x121007, x121008, x121009 => if x20 < x19 then (if 0 ≤ x20 then (if x20 < (x18.length : Int) then ((provisoplain_Expr.f k ((rd_T49 x18 x20).f0) ((rd_T49 x18 x20).f1) ((rd_T49 x18 x20).f2) ((rd_T49 x18 x20).f3) ((rd_T49 x18 x20).f4) ((rd_T49 x18 x20).f5) ((rd_T49 x18 x20).f6) ((rd_T49 x18 x20).f7)).bind fun bt123 => (if x121005.length < 1599289640401 then (provisoplain_Stmts.l1 k x3 x9 x10 x11 x18 x19 (wrap64 (x20 + 1)) x120000 x120001 x120002 x120003 x120004 x120005 x120006 x120007 x120008 x120009 x121000 x121001 x121002 x121003 x121004 (x121005 ++ [(⟨bt123.1, bt123.2.1, bt123.2.2.1, bt123.2.2.2.1, bt123.2.2.2.2.1, bt123.2.2.2.2.2.1, bt123.2.2.2.2.2.2.1, bt123.2.2.2.2.2.2.2⟩ : S49)]) x121006 x121007 x121008 x121009) else (none))) else (none)) else (none)) else ((provisoplain_Stmts.f k x120006).bind fun t136 => ((provisoplain_Stmts.f k x120007).bind fun t139 => (if x3.length < 977343669134 then (provisoplain_Stmts.l0 k (x3 ++ [(⟨x121000, x121001, x121002, x121003, x121004, x121005, t136, t139, x121008, x121009⟩ : S47)]) x9 x10 (wrap64 (x11 + 1))) else (none))))
def provisoplain_Stmts.f : Nat → List (S47) → Option ((List (S47)))
  | 0, _ => none
  | k + 1, l0 => provisoplain_Stmts.l0 k ([] : List (S47)) l0 (l0.length : Int) 0
end
theorem provisoplain_Stmts.mono_l : ∀ k, (∀ y0, LeO (provisoplain_Stmts.f k y0) (provisoplain_Stmts.f (k + 1) y0)) ∧ (∀ y0 y1 y2 y3, LeO (provisoplain_Stmts.l0 k y0 y1 y2 y3) (provisoplain_Stmts.l0 (k + 1) y0 y1 y2 y3)) ∧ (∀ y0 y1 y2 y3 y4 y5 y6 y7 y8 y9 y10 y11 y12 y13 y14 y15 y16 y17 y18 y19 y20 y21 y22 y23 y24 y25 y26, LeO (provisoplain_Stmts.l1 k y0 y1 y2 y3 y4 y5 y6 y7 y8 y9 y10 y11 y12 y13 y14 y15 y16 y17 y18 y19 y20 y21 y22 y23 y24 y25 y26) (provisoplain_Stmts.l1 (k + 1) y0 y1 y2 y3 y4 y5 y6 y7 y8 y9 y10 y11 y12 y13 y14 y15 y16 y17 y18 y19 y20 y21 y22 y23 y24 y25 y26))
  | 0 => ⟨fun _ r h => by simp [provisoplain_Stmts.f] at h, fun _ _ _ _ r h => by simp [provisoplain_Stmts.l0] at h, fun _ _ _ _ _ _ _ _ _ _ _ _ _ _ _ _ _ _ _ _ _ _ _ _ _ _ _ r h => by simp [provisoplain_Stmts.l1] at h⟩
  | k + 1 => by
    obtain ⟨ih0, ih1, ih2⟩ := provisoplain_Stmts.mono_l k
    refine ⟨?_, ?_, ?_⟩
    · intro y0
      unfold provisoplain_Stmts.f
      repeat' first
      | (with_reducible exact ih0 _)
      | (with_reducible exact ih1 _ _ _ _)
      | (with_reducible exact ih2 _ _ _ _ _ _ _ _ _ _ _ _ _ _ _ _ _ _ _ _ _ _ _ _ _ _ _)
      | (with_reducible exact provisoplain_Expr.mono _ _ _ _ _ _ _ _ _)
      | (with_reducible exact LeO.refl _)
      | (with_reducible exact LeO.none _)
      | (with_reducible refine LeO.ite ?_ ?_)
      | (with_reducible refine LeO.bind ?_ (fun _ => ?_))
      | exact ih0 _
      | exact ih1 _ _ _ _
      | exact ih2 _ _ _ _ _ _ _ _ _ _ _ _ _ _ _ _ _ _ _ _ _ _ _ _ _ _ _
      | exact provisoplain_Expr.mono _ _ _ _ _ _ _ _ _
      | exact LeO.none _
      | refine LeO.ite ?_ ?_
      | refine LeO.bind ?_ (fun _ => ?_)
    · intro y0 y1 y2 y3
      unfold provisoplain_Stmts.l0
      repeat' first
      | (with_reducible exact ih0 _)
      | (with_reducible exact ih1 _ _ _ _)
      | (with_reducible exact ih2 _ _ _ _ _ _ _ _ _ _ _ _ _ _ _ _ _ _ _ _ _ _ _ _ _ _ _)
      | (with_reducible exact provisoplain_Expr.mono _ _ _ _ _ _ _ _ _)
      | (with_reducible exact LeO.refl _)
      | (with_reducible exact LeO.none _)
      | (with_reducible refine LeO.ite ?_ ?_)
      | (with_reducible refine LeO.bind ?_ (fun _ => ?_))
      | exact ih0 _
      | exact ih1 _ _ _ _
      | exact ih2 _ _ _ _ _ _ _ _ _ _ _ _ _ _ _ _ _ _ _ _ _ _ _ _ _ _ _
      | exact provisoplain_Expr.mono _ _ _ _ _ _ _ _ _
      | exact LeO.none _
      | refine LeO.ite ?_ ?_
      | refine LeO.bind ?_ (fun _ => ?_)
    · intro y0 y1 y2 y3 y4 y5 y6 y7 y8 y9 y10 y11 y12 y13 y14 y15 y16 y17 y18 y19 y20 y21 y22 y23 y24 y25 y26
      unfold provisoplain_Stmts.l1
      repeat' first
      | (with_reducible exact ih0 _)
      | (with_reducible exact ih1 _ _ _ _)
      | (with_reducible exact ih2 _ _ _ _ _ _ _ _ _ _ _ _ _ _ _ _ _ _ _ _ _ _ _ _ _ _ _)
      | (with_reducible exact provisoplain_Expr.mono _ _ _ _ _ _ _ _ _)
      | (with_reducible exact LeO.refl _)
      | (with_reducible exact LeO.none _)
      | (with_reducible refine LeO.ite ?_ ?_)
      | (with_reducible refine LeO.bind ?_ (fun _ => ?_))
      | exact ih0 _
      | exact ih1 _ _ _ _
      | exact ih2 _ _ _ _ _ _ _ _ _ _ _ _ _ _ _ _ _ _ _ _ _ _ _ _ _ _ _
      | exact provisoplain_Expr.mono _ _ _ _ _ _ _ _ _
      | exact LeO.none _
      | refine LeO.ite ?_ ?_
      | refine LeO.bind ?_ (fun _ => ?_)
theorem provisoplain_Stmts.mono : ∀ a0 k, LeO (provisoplain_Stmts.f k a0) (provisoplain_Stmts.f (k + 1) a0) := by
  intro a0 k
  obtain ⟨ih0, ih1, ih2⟩ := provisoplain_Stmts.mono_l k
  exact ih0 a0
def provisoplain_Stmts.T10 : Bool × List (List Nat × List Nat) := (true, [([], []), ([0], [0]), ([], []), ([2], [2]), ([3], [3]), ([1, 4, 3], [1, 4]), ([0, 1, 2, 3, 4, 5], []), ([6, 5, 5, 0, 1, 2, 3, 4, 5], [5, 6])])
def provisoplain_Stmts.B10 : List Nat := [0, 1, 0, 4, 12, 31, 63, 127]
theorem provisoplain_Stmts.tab10 : rtab .any (opsOf Try.f9 10) = provisoplain_Stmts.T10 := by kernel_rfl
theorem provisoplain_Stmts.bits10 : waitsOk provisoplain_Stmts.T10.2 provisoplain_Stmts.B10 = true := by kernel_rfl
def provisoplain_Stmts.T12 : Bool × List (List Nat × List Nat) := (true, [([], []), ([0], [0]), ([1], [1]), ([], []), ([3], [3]), ([4, 2], [4]), ([0, 1, 2], []), ([6, 2, 5, 0, 1, 2], [2, 6]), ([0, 1, 2, 3, 4, 5, 6, 7], []), ([8, 5, 7, 0, 1, 2, 3, 4, 5, 6, 7], [5, 8])])
def provisoplain_Stmts.B12 : List Nat := [0, 1, 3, 0, 8, 31, 7, 127, 255, 511]
theorem provisoplain_Stmts.tab12 : rtab .any (opsOf Try.f9 12) = provisoplain_Stmts.T12 := by kernel_rfl
theorem provisoplain_Stmts.bits12 : waitsOk provisoplain_Stmts.T12.2 provisoplain_Stmts.B12 = true := by kernel_rfl
set_option maxHeartbeats 8000000 in
set_option maxRecDepth 100000 in
theorem provisoplain_Stmts.calls (k : Nat) : ∀ (A0 : Option Addr) (c0 : Nat) (l0 : List (S47)) (r : List (S47)) (w : World) (hr0 : Kd.C k47 w A0 l0.length l0) (hc0 : l0.length ≤ c0) (h : provisoplain_Stmts.f k l0 = some r),
    Calls Try.prog 9 #[.slice A0 l0.length c0] w fun e w' => ∃ v0_ : Value, e = .returned (v0_) ∧ Kd.R k47 47 w' w.heap.size (fun _ => True) v0_ r ∧ Below w.heap.size w w' := by
  induction k using Nat.strongRecOn with
  | _ k ih =>
  intro A0 c0 l0 r w hr0 hc0 h
  cases k with
  | zero => exact absurd h (by simp [provisoplain_Stmts.f])
  | succ k =>
  simp only [provisoplain_Stmts.f] at h
  have hu47 := Try.underlying47
  have hu49 := Try.underlying49
  have HR0 := Aside0.mk hr0
  have HC0 := Aside0.mk hc0
  clear hr0 hc0
  have HB := Aside0.mk (Below.refl w.heap.size w)
  have H : (provisoplain_Stmts.l0 k ([] : List (S47)) l0 (l0.length : Int) 0) = some r := h
  clear h
  have H' := Aside0.mk H
  clear H
  go_enter Try.func9, Try.ntmps9
  go_wp2
  go_loopg [3, 11] k (fun kq v3 v11 w' => ∃ (x3_1 : List (S47)) (x11_1 : Int), v11 = .int .i64 x11_1 ∧ Aside0 (provisoplain_Stmts.l0 kq x3_1 l0 (l0.length : Int) x11_1 = some r) ∧ Aside0 (kq ≤ k) ∧ Aside0 (Kd.R k47 47 w' w.heap.size (fun _ => True) v3 x3_1) ∧ Aside0 (Below w.heap.size w w'))
  case atStart => exact ⟨(([] : List (S47))), (0), (by first | rfl | (simp; done) | (simp [*]; done)), H', ⟨Nat.le_refl _⟩, ⟨by first | exact Kd.R_nil _ _ _ _ _ | exact Kd.N_nil _ _ _ _ _ | exact Kd.V_nil _ _ _ _ _ | exact Kd.Q_nil _ _ _ _ _ | exact Kd.S_nil _ _ _ _ _⟩, ⟨by repeat (first | (with_reducible first | exact HB.out | apply below_alloc | apply pw_below_drewN | apply below_drew1) | exact HB.out)⟩⟩
  case round =>
    clear H'
    obtain ⟨x3_1, x11_1, rfl, HA, HK1, HO_3, HB⟩ := hrel
    cases gk with
    | zero => exact absurd HA.out (by simp [provisoplain_Stmts.l0])
    | succ k1 =>
      have H := HA.out
      clear HA
      simp only [provisoplain_Stmts.l0] at H
      by_cases c2 : x11_1 < (l0.length : Int)
      · rw [if_pos c2] at H
        have c2b0 : decide (x11_1 < (l0.length : Int)) = true := decide_eq_true c2
        clear c2
        by_cases c3 : 0 ≤ x11_1
        · rw [if_pos c3] at H
          have c3b0 : decide (0 ≤ x11_1) = true := decide_eq_true c3
          clear c3
          by_cases c4 : x11_1 < (l0.length : Int)
          · rw [if_pos c4] at H
            have c4b0 : decide (x11_1 < (l0.length : Int)) = true := decide_eq_true c4
            clear c4
            have H' := Aside0.mk H
            clear H
            have p118 : 0 ≤ (x11_1 : Int) := of_decide_eq_true (by first | (with_reducible assumption) | assumption)
            have q118 : x11_1 < (l0.length : Int) := of_decide_eq_true (by first | (with_reducible assumption) | assumption)
            obtain ⟨ad118, A118_5, c118_5, A118_6, c118_6, A118_7, c118_7, e118, hx118_0, hx118_1, hx118_2, hx118_3, hx118_4, hx118_5, hx118_6, hx118_7, hx118_8, hx118_9, hl118_5, hi118_5, hl118_6, hi118_6, hl118_7, hi118_7⟩ := at_T47 HR0.out x11_1 p118 q118
            cases e118
            replace hx118_0 := (HB.out.cell (World.block_lt_of_cell? w _ hx118_0)).trans hx118_0
            replace hx118_1 := (HB.out.cell (World.block_lt_of_cell? w _ hx118_1)).trans hx118_1
            replace hx118_2 := (HB.out.cell (World.block_lt_of_cell? w _ hx118_2)).trans hx118_2
            replace hx118_3 := (HB.out.cell (World.block_lt_of_cell? w _ hx118_3)).trans hx118_3
            replace hx118_4 := (HB.out.cell (World.block_lt_of_cell? w _ hx118_4)).trans hx118_4
            replace hx118_5 := (HB.out.cell (World.block_lt_of_cell? w _ hx118_5)).trans hx118_5
            replace hx118_6 := (HB.out.cell (World.block_lt_of_cell? w _ hx118_6)).trans hx118_6
            replace hx118_7 := (HB.out.cell (World.block_lt_of_cell? w _ hx118_7)).trans hx118_7
            replace hx118_8 := (HB.out.cell (World.block_lt_of_cell? w _ hx118_8)).trans hx118_8
            replace hx118_9 := (HB.out.cell (World.block_lt_of_cell? w _ hx118_9)).trans hx118_9
            have HR118_5 := Aside0.mk hi118_5
            have HC118_5 := Aside0.mk hl118_5
            clear hi118_5 hl118_5
            have HR118_6 := Aside0.mk hi118_6
            have HC118_6 := Aside0.mk hl118_6
            clear hi118_6 hl118_6
            have HR118_7 := Aside0.mk hi118_7
            have HC118_7 := Aside0.mk hl118_7
            clear hi118_7 hl118_7
            replace p118 := eq_true p118
            replace q118 := eq_true q118
            go_wp2_with (first | ((with_reducible refine gate_dst (N := 5) rfl ?_); refine box_event ?hg (N := 5) ?hd (cs := #[.int .i64 0, .int .i64 0, .string (⟨#[]⟩ : ByteArray), .string (⟨#[]⟩ : ByteArray), .int .i64 0, .slice none 0 0, .slice none 0 0, .slice none 0 0, .int .u8 0, .int .i64 0]) (t := 47) ?hr ?_; (case hd => rfl); (case hg => rfl); (case hr => first | (go_simp; done) | (go_simp; rfl)); intro gb119 hg w5 hbox hb; have n0_ := Aside0.mk (Kd.R_below (Kd.R_elderB (by (with_reducible repeat (first | apply Kd.R_alloc | apply Kd.R_drewN | apply Kd.R_drew)); exact HO_3.out) gb119 (Nat.le_of_eq hg.symm)) hb); have n1_ := Aside0.mk (below_step (by repeat (first | (with_reducible first | exact HB.out | apply below_alloc | apply pw_below_drewN | apply below_drew1) | exact HB.out)) hb); have n2_ := Aside0.mk (hbox); have n3_ := Aside0.mk ((by rw [hg]; exact (below_size (by repeat (first | (with_reducible first | exact HB.out | apply below_alloc | apply pw_below_drewN | apply below_drew1) | exact HB.out))) : w.heap.size ≤ gb119)); have n4_ := Aside0.mk ((by rw [hg]; exact (below_size (by repeat (first | (with_reducible first | exact HB.out | apply below_alloc | apply pw_below_drewN | apply below_drew1) | exact HB.out))) : w.heap.size ≤ gb119)); clear HO_3; clear HB; have HO_3 := n0_; have HB := n1_; have BK119 := n2_; have GW119 := n3_; have GE119 := n4_; clear n0_ n1_ n2_ n3_ n4_; clear hb hbox hg; have hcz6_0 : w5.cell? ⟨gb119, 0, none⟩ = some (.int .i64 0) := (blk_cell BK119.out 0).trans rfl; have hcz6_1 : w5.cell? ⟨gb119, 1, none⟩ = some (.int .i64 0) := (blk_cell BK119.out 1).trans rfl; have hcz6_2 : w5.cell? ⟨gb119, 2, none⟩ = some (.string (⟨#[]⟩ : ByteArray)) := (blk_cell BK119.out 2).trans rfl; have hcz6_3 : w5.cell? ⟨gb119, 3, none⟩ = some (.string (⟨#[]⟩ : ByteArray)) := (blk_cell BK119.out 3).trans rfl; have hcz6_4 : w5.cell? ⟨gb119, 4, none⟩ = some (.int .i64 0) := (blk_cell BK119.out 4).trans rfl; have hcz6_5 : w5.cell? ⟨gb119, 5, none⟩ = some (.slice none 0 0) := (blk_cell BK119.out 5).trans rfl; have hcz6_6 : w5.cell? ⟨gb119, 6, none⟩ = some (.slice none 0 0) := (blk_cell BK119.out 6).trans rfl; have hcz6_7 : w5.cell? ⟨gb119, 7, none⟩ = some (.slice none 0 0) := (blk_cell BK119.out 7).trans rfl; have hcz6_8 : w5.cell? ⟨gb119, 8, none⟩ = some (.int .u8 0) := (blk_cell BK119.out 8).trans rfl; have hcz6_9 : w5.cell? ⟨gb119, 9, none⟩ = some (.int .i64 0) := (blk_cell BK119.out 9).trans rfl; have hfz6_0 := blk_frozen BK119.out 0; have hfz6_1 := blk_frozen BK119.out 1; have hfz6_2 := blk_frozen BK119.out 2; have hfz6_3 := blk_frozen BK119.out 3; have hfz6_4 := blk_frozen BK119.out 4; have hfz6_5 := blk_frozen BK119.out 5; have hfz6_6 := blk_frozen BK119.out 6; have hfz6_7 := blk_frozen BK119.out 7; have hfz6_8 := blk_frozen BK119.out 8; have hfz6_9 := blk_frozen BK119.out 9) | ((with_reducible refine gate_dst (N := 6) rfl ?_); refine box_event ?hg (N := 6) ?hd (cs := #[.int .i64 0, .int .i64 0, .string (⟨#[]⟩ : ByteArray), .string (⟨#[]⟩ : ByteArray), .int .i64 0, .slice none 0 0, .slice none 0 0, .slice none 0 0, .int .u8 0, .int .i64 0]) (t := 47) ?hr ?_; (case hd => rfl); (case hg => rfl); (case hr => first | (go_simp; done) | (go_simp; rfl)); intro gb120 hg w7 hbox hb; have n0_ := Aside0.mk (Kd.R_below (Kd.R_elderB (by (with_reducible repeat (first | apply Kd.R_alloc | apply Kd.R_drewN | apply Kd.R_drew)); exact (Kd.R_mono (Kd.R_far (p := ⟨gb119, 9, none⟩) (Kd.R_far (p := ⟨gb119, 8, none⟩) (Kd.R_far (p := ⟨gb119, 7, none⟩) (Kd.R_far (p := ⟨gb119, 6, none⟩) (Kd.R_far (p := ⟨gb119, 5, none⟩) (Kd.R_far (p := ⟨gb119, 4, none⟩) (Kd.R_far (p := ⟨gb119, 3, none⟩) (Kd.R_far (p := ⟨gb119, 2, none⟩) (Kd.R_far (p := ⟨gb119, 1, none⟩) (Kd.R_far (p := ⟨gb119, 0, none⟩) (Kd.R_mono HO_3.out (fun k_ hk => (⟨hk, hk.2⟩ : _ ∧ k_ ≠ gb119))) (fun _ hk => hk.2) (.int .i64 ((rd_T47 l0 x11_1).f0))) (fun _ hk => hk.2) (.int .i64 ((rd_T47 l0 x11_1).f1))) (fun _ hk => hk.2) (.string ((rd_T47 l0 x11_1).f2))) (fun _ hk => hk.2) (.string ((rd_T47 l0 x11_1).f3))) (fun _ hk => hk.2) (.int .i64 ((rd_T47 l0 x11_1).f4))) (fun _ hk => hk.2) (.slice A118_5 ((rd_T47 l0 x11_1).f5).length c118_5)) (fun _ hk => hk.2) (.slice A118_6 ((rd_T47 l0 x11_1).f6).length c118_6)) (fun _ hk => hk.2) (.slice A118_7 ((rd_T47 l0 x11_1).f7).length c118_7)) (fun _ hk => hk.2) (.int .u8 ((rd_T47 l0 x11_1).f8))) (fun _ hk => hk.2) (.int .i64 ((rd_T47 l0 x11_1).f9))) (fun _ h_ => h_.1))) gb120 (Nat.le_of_eq hg.symm)) hb); have n1_ := Aside0.mk (blk_below (g := gb119) (o := .cells #[.int .i64 ((rd_T47 l0 x11_1).f0), .int .i64 ((rd_T47 l0 x11_1).f1), .string ((rd_T47 l0 x11_1).f2), .string ((rd_T47 l0 x11_1).f3), .int .i64 ((rd_T47 l0 x11_1).f4), .slice A118_5 ((rd_T47 l0 x11_1).f5).length c118_5, .slice A118_6 ((rd_T47 l0 x11_1).f6).length c118_6, .slice A118_7 ((rd_T47 l0 x11_1).f7).length c118_7, .int .u8 ((rd_T47 l0 x11_1).f8), .int .i64 ((rd_T47 l0 x11_1).f9)] 47 (0, 0)) (by (with_reducible repeat (first | refine blk_drewN ?_ _ | refine blk_drew ?_ | refine blk_alloc ?_ _)); refine blk_put (cs := #[.int .i64 ((rd_T47 l0 x11_1).f0), .int .i64 ((rd_T47 l0 x11_1).f1), .string ((rd_T47 l0 x11_1).f2), .string ((rd_T47 l0 x11_1).f3), .int .i64 ((rd_T47 l0 x11_1).f4), .slice A118_5 ((rd_T47 l0 x11_1).f5).length c118_5, .slice A118_6 ((rd_T47 l0 x11_1).f6).length c118_6, .slice A118_7 ((rd_T47 l0 x11_1).f7).length c118_7, .int .u8 ((rd_T47 l0 x11_1).f8), .int .i64 0]) ?_ 9 _ rfl; (with_reducible repeat (first | refine blk_drewN ?_ _ | refine blk_drew ?_ | refine blk_alloc ?_ _)); refine blk_put (cs := #[.int .i64 ((rd_T47 l0 x11_1).f0), .int .i64 ((rd_T47 l0 x11_1).f1), .string ((rd_T47 l0 x11_1).f2), .string ((rd_T47 l0 x11_1).f3), .int .i64 ((rd_T47 l0 x11_1).f4), .slice A118_5 ((rd_T47 l0 x11_1).f5).length c118_5, .slice A118_6 ((rd_T47 l0 x11_1).f6).length c118_6, .slice A118_7 ((rd_T47 l0 x11_1).f7).length c118_7, .int .u8 0, .int .i64 0]) ?_ 8 _ rfl; (with_reducible repeat (first | refine blk_drewN ?_ _ | refine blk_drew ?_ | refine blk_alloc ?_ _)); refine blk_put (cs := #[.int .i64 ((rd_T47 l0 x11_1).f0), .int .i64 ((rd_T47 l0 x11_1).f1), .string ((rd_T47 l0 x11_1).f2), .string ((rd_T47 l0 x11_1).f3), .int .i64 ((rd_T47 l0 x11_1).f4), .slice A118_5 ((rd_T47 l0 x11_1).f5).length c118_5, .slice A118_6 ((rd_T47 l0 x11_1).f6).length c118_6, .slice none 0 0, .int .u8 0, .int .i64 0]) ?_ 7 _ rfl; (with_reducible repeat (first | refine blk_drewN ?_ _ | refine blk_drew ?_ | refine blk_alloc ?_ _)); refine blk_put (cs := #[.int .i64 ((rd_T47 l0 x11_1).f0), .int .i64 ((rd_T47 l0 x11_1).f1), .string ((rd_T47 l0 x11_1).f2), .string ((rd_T47 l0 x11_1).f3), .int .i64 ((rd_T47 l0 x11_1).f4), .slice A118_5 ((rd_T47 l0 x11_1).f5).length c118_5, .slice none 0 0, .slice none 0 0, .int .u8 0, .int .i64 0]) ?_ 6 _ rfl; (with_reducible repeat (first | refine blk_drewN ?_ _ | refine blk_drew ?_ | refine blk_alloc ?_ _)); refine blk_put (cs := #[.int .i64 ((rd_T47 l0 x11_1).f0), .int .i64 ((rd_T47 l0 x11_1).f1), .string ((rd_T47 l0 x11_1).f2), .string ((rd_T47 l0 x11_1).f3), .int .i64 ((rd_T47 l0 x11_1).f4), .slice none 0 0, .slice none 0 0, .slice none 0 0, .int .u8 0, .int .i64 0]) ?_ 5 _ rfl; (with_reducible repeat (first | refine blk_drewN ?_ _ | refine blk_drew ?_ | refine blk_alloc ?_ _)); refine blk_put (cs := #[.int .i64 ((rd_T47 l0 x11_1).f0), .int .i64 ((rd_T47 l0 x11_1).f1), .string ((rd_T47 l0 x11_1).f2), .string ((rd_T47 l0 x11_1).f3), .int .i64 0, .slice none 0 0, .slice none 0 0, .slice none 0 0, .int .u8 0, .int .i64 0]) ?_ 4 _ rfl; (with_reducible repeat (first | refine blk_drewN ?_ _ | refine blk_drew ?_ | refine blk_alloc ?_ _)); refine blk_put (cs := #[.int .i64 ((rd_T47 l0 x11_1).f0), .int .i64 ((rd_T47 l0 x11_1).f1), .string ((rd_T47 l0 x11_1).f2), .string (⟨#[]⟩ : ByteArray), .int .i64 0, .slice none 0 0, .slice none 0 0, .slice none 0 0, .int .u8 0, .int .i64 0]) ?_ 3 _ rfl; (with_reducible repeat (first | refine blk_drewN ?_ _ | refine blk_drew ?_ | refine blk_alloc ?_ _)); refine blk_put (cs := #[.int .i64 ((rd_T47 l0 x11_1).f0), .int .i64 ((rd_T47 l0 x11_1).f1), .string (⟨#[]⟩ : ByteArray), .string (⟨#[]⟩ : ByteArray), .int .i64 0, .slice none 0 0, .slice none 0 0, .slice none 0 0, .int .u8 0, .int .i64 0]) ?_ 2 _ rfl; (with_reducible repeat (first | refine blk_drewN ?_ _ | refine blk_drew ?_ | refine blk_alloc ?_ _)); refine blk_put (cs := #[.int .i64 ((rd_T47 l0 x11_1).f0), .int .i64 0, .string (⟨#[]⟩ : ByteArray), .string (⟨#[]⟩ : ByteArray), .int .i64 0, .slice none 0 0, .slice none 0 0, .slice none 0 0, .int .u8 0, .int .i64 0]) ?_ 1 _ rfl; (with_reducible repeat (first | refine blk_drewN ?_ _ | refine blk_drew ?_ | refine blk_alloc ?_ _)); refine blk_put (cs := #[.int .i64 0, .int .i64 0, .string (⟨#[]⟩ : ByteArray), .string (⟨#[]⟩ : ByteArray), .int .i64 0, .slice none 0 0, .slice none 0 0, .slice none 0 0, .int .u8 0, .int .i64 0]) ?_ 0 _ rfl; (with_reducible repeat (first | refine blk_drewN ?_ _ | refine blk_drew ?_ | refine blk_alloc ?_ _)); exact BK119.out) hb); have n2_ := Aside0.mk (below_step (by repeat (first | (with_reducible first | exact HB.out | apply below_alloc | apply pw_below_drewN | apply below_drew1 | refine below_set ?_ GE119.out) | exact HB.out)) hb); have n3_ := Aside0.mk (hbox); have n4_ := Aside0.mk ((by rw [hg]; exact (below_size (by repeat (first | (with_reducible first | exact HB.out | apply below_alloc | apply pw_below_drewN | apply below_drew1 | refine below_set ?_ GE119.out) | exact HB.out))) : w.heap.size ≤ gb120)); have n5_ := Aside0.mk ((by rw [hg]; exact (below_size (by repeat (first | (with_reducible first | exact HB.out | apply below_alloc | apply pw_below_drewN | apply below_drew1 | refine below_set ?_ GE119.out) | exact HB.out))) : w.heap.size ≤ gb120)); have n6_ := Aside0.mk ((by rw [hg]; exact Nat.ne_of_lt (blk_lt (g := gb119) (o := .cells #[.int .i64 ((rd_T47 l0 x11_1).f0), .int .i64 ((rd_T47 l0 x11_1).f1), .string ((rd_T47 l0 x11_1).f2), .string ((rd_T47 l0 x11_1).f3), .int .i64 ((rd_T47 l0 x11_1).f4), .slice A118_5 ((rd_T47 l0 x11_1).f5).length c118_5, .slice A118_6 ((rd_T47 l0 x11_1).f6).length c118_6, .slice A118_7 ((rd_T47 l0 x11_1).f7).length c118_7, .int .u8 ((rd_T47 l0 x11_1).f8), .int .i64 ((rd_T47 l0 x11_1).f9)] 47 (0, 0)) (by (with_reducible repeat (first | refine blk_drewN ?_ _ | refine blk_drew ?_ | refine blk_alloc ?_ _)); refine blk_put (cs := #[.int .i64 ((rd_T47 l0 x11_1).f0), .int .i64 ((rd_T47 l0 x11_1).f1), .string ((rd_T47 l0 x11_1).f2), .string ((rd_T47 l0 x11_1).f3), .int .i64 ((rd_T47 l0 x11_1).f4), .slice A118_5 ((rd_T47 l0 x11_1).f5).length c118_5, .slice A118_6 ((rd_T47 l0 x11_1).f6).length c118_6, .slice A118_7 ((rd_T47 l0 x11_1).f7).length c118_7, .int .u8 ((rd_T47 l0 x11_1).f8), .int .i64 0]) ?_ 9 _ rfl; (with_reducible repeat (first | refine blk_drewN ?_ _ | refine blk_drew ?_ | refine blk_alloc ?_ _)); refine blk_put (cs := #[.int .i64 ((rd_T47 l0 x11_1).f0), .int .i64 ((rd_T47 l0 x11_1).f1), .string ((rd_T47 l0 x11_1).f2), .string ((rd_T47 l0 x11_1).f3), .int .i64 ((rd_T47 l0 x11_1).f4), .slice A118_5 ((rd_T47 l0 x11_1).f5).length c118_5, .slice A118_6 ((rd_T47 l0 x11_1).f6).length c118_6, .slice A118_7 ((rd_T47 l0 x11_1).f7).length c118_7, .int .u8 0, .int .i64 0]) ?_ 8 _ rfl; (with_reducible repeat (first | refine blk_drewN ?_ _ | refine blk_drew ?_ | refine blk_alloc ?_ _)); refine blk_put (cs := #[.int .i64 ((rd_T47 l0 x11_1).f0), .int .i64 ((rd_T47 l0 x11_1).f1), .string ((rd_T47 l0 x11_1).f2), .string ((rd_T47 l0 x11_1).f3), .int .i64 ((rd_T47 l0 x11_1).f4), .slice A118_5 ((rd_T47 l0 x11_1).f5).length c118_5, .slice A118_6 ((rd_T47 l0 x11_1).f6).length c118_6, .slice none 0 0, .int .u8 0, .int .i64 0]) ?_ 7 _ rfl; (with_reducible repeat (first | refine blk_drewN ?_ _ | refine blk_drew ?_ | refine blk_alloc ?_ _)); refine blk_put (cs := #[.int .i64 ((rd_T47 l0 x11_1).f0), .int .i64 ((rd_T47 l0 x11_1).f1), .string ((rd_T47 l0 x11_1).f2), .string ((rd_T47 l0 x11_1).f3), .int .i64 ((rd_T47 l0 x11_1).f4), .slice A118_5 ((rd_T47 l0 x11_1).f5).length c118_5, .slice none 0 0, .slice none 0 0, .int .u8 0, .int .i64 0]) ?_ 6 _ rfl; (with_reducible repeat (first | refine blk_drewN ?_ _ | refine blk_drew ?_ | refine blk_alloc ?_ _)); refine blk_put (cs := #[.int .i64 ((rd_T47 l0 x11_1).f0), .int .i64 ((rd_T47 l0 x11_1).f1), .string ((rd_T47 l0 x11_1).f2), .string ((rd_T47 l0 x11_1).f3), .int .i64 ((rd_T47 l0 x11_1).f4), .slice none 0 0, .slice none 0 0, .slice none 0 0, .int .u8 0, .int .i64 0]) ?_ 5 _ rfl; (with_reducible repeat (first | refine blk_drewN ?_ _ | refine blk_drew ?_ | refine blk_alloc ?_ _)); refine blk_put (cs := #[.int .i64 ((rd_T47 l0 x11_1).f0), .int .i64 ((rd_T47 l0 x11_1).f1), .string ((rd_T47 l0 x11_1).f2), .string ((rd_T47 l0 x11_1).f3), .int .i64 0, .slice none 0 0, .slice none 0 0, .slice none 0 0, .int .u8 0, .int .i64 0]) ?_ 4 _ rfl; (with_reducible repeat (first | refine blk_drewN ?_ _ | refine blk_drew ?_ | refine blk_alloc ?_ _)); refine blk_put (cs := #[.int .i64 ((rd_T47 l0 x11_1).f0), .int .i64 ((rd_T47 l0 x11_1).f1), .string ((rd_T47 l0 x11_1).f2), .string (⟨#[]⟩ : ByteArray), .int .i64 0, .slice none 0 0, .slice none 0 0, .slice none 0 0, .int .u8 0, .int .i64 0]) ?_ 3 _ rfl; (with_reducible repeat (first | refine blk_drewN ?_ _ | refine blk_drew ?_ | refine blk_alloc ?_ _)); refine blk_put (cs := #[.int .i64 ((rd_T47 l0 x11_1).f0), .int .i64 ((rd_T47 l0 x11_1).f1), .string (⟨#[]⟩ : ByteArray), .string (⟨#[]⟩ : ByteArray), .int .i64 0, .slice none 0 0, .slice none 0 0, .slice none 0 0, .int .u8 0, .int .i64 0]) ?_ 2 _ rfl; (with_reducible repeat (first | refine blk_drewN ?_ _ | refine blk_drew ?_ | refine blk_alloc ?_ _)); refine blk_put (cs := #[.int .i64 ((rd_T47 l0 x11_1).f0), .int .i64 0, .string (⟨#[]⟩ : ByteArray), .string (⟨#[]⟩ : ByteArray), .int .i64 0, .slice none 0 0, .slice none 0 0, .slice none 0 0, .int .u8 0, .int .i64 0]) ?_ 1 _ rfl; (with_reducible repeat (first | refine blk_drewN ?_ _ | refine blk_drew ?_ | refine blk_alloc ?_ _)); refine blk_put (cs := #[.int .i64 0, .int .i64 0, .string (⟨#[]⟩ : ByteArray), .string (⟨#[]⟩ : ByteArray), .int .i64 0, .slice none 0 0, .slice none 0 0, .slice none 0 0, .int .u8 0, .int .i64 0]) ?_ 0 _ rfl; (with_reducible repeat (first | refine blk_drewN ?_ _ | refine blk_drew ?_ | refine blk_alloc ?_ _)); exact BK119.out)) : gb119 ≠ gb120)); have n7_ := Aside0.mk ((by rw [hg]; exact Nat.ne_of_gt (blk_lt (g := gb119) (o := .cells #[.int .i64 ((rd_T47 l0 x11_1).f0), .int .i64 ((rd_T47 l0 x11_1).f1), .string ((rd_T47 l0 x11_1).f2), .string ((rd_T47 l0 x11_1).f3), .int .i64 ((rd_T47 l0 x11_1).f4), .slice A118_5 ((rd_T47 l0 x11_1).f5).length c118_5, .slice A118_6 ((rd_T47 l0 x11_1).f6).length c118_6, .slice A118_7 ((rd_T47 l0 x11_1).f7).length c118_7, .int .u8 ((rd_T47 l0 x11_1).f8), .int .i64 ((rd_T47 l0 x11_1).f9)] 47 (0, 0)) (by (with_reducible repeat (first | refine blk_drewN ?_ _ | refine blk_drew ?_ | refine blk_alloc ?_ _)); refine blk_put (cs := #[.int .i64 ((rd_T47 l0 x11_1).f0), .int .i64 ((rd_T47 l0 x11_1).f1), .string ((rd_T47 l0 x11_1).f2), .string ((rd_T47 l0 x11_1).f3), .int .i64 ((rd_T47 l0 x11_1).f4), .slice A118_5 ((rd_T47 l0 x11_1).f5).length c118_5, .slice A118_6 ((rd_T47 l0 x11_1).f6).length c118_6, .slice A118_7 ((rd_T47 l0 x11_1).f7).length c118_7, .int .u8 ((rd_T47 l0 x11_1).f8), .int .i64 0]) ?_ 9 _ rfl; (with_reducible repeat (first | refine blk_drewN ?_ _ | refine blk_drew ?_ | refine blk_alloc ?_ _)); refine blk_put (cs := #[.int .i64 ((rd_T47 l0 x11_1).f0), .int .i64 ((rd_T47 l0 x11_1).f1), .string ((rd_T47 l0 x11_1).f2), .string ((rd_T47 l0 x11_1).f3), .int .i64 ((rd_T47 l0 x11_1).f4), .slice A118_5 ((rd_T47 l0 x11_1).f5).length c118_5, .slice A118_6 ((rd_T47 l0 x11_1).f6).length c118_6, .slice A118_7 ((rd_T47 l0 x11_1).f7).length c118_7, .int .u8 0, .int .i64 0]) ?_ 8 _ rfl; (with_reducible repeat (first | refine blk_drewN ?_ _ | refine blk_drew ?_ | refine blk_alloc ?_ _)); refine blk_put (cs := #[.int .i64 ((rd_T47 l0 x11_1).f0), .int .i64 ((rd_T47 l0 x11_1).f1), .string ((rd_T47 l0 x11_1).f2), .string ((rd_T47 l0 x11_1).f3), .int .i64 ((rd_T47 l0 x11_1).f4), .slice A118_5 ((rd_T47 l0 x11_1).f5).length c118_5, .slice A118_6 ((rd_T47 l0 x11_1).f6).length c118_6, .slice none 0 0, .int .u8 0, .int .i64 0]) ?_ 7 _ rfl; (with_reducible repeat (first | refine blk_drewN ?_ _ | refine blk_drew ?_ | refine blk_alloc ?_ _)); refine blk_put (cs := #[.int .i64 ((rd_T47 l0 x11_1).f0), .int .i64 ((rd_T47 l0 x11_1).f1), .string ((rd_T47 l0 x11_1).f2), .string ((rd_T47 l0 x11_1).f3), .int .i64 ((rd_T47 l0 x11_1).f4), .slice A118_5 ((rd_T47 l0 x11_1).f5).length c118_5, .slice none 0 0, .slice none 0 0, .int .u8 0, .int .i64 0]) ?_ 6 _ rfl; (with_reducible repeat (first | refine blk_drewN ?_ _ | refine blk_drew ?_ | refine blk_alloc ?_ _)); refine blk_put (cs := #[.int .i64 ((rd_T47 l0 x11_1).f0), .int .i64 ((rd_T47 l0 x11_1).f1), .string ((rd_T47 l0 x11_1).f2), .string ((rd_T47 l0 x11_1).f3), .int .i64 ((rd_T47 l0 x11_1).f4), .slice none 0 0, .slice none 0 0, .slice none 0 0, .int .u8 0, .int .i64 0]) ?_ 5 _ rfl; (with_reducible repeat (first | refine blk_drewN ?_ _ | refine blk_drew ?_ | refine blk_alloc ?_ _)); refine blk_put (cs := #[.int .i64 ((rd_T47 l0 x11_1).f0), .int .i64 ((rd_T47 l0 x11_1).f1), .string ((rd_T47 l0 x11_1).f2), .string ((rd_T47 l0 x11_1).f3), .int .i64 0, .slice none 0 0, .slice none 0 0, .slice none 0 0, .int .u8 0, .int .i64 0]) ?_ 4 _ rfl; (with_reducible repeat (first | refine blk_drewN ?_ _ | refine blk_drew ?_ | refine blk_alloc ?_ _)); refine blk_put (cs := #[.int .i64 ((rd_T47 l0 x11_1).f0), .int .i64 ((rd_T47 l0 x11_1).f1), .string ((rd_T47 l0 x11_1).f2), .string (⟨#[]⟩ : ByteArray), .int .i64 0, .slice none 0 0, .slice none 0 0, .slice none 0 0, .int .u8 0, .int .i64 0]) ?_ 3 _ rfl; (with_reducible repeat (first | refine blk_drewN ?_ _ | refine blk_drew ?_ | refine blk_alloc ?_ _)); refine blk_put (cs := #[.int .i64 ((rd_T47 l0 x11_1).f0), .int .i64 ((rd_T47 l0 x11_1).f1), .string (⟨#[]⟩ : ByteArray), .string (⟨#[]⟩ : ByteArray), .int .i64 0, .slice none 0 0, .slice none 0 0, .slice none 0 0, .int .u8 0, .int .i64 0]) ?_ 2 _ rfl; (with_reducible repeat (first | refine blk_drewN ?_ _ | refine blk_drew ?_ | refine blk_alloc ?_ _)); refine blk_put (cs := #[.int .i64 ((rd_T47 l0 x11_1).f0), .int .i64 0, .string (⟨#[]⟩ : ByteArray), .string (⟨#[]⟩ : ByteArray), .int .i64 0, .slice none 0 0, .slice none 0 0, .slice none 0 0, .int .u8 0, .int .i64 0]) ?_ 1 _ rfl; (with_reducible repeat (first | refine blk_drewN ?_ _ | refine blk_drew ?_ | refine blk_alloc ?_ _)); refine blk_put (cs := #[.int .i64 0, .int .i64 0, .string (⟨#[]⟩ : ByteArray), .string (⟨#[]⟩ : ByteArray), .int .i64 0, .slice none 0 0, .slice none 0 0, .slice none 0 0, .int .u8 0, .int .i64 0]) ?_ 0 _ rfl; (with_reducible repeat (first | refine blk_drewN ?_ _ | refine blk_drew ?_ | refine blk_alloc ?_ _)); exact BK119.out)) : gb120 ≠ gb119)); clear HO_3; clear BK119; clear HB; have HO_3 := n0_; have BK119 := n1_; have HB := n2_; have BK120 := n3_; have GW120 := n4_; have GE120 := n5_; have NB119_120 := n6_; have NB120_119 := n7_; clear n0_ n1_ n2_ n3_ n4_ n5_ n6_ n7_; clear hb hbox hg; have hnb8 := NB120_119.out; have hnc8 := NB119_120.out; have hcz9_0 : w7.cell? ⟨gb120, 0, none⟩ = some (.int .i64 0) := (blk_cell BK120.out 0).trans rfl; have hcz9_1 : w7.cell? ⟨gb120, 1, none⟩ = some (.int .i64 0) := (blk_cell BK120.out 1).trans rfl; have hcz9_2 : w7.cell? ⟨gb120, 2, none⟩ = some (.string (⟨#[]⟩ : ByteArray)) := (blk_cell BK120.out 2).trans rfl; have hcz9_3 : w7.cell? ⟨gb120, 3, none⟩ = some (.string (⟨#[]⟩ : ByteArray)) := (blk_cell BK120.out 3).trans rfl; have hcz9_4 : w7.cell? ⟨gb120, 4, none⟩ = some (.int .i64 0) := (blk_cell BK120.out 4).trans rfl; have hcz9_5 : w7.cell? ⟨gb120, 5, none⟩ = some (.slice none 0 0) := (blk_cell BK120.out 5).trans rfl; have hcz9_6 : w7.cell? ⟨gb120, 6, none⟩ = some (.slice none 0 0) := (blk_cell BK120.out 6).trans rfl; have hcz9_7 : w7.cell? ⟨gb120, 7, none⟩ = some (.slice none 0 0) := (blk_cell BK120.out 7).trans rfl; have hcz9_8 : w7.cell? ⟨gb120, 8, none⟩ = some (.int .u8 0) := (blk_cell BK120.out 8).trans rfl; have hcz9_9 : w7.cell? ⟨gb120, 9, none⟩ = some (.int .i64 0) := (blk_cell BK120.out 9).trans rfl; have hfz9_0 := blk_frozen BK120.out 0; have hfz9_1 := blk_frozen BK120.out 1; have hfz9_2 := blk_frozen BK120.out 2; have hfz9_3 := blk_frozen BK120.out 3; have hfz9_4 := blk_frozen BK120.out 4; have hfz9_5 := blk_frozen BK120.out 5; have hfz9_6 := blk_frozen BK120.out 6; have hfz9_7 := blk_frozen BK120.out 7; have hfz9_8 := blk_frozen BK120.out 8; have hfz9_9 := blk_frozen BK120.out 9; have hcz10_0 : w7.cell? ⟨gb119, 0, none⟩ = some (.int .i64 ((rd_T47 l0 x11_1).f0)) := (blk_cell BK119.out 0).trans rfl; have hcz10_1 : w7.cell? ⟨gb119, 1, none⟩ = some (.int .i64 ((rd_T47 l0 x11_1).f1)) := (blk_cell BK119.out 1).trans rfl; have hcz10_2 : w7.cell? ⟨gb119, 2, none⟩ = some (.string ((rd_T47 l0 x11_1).f2)) := (blk_cell BK119.out 2).trans rfl; have hcz10_3 : w7.cell? ⟨gb119, 3, none⟩ = some (.string ((rd_T47 l0 x11_1).f3)) := (blk_cell BK119.out 3).trans rfl; have hcz10_4 : w7.cell? ⟨gb119, 4, none⟩ = some (.int .i64 ((rd_T47 l0 x11_1).f4)) := (blk_cell BK119.out 4).trans rfl; have hcz10_5 : w7.cell? ⟨gb119, 5, none⟩ = some (.slice A118_5 ((rd_T47 l0 x11_1).f5).length c118_5) := (blk_cell BK119.out 5).trans rfl; have hcz10_6 : w7.cell? ⟨gb119, 6, none⟩ = some (.slice A118_6 ((rd_T47 l0 x11_1).f6).length c118_6) := (blk_cell BK119.out 6).trans rfl; have hcz10_7 : w7.cell? ⟨gb119, 7, none⟩ = some (.slice A118_7 ((rd_T47 l0 x11_1).f7).length c118_7) := (blk_cell BK119.out 7).trans rfl; have hcz10_8 : w7.cell? ⟨gb119, 8, none⟩ = some (.int .u8 ((rd_T47 l0 x11_1).f8)) := (blk_cell BK119.out 8).trans rfl; have hcz10_9 : w7.cell? ⟨gb119, 9, none⟩ = some (.int .i64 ((rd_T47 l0 x11_1).f9)) := (blk_cell BK119.out 9).trans rfl; have hfz10_0 := blk_frozen BK119.out 0; have hfz10_1 := blk_frozen BK119.out 1; have hfz10_2 := blk_frozen BK119.out 2; have hfz10_3 := blk_frozen BK119.out 3; have hfz10_4 := blk_frozen BK119.out 4; have hfz10_5 := blk_frozen BK119.out 5; have hfz10_6 := blk_frozen BK119.out 6; have hfz10_7 := blk_frozen BK119.out 7; have hfz10_8 := blk_frozen BK119.out 8; have hfz10_9 := blk_frozen BK119.out 9))
            go_loopg [20] k1 (fun kq v20 w' => ∃ (x20_2 : Int) (x121005_2 : List (S49)) (u121005 : Value), v20 = .int .i64 x20_2 ∧ Aside0 (provisoplain_Stmts.l1 kq x3_1 l0 (l0.length : Int) x11_1 ((rd_T47 l0 x11_1).f5) (((rd_T47 l0 x11_1).f5).length : Int) x20_2 ((rd_T47 l0 x11_1).f0) ((rd_T47 l0 x11_1).f1) ((rd_T47 l0 x11_1).f2) ((rd_T47 l0 x11_1).f3) ((rd_T47 l0 x11_1).f4) ((rd_T47 l0 x11_1).f5) ((rd_T47 l0 x11_1).f6) ((rd_T47 l0 x11_1).f7) ((rd_T47 l0 x11_1).f8) ((rd_T47 l0 x11_1).f9) ((rd_T47 l0 x11_1).f0) ((rd_T47 l0 x11_1).f1) ((rd_T47 l0 x11_1).f2) ((rd_T47 l0 x11_1).f3) ((rd_T47 l0 x11_1).f4) x121005_2 ((rd_T47 l0 x11_1).f6) ((rd_T47 l0 x11_1).f7) ((rd_T47 l0 x11_1).f8) ((rd_T47 l0 x11_1).f9) = some r) ∧ Aside0 (kq ≤ k1) ∧ Aside0 (Kd.R k47 47 w' w.heap.size (fun k_ => some k_ ≠ (u121005 : Value).ownBlock ∧ k_ ≠ gb119 ∧ k_ ≠ gb120) u3 x3_1) ∧ Aside0 (Kd.R k49 49 w' w.heap.size (fun _ => True) u121005 x121005_2) ∧ Aside0 (w'.heap[gb119]? = some (.cells #[.int .i64 ((rd_T47 l0 x11_1).f0), .int .i64 ((rd_T47 l0 x11_1).f1), .string ((rd_T47 l0 x11_1).f2), .string ((rd_T47 l0 x11_1).f3), .int .i64 ((rd_T47 l0 x11_1).f4), (.slice A118_5 ((rd_T47 l0 x11_1).f5).length c118_5), (.slice A118_6 ((rd_T47 l0 x11_1).f6).length c118_6), (.slice A118_7 ((rd_T47 l0 x11_1).f7).length c118_7), .int .u8 ((rd_T47 l0 x11_1).f8), .int .i64 ((rd_T47 l0 x11_1).f9)] 47 (0, 0))) ∧ Aside0 (w'.heap[gb120]? = some (.cells #[.int .i64 ((rd_T47 l0 x11_1).f0), .int .i64 ((rd_T47 l0 x11_1).f1), .string ((rd_T47 l0 x11_1).f2), .string ((rd_T47 l0 x11_1).f3), .int .i64 ((rd_T47 l0 x11_1).f4), u121005, (.slice A118_6 ((rd_T47 l0 x11_1).f6).length c118_6), (.slice A118_7 ((rd_T47 l0 x11_1).f7).length c118_7), .int .u8 ((rd_T47 l0 x11_1).f8), .int .i64 ((rd_T47 l0 x11_1).f9)] 47 (0, 0))) ∧ Aside0 (Below w.heap.size w w'))
            case atStart => exact ⟨(0), (([] : List (S49))), (.slice none 0 0), (by first | rfl | (simp; done) | (simp [*]; done)), H', ⟨Nat.le_refl _⟩, ⟨by (with_reducible repeat (first | apply Kd.R_alloc | apply Kd.R_drewN | apply Kd.R_drew)); exact Kd.R_mono (Kd.R_far (p := ⟨gb120, 5, none⟩) (Kd.R_far (p := ⟨gb120, 9, none⟩) (Kd.R_far (p := ⟨gb120, 8, none⟩) (Kd.R_far (p := ⟨gb120, 7, none⟩) (Kd.R_far (p := ⟨gb120, 6, none⟩) (Kd.R_far (p := ⟨gb120, 5, none⟩) (Kd.R_far (p := ⟨gb120, 4, none⟩) (Kd.R_far (p := ⟨gb120, 3, none⟩) (Kd.R_far (p := ⟨gb120, 2, none⟩) (Kd.R_far (p := ⟨gb120, 1, none⟩) (Kd.R_far (p := ⟨gb120, 0, none⟩) (Kd.R_mono HO_3.out (fun k_ hk => (⟨hk, hk.2⟩ : _ ∧ k_ ≠ gb120))) (fun _ hk => hk.2) (.int .i64 ((rd_T47 l0 x11_1).f0))) (fun _ hk => hk.2) (.int .i64 ((rd_T47 l0 x11_1).f1))) (fun _ hk => hk.2) (.string ((rd_T47 l0 x11_1).f2))) (fun _ hk => hk.2) (.string ((rd_T47 l0 x11_1).f3))) (fun _ hk => hk.2) (.int .i64 ((rd_T47 l0 x11_1).f4))) (fun _ hk => hk.2) (.slice A118_5 ((rd_T47 l0 x11_1).f5).length c118_5)) (fun _ hk => hk.2) (.slice A118_6 ((rd_T47 l0 x11_1).f6).length c118_6)) (fun _ hk => hk.2) (.slice A118_7 ((rd_T47 l0 x11_1).f7).length c118_7)) (fun _ hk => hk.2) (.int .u8 ((rd_T47 l0 x11_1).f8))) (fun _ hk => hk.2) (.int .i64 ((rd_T47 l0 x11_1).f9))) (fun _ hk => hk.2) (.slice none 0 0)) (fun _ hk => ⟨(by simp [Value.ownBlock]), ⟨hk.1.1.2, hk.1.2⟩⟩)⟩, ⟨by first | exact Kd.R_nil _ _ _ _ _ | exact Kd.N_nil _ _ _ _ _ | exact Kd.V_nil _ _ _ _ _ | exact Kd.Q_nil _ _ _ _ _ | exact Kd.S_nil _ _ _ _ _⟩, ⟨by (with_reducible repeat (first | refine blk_drewN ?_ _ | refine blk_drew ?_ | refine blk_alloc ?_ _)); refine blk_far ?_ NB119_120.out _; (with_reducible repeat (first | refine blk_drewN ?_ _ | refine blk_drew ?_ | refine blk_alloc ?_ _)); refine blk_far ?_ NB119_120.out _; (with_reducible repeat (first | refine blk_drewN ?_ _ | refine blk_drew ?_ | refine blk_alloc ?_ _)); refine blk_far ?_ NB119_120.out _; (with_reducible repeat (first | refine blk_drewN ?_ _ | refine blk_drew ?_ | refine blk_alloc ?_ _)); refine blk_far ?_ NB119_120.out _; (with_reducible repeat (first | refine blk_drewN ?_ _ | refine blk_drew ?_ | refine blk_alloc ?_ _)); refine blk_far ?_ NB119_120.out _; (with_reducible repeat (first | refine blk_drewN ?_ _ | refine blk_drew ?_ | refine blk_alloc ?_ _)); refine blk_far ?_ NB119_120.out _; (with_reducible repeat (first | refine blk_drewN ?_ _ | refine blk_drew ?_ | refine blk_alloc ?_ _)); refine blk_far ?_ NB119_120.out _; (with_reducible repeat (first | refine blk_drewN ?_ _ | refine blk_drew ?_ | refine blk_alloc ?_ _)); refine blk_far ?_ NB119_120.out _; (with_reducible repeat (first | refine blk_drewN ?_ _ | refine blk_drew ?_ | refine blk_alloc ?_ _)); refine blk_far ?_ NB119_120.out _; (with_reducible repeat (first | refine blk_drewN ?_ _ | refine blk_drew ?_ | refine blk_alloc ?_ _)); refine blk_far ?_ NB119_120.out _; (with_reducible repeat (first | refine blk_drewN ?_ _ | refine blk_drew ?_ | refine blk_alloc ?_ _)); refine blk_far ?_ NB119_120.out _; (with_reducible repeat (first | refine blk_drewN ?_ _ | refine blk_drew ?_ | refine blk_alloc ?_ _)); exact BK119.out⟩, ⟨by (with_reducible repeat (first | refine blk_drewN ?_ _ | refine blk_drew ?_ | refine blk_alloc ?_ _)); refine blk_put (cs := #[.int .i64 ((rd_T47 l0 x11_1).f0), .int .i64 ((rd_T47 l0 x11_1).f1), .string ((rd_T47 l0 x11_1).f2), .string ((rd_T47 l0 x11_1).f3), .int .i64 ((rd_T47 l0 x11_1).f4), .slice A118_5 ((rd_T47 l0 x11_1).f5).length c118_5, .slice A118_6 ((rd_T47 l0 x11_1).f6).length c118_6, .slice A118_7 ((rd_T47 l0 x11_1).f7).length c118_7, .int .u8 ((rd_T47 l0 x11_1).f8), .int .i64 ((rd_T47 l0 x11_1).f9)]) ?_ 5 _ rfl; (with_reducible repeat (first | refine blk_drewN ?_ _ | refine blk_drew ?_ | refine blk_alloc ?_ _)); refine blk_put (cs := #[.int .i64 ((rd_T47 l0 x11_1).f0), .int .i64 ((rd_T47 l0 x11_1).f1), .string ((rd_T47 l0 x11_1).f2), .string ((rd_T47 l0 x11_1).f3), .int .i64 ((rd_T47 l0 x11_1).f4), .slice A118_5 ((rd_T47 l0 x11_1).f5).length c118_5, .slice A118_6 ((rd_T47 l0 x11_1).f6).length c118_6, .slice A118_7 ((rd_T47 l0 x11_1).f7).length c118_7, .int .u8 ((rd_T47 l0 x11_1).f8), .int .i64 0]) ?_ 9 _ rfl; (with_reducible repeat (first | refine blk_drewN ?_ _ | refine blk_drew ?_ | refine blk_alloc ?_ _)); refine blk_put (cs := #[.int .i64 ((rd_T47 l0 x11_1).f0), .int .i64 ((rd_T47 l0 x11_1).f1), .string ((rd_T47 l0 x11_1).f2), .string ((rd_T47 l0 x11_1).f3), .int .i64 ((rd_T47 l0 x11_1).f4), .slice A118_5 ((rd_T47 l0 x11_1).f5).length c118_5, .slice A118_6 ((rd_T47 l0 x11_1).f6).length c118_6, .slice A118_7 ((rd_T47 l0 x11_1).f7).length c118_7, .int .u8 0, .int .i64 0]) ?_ 8 _ rfl; (with_reducible repeat (first | refine blk_drewN ?_ _ | refine blk_drew ?_ | refine blk_alloc ?_ _)); refine blk_put (cs := #[.int .i64 ((rd_T47 l0 x11_1).f0), .int .i64 ((rd_T47 l0 x11_1).f1), .string ((rd_T47 l0 x11_1).f2), .string ((rd_T47 l0 x11_1).f3), .int .i64 ((rd_T47 l0 x11_1).f4), .slice A118_5 ((rd_T47 l0 x11_1).f5).length c118_5, .slice A118_6 ((rd_T47 l0 x11_1).f6).length c118_6, .slice none 0 0, .int .u8 0, .int .i64 0]) ?_ 7 _ rfl; (with_reducible repeat (first | refine blk_drewN ?_ _ | refine blk_drew ?_ | refine blk_alloc ?_ _)); refine blk_put (cs := #[.int .i64 ((rd_T47 l0 x11_1).f0), .int .i64 ((rd_T47 l0 x11_1).f1), .string ((rd_T47 l0 x11_1).f2), .string ((rd_T47 l0 x11_1).f3), .int .i64 ((rd_T47 l0 x11_1).f4), .slice A118_5 ((rd_T47 l0 x11_1).f5).length c118_5, .slice none 0 0, .slice none 0 0, .int .u8 0, .int .i64 0]) ?_ 6 _ rfl; (with_reducible repeat (first | refine blk_drewN ?_ _ | refine blk_drew ?_ | refine blk_alloc ?_ _)); refine blk_put (cs := #[.int .i64 ((rd_T47 l0 x11_1).f0), .int .i64 ((rd_T47 l0 x11_1).f1), .string ((rd_T47 l0 x11_1).f2), .string ((rd_T47 l0 x11_1).f3), .int .i64 ((rd_T47 l0 x11_1).f4), .slice none 0 0, .slice none 0 0, .slice none 0 0, .int .u8 0, .int .i64 0]) ?_ 5 _ rfl; (with_reducible repeat (first | refine blk_drewN ?_ _ | refine blk_drew ?_ | refine blk_alloc ?_ _)); refine blk_put (cs := #[.int .i64 ((rd_T47 l0 x11_1).f0), .int .i64 ((rd_T47 l0 x11_1).f1), .string ((rd_T47 l0 x11_1).f2), .string ((rd_T47 l0 x11_1).f3), .int .i64 0, .slice none 0 0, .slice none 0 0, .slice none 0 0, .int .u8 0, .int .i64 0]) ?_ 4 _ rfl; (with_reducible repeat (first | refine blk_drewN ?_ _ | refine blk_drew ?_ | refine blk_alloc ?_ _)); refine blk_put (cs := #[.int .i64 ((rd_T47 l0 x11_1).f0), .int .i64 ((rd_T47 l0 x11_1).f1), .string ((rd_T47 l0 x11_1).f2), .string (⟨#[]⟩ : ByteArray), .int .i64 0, .slice none 0 0, .slice none 0 0, .slice none 0 0, .int .u8 0, .int .i64 0]) ?_ 3 _ rfl; (with_reducible repeat (first | refine blk_drewN ?_ _ | refine blk_drew ?_ | refine blk_alloc ?_ _)); refine blk_put (cs := #[.int .i64 ((rd_T47 l0 x11_1).f0), .int .i64 ((rd_T47 l0 x11_1).f1), .string (⟨#[]⟩ : ByteArray), .string (⟨#[]⟩ : ByteArray), .int .i64 0, .slice none 0 0, .slice none 0 0, .slice none 0 0, .int .u8 0, .int .i64 0]) ?_ 2 _ rfl; (with_reducible repeat (first | refine blk_drewN ?_ _ | refine blk_drew ?_ | refine blk_alloc ?_ _)); refine blk_put (cs := #[.int .i64 ((rd_T47 l0 x11_1).f0), .int .i64 0, .string (⟨#[]⟩ : ByteArray), .string (⟨#[]⟩ : ByteArray), .int .i64 0, .slice none 0 0, .slice none 0 0, .slice none 0 0, .int .u8 0, .int .i64 0]) ?_ 1 _ rfl; (with_reducible repeat (first | refine blk_drewN ?_ _ | refine blk_drew ?_ | refine blk_alloc ?_ _)); refine blk_put (cs := #[.int .i64 0, .int .i64 0, .string (⟨#[]⟩ : ByteArray), .string (⟨#[]⟩ : ByteArray), .int .i64 0, .slice none 0 0, .slice none 0 0, .slice none 0 0, .int .u8 0, .int .i64 0]) ?_ 0 _ rfl; (with_reducible repeat (first | refine blk_drewN ?_ _ | refine blk_drew ?_ | refine blk_alloc ?_ _)); exact BK120.out⟩, ⟨by repeat (first | (with_reducible first | exact HB.out | apply below_alloc | apply pw_below_drewN | apply below_drew1 | refine below_set ?_ GE119.out | refine below_set ?_ GE120.out) | exact HB.out)⟩⟩
            case round =>
              clear H'
              try clear c1
              try clear p1
              try clear q1
              try clear hx1
              try clear c2
              try clear c2b0
              try clear p2
              try clear c3
              try clear c3b0
              try clear c4
              try clear c4b0
              try clear c8
              try clear c9
              try clear hcz10_0
              try clear hcz10_1
              try clear hcz10_2
              try clear hcz10_3
              try clear hcz10_4
              try clear hcz10_5
              try clear hcz10_6
              try clear hcz10_7
              try clear hcz10_8
              try clear hcz10_9
              try clear hcz6_0
              try clear hcz6_1
              try clear hcz6_2
              try clear hcz6_3
              try clear hcz6_4
              try clear hcz6_5
              try clear hcz6_6
              try clear hcz6_7
              try clear hcz6_8
              try clear hcz6_9
              try clear hcz9_0
              try clear hcz9_1
              try clear hcz9_2
              try clear hcz9_3
              try clear hcz9_4
              try clear hcz9_5
              try clear hcz9_6
              try clear hcz9_7
              try clear hcz9_8
              try clear hcz9_9
              try clear hfz10_0
              try clear hfz10_1
              try clear hfz10_2
              try clear hfz10_3
              try clear hfz10_4
              try clear hfz10_5
              try clear hfz10_6
              try clear hfz10_7
              try clear hfz10_8
              try clear hfz10_9
              try clear hfz6_0
              try clear hfz6_1
              try clear hfz6_2
              try clear hfz6_3
              try clear hfz6_4
              try clear hfz6_5
              try clear hfz6_6
              try clear hfz6_7
              try clear hfz6_8
              try clear hfz6_9
              try clear hfz9_0
              try clear hfz9_1
              try clear hfz9_2
              try clear hfz9_3
              try clear hfz9_4
              try clear hfz9_5
              try clear hfz9_6
              try clear hfz9_7
              try clear hfz9_8
              try clear hfz9_9
              try clear hx118_0
              try clear hx118_1
              try clear hx118_2
              try clear hx118_3
              try clear hx118_4
              try clear hx118_5
              try clear hx118_6
              try clear hx118_7
              try clear hx118_8
              try clear hx118_9
              try clear p118
              try clear q118
              obtain ⟨x20_2, x121005_2, u121005, rfl, HA, HK2, HO_3, HO_121005, BK119, BK120, HB⟩ := hrel
              cases gk with
              | zero => exact absurd HA.out (by simp [provisoplain_Stmts.l1])
              | succ k2 =>
                have H := HA.out
                clear HA
                simp only [provisoplain_Stmts.l1] at H
                by_cases c11 : x20_2 < (((rd_T47 l0 x11_1).f5).length : Int)
                · rw [if_pos c11] at H
                  have c11b0 : decide (x20_2 < (((rd_T47 l0 x11_1).f5).length : Int)) = true := decide_eq_true c11
                  clear c11
                  by_cases c12 : 0 ≤ x20_2
                  · rw [if_pos c12] at H
                    have c12b0 : decide (0 ≤ x20_2) = true := decide_eq_true c12
                    clear c12
                    by_cases c13 : x20_2 < (((rd_T47 l0 x11_1).f5).length : Int)
                    · rw [if_pos c13] at H
                      have c13b0 : decide (x20_2 < (((rd_T47 l0 x11_1).f5).length : Int)) = true := decide_eq_true c13
                      clear c13
                      replace H := Option.bind_eq_some_iff.mp H
                      obtain ⟨⟨t123, t124, t125, t126, t127, t130, t131, t132⟩, A140, H⟩ := H
                      replace H : (if x121005_2.length < 1599289640401 then (provisoplain_Stmts.l1 k2 x3_1 l0 (l0.length : Int) x11_1 ((rd_T47 l0 x11_1).f5) (((rd_T47 l0 x11_1).f5).length : Int) (wrap64 (x20_2 + 1)) ((rd_T47 l0 x11_1).f0) ((rd_T47 l0 x11_1).f1) ((rd_T47 l0 x11_1).f2) ((rd_T47 l0 x11_1).f3) ((rd_T47 l0 x11_1).f4) ((rd_T47 l0 x11_1).f5) ((rd_T47 l0 x11_1).f6) ((rd_T47 l0 x11_1).f7) ((rd_T47 l0 x11_1).f8) ((rd_T47 l0 x11_1).f9) ((rd_T47 l0 x11_1).f0) ((rd_T47 l0 x11_1).f1) ((rd_T47 l0 x11_1).f2) ((rd_T47 l0 x11_1).f3) ((rd_T47 l0 x11_1).f4) (x121005_2 ++ [(⟨t123, t124, t125, t126, t127, t130, t131, t132⟩ : S49)]) ((rd_T47 l0 x11_1).f6) ((rd_T47 l0 x11_1).f7) ((rd_T47 l0 x11_1).f8) ((rd_T47 l0 x11_1).f9)) else (none)) = some r := H
                      have A14 := Aside0.mk A140
                      clear A140
                      by_cases c15 : x121005_2.length < 1599289640401
                      · rw [if_pos c15] at H
                        have LMc15 := Aside0.mk c15
                        clear c15
                        obtain ⟨y133, hy133⟩ : ∃ y_ : List (S49), y_ = (x121005_2 ++ [(⟨t123, t124, t125, t126, t127, t130, t131, t132⟩ : S49)]) := ⟨_, rfl⟩
                        replace H : (provisoplain_Stmts.l1 k2 x3_1 l0 (l0.length : Int) x11_1 ((rd_T47 l0 x11_1).f5) (((rd_T47 l0 x11_1).f5).length : Int) (wrap64 (x20_2 + 1)) ((rd_T47 l0 x11_1).f0) ((rd_T47 l0 x11_1).f1) ((rd_T47 l0 x11_1).f2) ((rd_T47 l0 x11_1).f3) ((rd_T47 l0 x11_1).f4) ((rd_T47 l0 x11_1).f5) ((rd_T47 l0 x11_1).f6) ((rd_T47 l0 x11_1).f7) ((rd_T47 l0 x11_1).f8) ((rd_T47 l0 x11_1).f9) ((rd_T47 l0 x11_1).f0) ((rd_T47 l0 x11_1).f1) ((rd_T47 l0 x11_1).f2) ((rd_T47 l0 x11_1).f3) ((rd_T47 l0 x11_1).f4) y133 ((rd_T47 l0 x11_1).f6) ((rd_T47 l0 x11_1).f7) ((rd_T47 l0 x11_1).f8) ((rd_T47 l0 x11_1).f9)) = some r := by first | (rw [hy133]; with_reducible exact H) | (have H2_ := (Option.bind_some _ _).symm.trans H; rw [hy133]; with_reducible exact H2_) | (have H2_ := (Option.bind_some _ _).symm.trans H; with_reducible exact H2_) | with_reducible exact H | (rw [hy133]; exact H) | exact H
                        have Ny133 := Aside0.mk hy133
                        clear hy133
                        have H' := Aside0.mk H
                        clear H
                        have p121 : 0 ≤ (x20_2 : Int) := of_decide_eq_true (by first | (with_reducible assumption) | assumption)
                        have q121 : x20_2 < (((rd_T47 l0 x11_1).f5).length : Int) := of_decide_eq_true (by first | (with_reducible assumption) | assumption)
                        obtain ⟨ad121, A121_4, c121_4, e121, hx121_0, hx121_1, hx121_2, hx121_3, hx121_4, hx121_5, hx121_6, hx121_7, hl121_4, hi121_4⟩ := at_T49 HR118_5.out x20_2 p121 q121
                        cases e121
                        replace hx121_0 := (HB.out.cell (World.block_lt_of_cell? w _ hx121_0)).trans hx121_0
                        replace hx121_1 := (HB.out.cell (World.block_lt_of_cell? w _ hx121_1)).trans hx121_1
                        replace hx121_2 := (HB.out.cell (World.block_lt_of_cell? w _ hx121_2)).trans hx121_2
                        replace hx121_3 := (HB.out.cell (World.block_lt_of_cell? w _ hx121_3)).trans hx121_3
                        replace hx121_4 := (HB.out.cell (World.block_lt_of_cell? w _ hx121_4)).trans hx121_4
                        replace hx121_5 := (HB.out.cell (World.block_lt_of_cell? w _ hx121_5)).trans hx121_5
                        replace hx121_6 := (HB.out.cell (World.block_lt_of_cell? w _ hx121_6)).trans hx121_6
                        replace hx121_7 := (HB.out.cell (World.block_lt_of_cell? w _ hx121_7)).trans hx121_7
                        have HR121_4 := Aside0.mk hi121_4
                        have HC121_4 := Aside0.mk hl121_4
                        clear hi121_4 hl121_4
                        replace p121 := eq_true p121
                        replace q121 := eq_true q121
                        try go_wp2_with (first | ((with_reducible refine gate_dst (N := 8) rfl ?_); refine box_event ?hg (N := 8) ?hd (cs := #[.int .i64 0, .int .i64 0, .string (⟨#[]⟩ : ByteArray), .int .i64 0, .slice none 0 0, .int .u8 0, .int .i64 0, .int .i64 0]) (t := 49) ?hr ?_; (case hd => rfl); (case hg => rfl); (case hr => first | (go_simp; done) | (go_simp; rfl)); intro gb122 hg w16 hbox hb; have n0_ := Aside0.mk (Kd.R_below (Kd.R_elderB (by (with_reducible repeat (first | apply Kd.R_alloc | apply Kd.R_drewN | apply Kd.R_drew)); exact HO_3.out) gb122 (Nat.le_of_eq hg.symm)) hb); have n1_ := Aside0.mk (Kd.R_below (Kd.R_elderB (by (with_reducible repeat (first | apply Kd.R_alloc | apply Kd.R_drewN | apply Kd.R_drew)); exact HO_121005.out) gb122 (Nat.le_of_eq hg.symm)) hb); have n2_ := Aside0.mk (blk_below (g := gb119) (o := .cells #[.int .i64 ((rd_T47 l0 x11_1).f0), .int .i64 ((rd_T47 l0 x11_1).f1), .string ((rd_T47 l0 x11_1).f2), .string ((rd_T47 l0 x11_1).f3), .int .i64 ((rd_T47 l0 x11_1).f4), .slice (some ad121) ((rd_T47 l0 x11_1).f5).length c118_5, .slice A118_6 ((rd_T47 l0 x11_1).f6).length c118_6, .slice A118_7 ((rd_T47 l0 x11_1).f7).length c118_7, .int .u8 ((rd_T47 l0 x11_1).f8), .int .i64 ((rd_T47 l0 x11_1).f9)] 47 (0, 0)) (by (with_reducible repeat (first | refine blk_drewN ?_ _ | refine blk_drew ?_ | refine blk_alloc ?_ _)); exact BK119.out) hb); have n3_ := Aside0.mk (blk_below (g := gb120) (o := .cells #[.int .i64 ((rd_T47 l0 x11_1).f0), .int .i64 ((rd_T47 l0 x11_1).f1), .string ((rd_T47 l0 x11_1).f2), .string ((rd_T47 l0 x11_1).f3), .int .i64 ((rd_T47 l0 x11_1).f4), u121005, .slice A118_6 ((rd_T47 l0 x11_1).f6).length c118_6, .slice A118_7 ((rd_T47 l0 x11_1).f7).length c118_7, .int .u8 ((rd_T47 l0 x11_1).f8), .int .i64 ((rd_T47 l0 x11_1).f9)] 47 (0, 0)) (by (with_reducible repeat (first | refine blk_drewN ?_ _ | refine blk_drew ?_ | refine blk_alloc ?_ _)); exact BK120.out) hb); have n4_ := Aside0.mk (below_step (by repeat (first | (with_reducible first | exact HB.out | apply below_alloc | apply pw_below_drewN | apply below_drew1 | refine below_set ?_ GE119.out | refine below_set ?_ GE120.out) | exact HB.out)) hb); have n5_ := Aside0.mk (hbox); have n6_ := Aside0.mk ((by rw [hg]; exact (below_size (by repeat (first | (with_reducible first | exact HB.out | apply below_alloc | apply pw_below_drewN | apply below_drew1 | refine below_set ?_ GE119.out | refine below_set ?_ GE120.out) | exact HB.out))) : w.heap.size ≤ gb122)); have n7_ := Aside0.mk ((by rw [hg]; exact (below_size (by repeat (first | (with_reducible first | exact HB.out | apply below_alloc | apply pw_below_drewN | apply below_drew1 | refine below_set ?_ GE119.out | refine below_set ?_ GE120.out) | exact HB.out))) : w.heap.size ≤ gb122)); have n8_ := Aside0.mk ((by rw [hg]; exact Nat.ne_of_lt (blk_lt (g := gb119) (o := .cells #[.int .i64 ((rd_T47 l0 x11_1).f0), .int .i64 ((rd_T47 l0 x11_1).f1), .string ((rd_T47 l0 x11_1).f2), .string ((rd_T47 l0 x11_1).f3), .int .i64 ((rd_T47 l0 x11_1).f4), .slice (some ad121) ((rd_T47 l0 x11_1).f5).length c118_5, .slice A118_6 ((rd_T47 l0 x11_1).f6).length c118_6, .slice A118_7 ((rd_T47 l0 x11_1).f7).length c118_7, .int .u8 ((rd_T47 l0 x11_1).f8), .int .i64 ((rd_T47 l0 x11_1).f9)] 47 (0, 0)) (by (with_reducible repeat (first | refine blk_drewN ?_ _ | refine blk_drew ?_ | refine blk_alloc ?_ _)); exact BK119.out)) : gb119 ≠ gb122)); have n9_ := Aside0.mk ((by rw [hg]; exact Nat.ne_of_gt (blk_lt (g := gb119) (o := .cells #[.int .i64 ((rd_T47 l0 x11_1).f0), .int .i64 ((rd_T47 l0 x11_1).f1), .string ((rd_T47 l0 x11_1).f2), .string ((rd_T47 l0 x11_1).f3), .int .i64 ((rd_T47 l0 x11_1).f4), .slice (some ad121) ((rd_T47 l0 x11_1).f5).length c118_5, .slice A118_6 ((rd_T47 l0 x11_1).f6).length c118_6, .slice A118_7 ((rd_T47 l0 x11_1).f7).length c118_7, .int .u8 ((rd_T47 l0 x11_1).f8), .int .i64 ((rd_T47 l0 x11_1).f9)] 47 (0, 0)) (by (with_reducible repeat (first | refine blk_drewN ?_ _ | refine blk_drew ?_ | refine blk_alloc ?_ _)); exact BK119.out)) : gb122 ≠ gb119)); have n10_ := Aside0.mk ((by rw [hg]; exact Nat.ne_of_lt (blk_lt (g := gb120) (o := .cells #[.int .i64 ((rd_T47 l0 x11_1).f0), .int .i64 ((rd_T47 l0 x11_1).f1), .string ((rd_T47 l0 x11_1).f2), .string ((rd_T47 l0 x11_1).f3), .int .i64 ((rd_T47 l0 x11_1).f4), u121005, .slice A118_6 ((rd_T47 l0 x11_1).f6).length c118_6, .slice A118_7 ((rd_T47 l0 x11_1).f7).length c118_7, .int .u8 ((rd_T47 l0 x11_1).f8), .int .i64 ((rd_T47 l0 x11_1).f9)] 47 (0, 0)) (by (with_reducible repeat (first | refine blk_drewN ?_ _ | refine blk_drew ?_ | refine blk_alloc ?_ _)); exact BK120.out)) : gb120 ≠ gb122)); have n11_ := Aside0.mk ((by rw [hg]; exact Nat.ne_of_gt (blk_lt (g := gb120) (o := .cells #[.int .i64 ((rd_T47 l0 x11_1).f0), .int .i64 ((rd_T47 l0 x11_1).f1), .string ((rd_T47 l0 x11_1).f2), .string ((rd_T47 l0 x11_1).f3), .int .i64 ((rd_T47 l0 x11_1).f4), u121005, .slice A118_6 ((rd_T47 l0 x11_1).f6).length c118_6, .slice A118_7 ((rd_T47 l0 x11_1).f7).length c118_7, .int .u8 ((rd_T47 l0 x11_1).f8), .int .i64 ((rd_T47 l0 x11_1).f9)] 47 (0, 0)) (by (with_reducible repeat (first | refine blk_drewN ?_ _ | refine blk_drew ?_ | refine blk_alloc ?_ _)); exact BK120.out)) : gb122 ≠ gb120)); clear HO_3; clear HO_121005; clear BK119; clear BK120; clear HB; have HO_3 := n0_; have HO_121005 := n1_; have BK119 := n2_; have BK120 := n3_; have HB := n4_; have BK122 := n5_; have GW122 := n6_; have GE122 := n7_; have NB119_122 := n8_; have NB122_119 := n9_; have NB120_122 := n10_; have NB122_120 := n11_; clear n0_ n1_ n2_ n3_ n4_ n5_ n6_ n7_ n8_ n9_ n10_ n11_; clear hb hbox hg; have hnb17 := NB122_119.out; have hnc17 := NB119_122.out; have hnb18 := NB122_120.out; have hnc18 := NB120_122.out; have hcz19_0 : w16.cell? ⟨gb122, 0, none⟩ = some (.int .i64 0) := (blk_cell BK122.out 0).trans rfl; have hcz19_1 : w16.cell? ⟨gb122, 1, none⟩ = some (.int .i64 0) := (blk_cell BK122.out 1).trans rfl; have hcz19_2 : w16.cell? ⟨gb122, 2, none⟩ = some (.string (⟨#[]⟩ : ByteArray)) := (blk_cell BK122.out 2).trans rfl; have hcz19_3 : w16.cell? ⟨gb122, 3, none⟩ = some (.int .i64 0) := (blk_cell BK122.out 3).trans rfl; have hcz19_4 : w16.cell? ⟨gb122, 4, none⟩ = some (.slice none 0 0) := (blk_cell BK122.out 4).trans rfl; have hcz19_5 : w16.cell? ⟨gb122, 5, none⟩ = some (.int .u8 0) := (blk_cell BK122.out 5).trans rfl; have hcz19_6 : w16.cell? ⟨gb122, 6, none⟩ = some (.int .i64 0) := (blk_cell BK122.out 6).trans rfl; have hcz19_7 : w16.cell? ⟨gb122, 7, none⟩ = some (.int .i64 0) := (blk_cell BK122.out 7).trans rfl; have hfz19_0 := blk_frozen BK122.out 0; have hfz19_1 := blk_frozen BK122.out 1; have hfz19_2 := blk_frozen BK122.out 2; have hfz19_3 := blk_frozen BK122.out 3; have hfz19_4 := blk_frozen BK122.out 4; have hfz19_5 := blk_frozen BK122.out 5; have hfz19_6 := blk_frozen BK122.out 6; have hfz19_7 := blk_frozen BK122.out 7))
                        have n0_ : Aside0 (Kd.R k47 47 ((((((((w16.setCell ⟨gb122, 0, none⟩ (.int .i64 ((rd_T49 ((rd_T47 l0 x11_1).f5) x20_2).f0))).setCell ⟨gb122, 1, none⟩ (.int .i64 ((rd_T49 ((rd_T47 l0 x11_1).f5) x20_2).f1))).setCell ⟨gb122, 2, none⟩ (.string ((rd_T49 ((rd_T47 l0 x11_1).f5) x20_2).f2))).setCell ⟨gb122, 3, none⟩ (.int .i64 ((rd_T49 ((rd_T47 l0 x11_1).f5) x20_2).f3))).setCell ⟨gb122, 4, none⟩ (.slice A121_4 ((rd_T49 ((rd_T47 l0 x11_1).f5) x20_2).f4).length c121_4)).setCell ⟨gb122, 5, none⟩ (.int .u8 ((rd_T49 ((rd_T47 l0 x11_1).f5) x20_2).f5))).setCell ⟨gb122, 6, none⟩ (.int .i64 ((rd_T49 ((rd_T47 l0 x11_1).f5) x20_2).f6))).setCell ⟨gb122, 7, none⟩ (.int .i64 ((rd_T49 ((rd_T47 l0 x11_1).f5) x20_2).f7))) w.heap.size (fun k_ => some k_ ≠ (u121005 : Value).ownBlock ∧ k_ ≠ gb119 ∧ k_ ≠ gb120 ∧ k_ ≠ gb122) u3 x3_1) := ⟨by (with_reducible repeat (first | apply Kd.R_alloc | apply Kd.R_drewN | apply Kd.R_drew)); exact Kd.R_mono (Kd.R_far (p := ⟨gb122, 7, none⟩) (Kd.R_far (p := ⟨gb122, 6, none⟩) (Kd.R_far (p := ⟨gb122, 5, none⟩) (Kd.R_far (p := ⟨gb122, 4, none⟩) (Kd.R_far (p := ⟨gb122, 3, none⟩) (Kd.R_far (p := ⟨gb122, 2, none⟩) (Kd.R_far (p := ⟨gb122, 1, none⟩) (Kd.R_far (p := ⟨gb122, 0, none⟩) (Kd.R_mono HO_3.out (fun k_ hk => (⟨hk, hk.2⟩ : _ ∧ k_ ≠ gb122))) (fun _ hk => hk.2) (.int .i64 ((rd_T49 ((rd_T47 l0 x11_1).f5) x20_2).f0))) (fun _ hk => hk.2) (.int .i64 ((rd_T49 ((rd_T47 l0 x11_1).f5) x20_2).f1))) (fun _ hk => hk.2) (.string ((rd_T49 ((rd_T47 l0 x11_1).f5) x20_2).f2))) (fun _ hk => hk.2) (.int .i64 ((rd_T49 ((rd_T47 l0 x11_1).f5) x20_2).f3))) (fun _ hk => hk.2) (.slice A121_4 ((rd_T49 ((rd_T47 l0 x11_1).f5) x20_2).f4).length c121_4)) (fun _ hk => hk.2) (.int .u8 ((rd_T49 ((rd_T47 l0 x11_1).f5) x20_2).f5))) (fun _ hk => hk.2) (.int .i64 ((rd_T49 ((rd_T47 l0 x11_1).f5) x20_2).f6))) (fun _ hk => hk.2) (.int .i64 ((rd_T49 ((rd_T47 l0 x11_1).f5) x20_2).f7))) (fun _ hk => ⟨hk.1.1.1, ⟨hk.1.1.2.1, ⟨hk.1.1.2.2, hk.1.2⟩⟩⟩)⟩
                        have n1_ : Aside0 (Kd.R k49 49 ((((((((w16.setCell ⟨gb122, 0, none⟩ (.int .i64 ((rd_T49 ((rd_T47 l0 x11_1).f5) x20_2).f0))).setCell ⟨gb122, 1, none⟩ (.int .i64 ((rd_T49 ((rd_T47 l0 x11_1).f5) x20_2).f1))).setCell ⟨gb122, 2, none⟩ (.string ((rd_T49 ((rd_T47 l0 x11_1).f5) x20_2).f2))).setCell ⟨gb122, 3, none⟩ (.int .i64 ((rd_T49 ((rd_T47 l0 x11_1).f5) x20_2).f3))).setCell ⟨gb122, 4, none⟩ (.slice A121_4 ((rd_T49 ((rd_T47 l0 x11_1).f5) x20_2).f4).length c121_4)).setCell ⟨gb122, 5, none⟩ (.int .u8 ((rd_T49 ((rd_T47 l0 x11_1).f5) x20_2).f5))).setCell ⟨gb122, 6, none⟩ (.int .i64 ((rd_T49 ((rd_T47 l0 x11_1).f5) x20_2).f6))).setCell ⟨gb122, 7, none⟩ (.int .i64 ((rd_T49 ((rd_T47 l0 x11_1).f5) x20_2).f7))) w.heap.size (fun k_ => k_ ≠ gb122) u121005 x121005_2) := ⟨by (with_reducible repeat (first | apply Kd.R_alloc | apply Kd.R_drewN | apply Kd.R_drew)); exact Kd.R_mono (Kd.R_far (p := ⟨gb122, 7, none⟩) (Kd.R_far (p := ⟨gb122, 6, none⟩) (Kd.R_far (p := ⟨gb122, 5, none⟩) (Kd.R_far (p := ⟨gb122, 4, none⟩) (Kd.R_far (p := ⟨gb122, 3, none⟩) (Kd.R_far (p := ⟨gb122, 2, none⟩) (Kd.R_far (p := ⟨gb122, 1, none⟩) (Kd.R_far (p := ⟨gb122, 0, none⟩) (Kd.R_mono HO_121005.out (fun k_ hk => (⟨hk, hk.2⟩ : _ ∧ k_ ≠ gb122))) (fun _ hk => hk.2) (.int .i64 ((rd_T49 ((rd_T47 l0 x11_1).f5) x20_2).f0))) (fun _ hk => hk.2) (.int .i64 ((rd_T49 ((rd_T47 l0 x11_1).f5) x20_2).f1))) (fun _ hk => hk.2) (.string ((rd_T49 ((rd_T47 l0 x11_1).f5) x20_2).f2))) (fun _ hk => hk.2) (.int .i64 ((rd_T49 ((rd_T47 l0 x11_1).f5) x20_2).f3))) (fun _ hk => hk.2) (.slice A121_4 ((rd_T49 ((rd_T47 l0 x11_1).f5) x20_2).f4).length c121_4)) (fun _ hk => hk.2) (.int .u8 ((rd_T49 ((rd_T47 l0 x11_1).f5) x20_2).f5))) (fun _ hk => hk.2) (.int .i64 ((rd_T49 ((rd_T47 l0 x11_1).f5) x20_2).f6))) (fun _ hk => hk.2) (.int .i64 ((rd_T49 ((rd_T47 l0 x11_1).f5) x20_2).f7))) (fun _ hk => hk.1.2)⟩
                        have n2_ : Aside0 (((((((((w16.setCell ⟨gb122, 0, none⟩ (.int .i64 ((rd_T49 ((rd_T47 l0 x11_1).f5) x20_2).f0))).setCell ⟨gb122, 1, none⟩ (.int .i64 ((rd_T49 ((rd_T47 l0 x11_1).f5) x20_2).f1))).setCell ⟨gb122, 2, none⟩ (.string ((rd_T49 ((rd_T47 l0 x11_1).f5) x20_2).f2))).setCell ⟨gb122, 3, none⟩ (.int .i64 ((rd_T49 ((rd_T47 l0 x11_1).f5) x20_2).f3))).setCell ⟨gb122, 4, none⟩ (.slice A121_4 ((rd_T49 ((rd_T47 l0 x11_1).f5) x20_2).f4).length c121_4)).setCell ⟨gb122, 5, none⟩ (.int .u8 ((rd_T49 ((rd_T47 l0 x11_1).f5) x20_2).f5))).setCell ⟨gb122, 6, none⟩ (.int .i64 ((rd_T49 ((rd_T47 l0 x11_1).f5) x20_2).f6))).setCell ⟨gb122, 7, none⟩ (.int .i64 ((rd_T49 ((rd_T47 l0 x11_1).f5) x20_2).f7))).heap[gb119]? = some (.cells #[.int .i64 ((rd_T47 l0 x11_1).f0), .int .i64 ((rd_T47 l0 x11_1).f1), .string ((rd_T47 l0 x11_1).f2), .string ((rd_T47 l0 x11_1).f3), .int .i64 ((rd_T47 l0 x11_1).f4), .slice (some ad121) ((rd_T47 l0 x11_1).f5).length c118_5, .slice A118_6 ((rd_T47 l0 x11_1).f6).length c118_6, .slice A118_7 ((rd_T47 l0 x11_1).f7).length c118_7, .int .u8 ((rd_T47 l0 x11_1).f8), .int .i64 ((rd_T47 l0 x11_1).f9)] 47 (0, 0))) := ⟨by (with_reducible repeat (first | refine blk_drewN ?_ _ | refine blk_drew ?_ | refine blk_alloc ?_ _)); refine blk_far ?_ NB119_122.out _; (with_reducible repeat (first | refine blk_drewN ?_ _ | refine blk_drew ?_ | refine blk_alloc ?_ _)); refine blk_far ?_ NB119_122.out _; (with_reducible repeat (first | refine blk_drewN ?_ _ | refine blk_drew ?_ | refine blk_alloc ?_ _)); refine blk_far ?_ NB119_122.out _; (with_reducible repeat (first | refine blk_drewN ?_ _ | refine blk_drew ?_ | refine blk_alloc ?_ _)); refine blk_far ?_ NB119_122.out _; (with_reducible repeat (first | refine blk_drewN ?_ _ | refine blk_drew ?_ | refine blk_alloc ?_ _)); refine blk_far ?_ NB119_122.out _; (with_reducible repeat (first | refine blk_drewN ?_ _ | refine blk_drew ?_ | refine blk_alloc ?_ _)); refine blk_far ?_ NB119_122.out _; (with_reducible repeat (first | refine blk_drewN ?_ _ | refine blk_drew ?_ | refine blk_alloc ?_ _)); refine blk_far ?_ NB119_122.out _; (with_reducible repeat (first | refine blk_drewN ?_ _ | refine blk_drew ?_ | refine blk_alloc ?_ _)); refine blk_far ?_ NB119_122.out _; (with_reducible repeat (first | refine blk_drewN ?_ _ | refine blk_drew ?_ | refine blk_alloc ?_ _)); exact BK119.out⟩
                        have n3_ : Aside0 (((((((((w16.setCell ⟨gb122, 0, none⟩ (.int .i64 ((rd_T49 ((rd_T47 l0 x11_1).f5) x20_2).f0))).setCell ⟨gb122, 1, none⟩ (.int .i64 ((rd_T49 ((rd_T47 l0 x11_1).f5) x20_2).f1))).setCell ⟨gb122, 2, none⟩ (.string ((rd_T49 ((rd_T47 l0 x11_1).f5) x20_2).f2))).setCell ⟨gb122, 3, none⟩ (.int .i64 ((rd_T49 ((rd_T47 l0 x11_1).f5) x20_2).f3))).setCell ⟨gb122, 4, none⟩ (.slice A121_4 ((rd_T49 ((rd_T47 l0 x11_1).f5) x20_2).f4).length c121_4)).setCell ⟨gb122, 5, none⟩ (.int .u8 ((rd_T49 ((rd_T47 l0 x11_1).f5) x20_2).f5))).setCell ⟨gb122, 6, none⟩ (.int .i64 ((rd_T49 ((rd_T47 l0 x11_1).f5) x20_2).f6))).setCell ⟨gb122, 7, none⟩ (.int .i64 ((rd_T49 ((rd_T47 l0 x11_1).f5) x20_2).f7))).heap[gb120]? = some (.cells #[.int .i64 ((rd_T47 l0 x11_1).f0), .int .i64 ((rd_T47 l0 x11_1).f1), .string ((rd_T47 l0 x11_1).f2), .string ((rd_T47 l0 x11_1).f3), .int .i64 ((rd_T47 l0 x11_1).f4), u121005, .slice A118_6 ((rd_T47 l0 x11_1).f6).length c118_6, .slice A118_7 ((rd_T47 l0 x11_1).f7).length c118_7, .int .u8 ((rd_T47 l0 x11_1).f8), .int .i64 ((rd_T47 l0 x11_1).f9)] 47 (0, 0))) := ⟨by (with_reducible repeat (first | refine blk_drewN ?_ _ | refine blk_drew ?_ | refine blk_alloc ?_ _)); refine blk_far ?_ NB120_122.out _; (with_reducible repeat (first | refine blk_drewN ?_ _ | refine blk_drew ?_ | refine blk_alloc ?_ _)); refine blk_far ?_ NB120_122.out _; (with_reducible repeat (first | refine blk_drewN ?_ _ | refine blk_drew ?_ | refine blk_alloc ?_ _)); refine blk_far ?_ NB120_122.out _; (with_reducible repeat (first | refine blk_drewN ?_ _ | refine blk_drew ?_ | refine blk_alloc ?_ _)); refine blk_far ?_ NB120_122.out _; (with_reducible repeat (first | refine blk_drewN ?_ _ | refine blk_drew ?_ | refine blk_alloc ?_ _)); refine blk_far ?_ NB120_122.out _; (with_reducible repeat (first | refine blk_drewN ?_ _ | refine blk_drew ?_ | refine blk_alloc ?_ _)); refine blk_far ?_ NB120_122.out _; (with_reducible repeat (first | refine blk_drewN ?_ _ | refine blk_drew ?_ | refine blk_alloc ?_ _)); refine blk_far ?_ NB120_122.out _; (with_reducible repeat (first | refine blk_drewN ?_ _ | refine blk_drew ?_ | refine blk_alloc ?_ _)); refine blk_far ?_ NB120_122.out _; (with_reducible repeat (first | refine blk_drewN ?_ _ | refine blk_drew ?_ | refine blk_alloc ?_ _)); exact BK120.out⟩
                        have n4_ : Aside0 (((((((((w16.setCell ⟨gb122, 0, none⟩ (.int .i64 ((rd_T49 ((rd_T47 l0 x11_1).f5) x20_2).f0))).setCell ⟨gb122, 1, none⟩ (.int .i64 ((rd_T49 ((rd_T47 l0 x11_1).f5) x20_2).f1))).setCell ⟨gb122, 2, none⟩ (.string ((rd_T49 ((rd_T47 l0 x11_1).f5) x20_2).f2))).setCell ⟨gb122, 3, none⟩ (.int .i64 ((rd_T49 ((rd_T47 l0 x11_1).f5) x20_2).f3))).setCell ⟨gb122, 4, none⟩ (.slice A121_4 ((rd_T49 ((rd_T47 l0 x11_1).f5) x20_2).f4).length c121_4)).setCell ⟨gb122, 5, none⟩ (.int .u8 ((rd_T49 ((rd_T47 l0 x11_1).f5) x20_2).f5))).setCell ⟨gb122, 6, none⟩ (.int .i64 ((rd_T49 ((rd_T47 l0 x11_1).f5) x20_2).f6))).setCell ⟨gb122, 7, none⟩ (.int .i64 ((rd_T49 ((rd_T47 l0 x11_1).f5) x20_2).f7))).heap[gb122]? = some (.cells #[.int .i64 ((rd_T49 ((rd_T47 l0 x11_1).f5) x20_2).f0), .int .i64 ((rd_T49 ((rd_T47 l0 x11_1).f5) x20_2).f1), .string ((rd_T49 ((rd_T47 l0 x11_1).f5) x20_2).f2), .int .i64 ((rd_T49 ((rd_T47 l0 x11_1).f5) x20_2).f3), .slice A121_4 ((rd_T49 ((rd_T47 l0 x11_1).f5) x20_2).f4).length c121_4, .int .u8 ((rd_T49 ((rd_T47 l0 x11_1).f5) x20_2).f5), .int .i64 ((rd_T49 ((rd_T47 l0 x11_1).f5) x20_2).f6), .int .i64 ((rd_T49 ((rd_T47 l0 x11_1).f5) x20_2).f7)] 49 (0, 0))) := ⟨by (with_reducible repeat (first | refine blk_drewN ?_ _ | refine blk_drew ?_ | refine blk_alloc ?_ _)); refine blk_put (cs := #[.int .i64 ((rd_T49 ((rd_T47 l0 x11_1).f5) x20_2).f0), .int .i64 ((rd_T49 ((rd_T47 l0 x11_1).f5) x20_2).f1), .string ((rd_T49 ((rd_T47 l0 x11_1).f5) x20_2).f2), .int .i64 ((rd_T49 ((rd_T47 l0 x11_1).f5) x20_2).f3), .slice A121_4 ((rd_T49 ((rd_T47 l0 x11_1).f5) x20_2).f4).length c121_4, .int .u8 ((rd_T49 ((rd_T47 l0 x11_1).f5) x20_2).f5), .int .i64 ((rd_T49 ((rd_T47 l0 x11_1).f5) x20_2).f6), .int .i64 0]) ?_ 7 _ rfl; (with_reducible repeat (first | refine blk_drewN ?_ _ | refine blk_drew ?_ | refine blk_alloc ?_ _)); refine blk_put (cs := #[.int .i64 ((rd_T49 ((rd_T47 l0 x11_1).f5) x20_2).f0), .int .i64 ((rd_T49 ((rd_T47 l0 x11_1).f5) x20_2).f1), .string ((rd_T49 ((rd_T47 l0 x11_1).f5) x20_2).f2), .int .i64 ((rd_T49 ((rd_T47 l0 x11_1).f5) x20_2).f3), .slice A121_4 ((rd_T49 ((rd_T47 l0 x11_1).f5) x20_2).f4).length c121_4, .int .u8 ((rd_T49 ((rd_T47 l0 x11_1).f5) x20_2).f5), .int .i64 0, .int .i64 0]) ?_ 6 _ rfl; (with_reducible repeat (first | refine blk_drewN ?_ _ | refine blk_drew ?_ | refine blk_alloc ?_ _)); refine blk_put (cs := #[.int .i64 ((rd_T49 ((rd_T47 l0 x11_1).f5) x20_2).f0), .int .i64 ((rd_T49 ((rd_T47 l0 x11_1).f5) x20_2).f1), .string ((rd_T49 ((rd_T47 l0 x11_1).f5) x20_2).f2), .int .i64 ((rd_T49 ((rd_T47 l0 x11_1).f5) x20_2).f3), .slice A121_4 ((rd_T49 ((rd_T47 l0 x11_1).f5) x20_2).f4).length c121_4, .int .u8 0, .int .i64 0, .int .i64 0]) ?_ 5 _ rfl; (with_reducible repeat (first | refine blk_drewN ?_ _ | refine blk_drew ?_ | refine blk_alloc ?_ _)); refine blk_put (cs := #[.int .i64 ((rd_T49 ((rd_T47 l0 x11_1).f5) x20_2).f0), .int .i64 ((rd_T49 ((rd_T47 l0 x11_1).f5) x20_2).f1), .string ((rd_T49 ((rd_T47 l0 x11_1).f5) x20_2).f2), .int .i64 ((rd_T49 ((rd_T47 l0 x11_1).f5) x20_2).f3), .slice none 0 0, .int .u8 0, .int .i64 0, .int .i64 0]) ?_ 4 _ rfl; (with_reducible repeat (first | refine blk_drewN ?_ _ | refine blk_drew ?_ | refine blk_alloc ?_ _)); refine blk_put (cs := #[.int .i64 ((rd_T49 ((rd_T47 l0 x11_1).f5) x20_2).f0), .int .i64 ((rd_T49 ((rd_T47 l0 x11_1).f5) x20_2).f1), .string ((rd_T49 ((rd_T47 l0 x11_1).f5) x20_2).f2), .int .i64 0, .slice none 0 0, .int .u8 0, .int .i64 0, .int .i64 0]) ?_ 3 _ rfl; (with_reducible repeat (first | refine blk_drewN ?_ _ | refine blk_drew ?_ | refine blk_alloc ?_ _)); refine blk_put (cs := #[.int .i64 ((rd_T49 ((rd_T47 l0 x11_1).f5) x20_2).f0), .int .i64 ((rd_T49 ((rd_T47 l0 x11_1).f5) x20_2).f1), .string (⟨#[]⟩ : ByteArray), .int .i64 0, .slice none 0 0, .int .u8 0, .int .i64 0, .int .i64 0]) ?_ 2 _ rfl; (with_reducible repeat (first | refine blk_drewN ?_ _ | refine blk_drew ?_ | refine blk_alloc ?_ _)); refine blk_put (cs := #[.int .i64 ((rd_T49 ((rd_T47 l0 x11_1).f5) x20_2).f0), .int .i64 0, .string (⟨#[]⟩ : ByteArray), .int .i64 0, .slice none 0 0, .int .u8 0, .int .i64 0, .int .i64 0]) ?_ 1 _ rfl; (with_reducible repeat (first | refine blk_drewN ?_ _ | refine blk_drew ?_ | refine blk_alloc ?_ _)); refine blk_put (cs := #[.int .i64 0, .int .i64 0, .string (⟨#[]⟩ : ByteArray), .int .i64 0, .slice none 0 0, .int .u8 0, .int .i64 0, .int .i64 0]) ?_ 0 _ rfl; (with_reducible repeat (first | refine blk_drewN ?_ _ | refine blk_drew ?_ | refine blk_alloc ?_ _)); exact BK122.out⟩
                        have n5_ : Aside0 (Below w.heap.size w ((((((((w16.setCell ⟨gb122, 0, none⟩ (.int .i64 ((rd_T49 ((rd_T47 l0 x11_1).f5) x20_2).f0))).setCell ⟨gb122, 1, none⟩ (.int .i64 ((rd_T49 ((rd_T47 l0 x11_1).f5) x20_2).f1))).setCell ⟨gb122, 2, none⟩ (.string ((rd_T49 ((rd_T47 l0 x11_1).f5) x20_2).f2))).setCell ⟨gb122, 3, none⟩ (.int .i64 ((rd_T49 ((rd_T47 l0 x11_1).f5) x20_2).f3))).setCell ⟨gb122, 4, none⟩ (.slice A121_4 ((rd_T49 ((rd_T47 l0 x11_1).f5) x20_2).f4).length c121_4)).setCell ⟨gb122, 5, none⟩ (.int .u8 ((rd_T49 ((rd_T47 l0 x11_1).f5) x20_2).f5))).setCell ⟨gb122, 6, none⟩ (.int .i64 ((rd_T49 ((rd_T47 l0 x11_1).f5) x20_2).f6))).setCell ⟨gb122, 7, none⟩ (.int .i64 ((rd_T49 ((rd_T47 l0 x11_1).f5) x20_2).f7)))) := ⟨by repeat (first | (with_reducible first | exact HB.out | apply below_alloc | apply pw_below_drewN | apply below_drew1 | refine below_set ?_ GE119.out | refine below_set ?_ GE120.out | refine below_set ?_ GE122.out) | exact HB.out)⟩
                        (try clear HO_3)
                        (try clear HO_121005)
                        (try clear BK119)
                        (try clear BK120)
                        (try clear BK122)
                        (try clear HB)
                        generalize ((((((((w16.setCell ⟨gb122, 0, none⟩ (.int .i64 ((rd_T49 ((rd_T47 l0 x11_1).f5) x20_2).f0))).setCell ⟨gb122, 1, none⟩ (.int .i64 ((rd_T49 ((rd_T47 l0 x11_1).f5) x20_2).f1))).setCell ⟨gb122, 2, none⟩ (.string ((rd_T49 ((rd_T47 l0 x11_1).f5) x20_2).f2))).setCell ⟨gb122, 3, none⟩ (.int .i64 ((rd_T49 ((rd_T47 l0 x11_1).f5) x20_2).f3))).setCell ⟨gb122, 4, none⟩ (.slice A121_4 ((rd_T49 ((rd_T47 l0 x11_1).f5) x20_2).f4).length c121_4)).setCell ⟨gb122, 5, none⟩ (.int .u8 ((rd_T49 ((rd_T47 l0 x11_1).f5) x20_2).f5))).setCell ⟨gb122, 6, none⟩ (.int .i64 ((rd_T49 ((rd_T47 l0 x11_1).f5) x20_2).f6))).setCell ⟨gb122, 7, none⟩ (.int .i64 ((rd_T49 ((rd_T47 l0 x11_1).f5) x20_2).f7))) = w20 at n0_ n1_ n2_ n3_ n4_ n5_ ⊢
                        have HO_3 := n0_
                        have HO_121005 := n1_
                        have BK119 := n2_
                        have BK120 := n3_
                        have BK122 := n4_
                        have HB := n5_
                        clear n0_ n1_ n2_ n3_ n4_ n5_
                        have n0_ := Aside0.mk (Kd.R_drew HO_3.out)
                        have n1_ := Aside0.mk (Kd.R_drew HO_121005.out)
                        have n2_ := Aside0.mk (blk_drew BK119.out)
                        have n3_ := Aside0.mk (blk_drew BK120.out)
                        have n4_ := Aside0.mk (blk_drew BK122.out)
                        have n5_ := Aside0.mk (below_drew1 HB.out)
                        clear HO_3
                        clear HO_121005
                        clear BK119
                        clear BK120
                        clear BK122
                        clear HB
                        have HO_3 := n0_
                        have HO_121005 := n1_
                        have BK119 := n2_
                        have BK120 := n3_
                        have BK122 := n4_
                        have HB := n5_
                        clear n0_ n1_ n2_ n3_ n4_ n5_
                        refine start_ (n := 8) (S := fun w' => w'.cell? ⟨gb120, 0, none⟩ = some (.int .i64 ((rd_T47 l0 x11_1).f0)) ∧ w'.cell? ⟨gb120, 1, none⟩ = some (.int .i64 ((rd_T47 l0 x11_1).f1)) ∧ w'.cell? ⟨gb120, 2, none⟩ = some (.string ((rd_T47 l0 x11_1).f2)) ∧ w'.cell? ⟨gb120, 3, none⟩ = some (.string ((rd_T47 l0 x11_1).f3)) ∧ w'.cell? ⟨gb120, 4, none⟩ = some (.int .i64 ((rd_T47 l0 x11_1).f4)) ∧ w'.cell? ⟨gb120, 5, none⟩ = some (u121005) ∧ w'.cell? ⟨gb120, 6, none⟩ = some (.slice A118_6 ((rd_T47 l0 x11_1).f6).length c118_6) ∧ w'.cell? ⟨gb120, 7, none⟩ = some (.slice A118_7 ((rd_T47 l0 x11_1).f7).length c118_7) ∧ w'.cell? ⟨gb120, 8, none⟩ = some (.int .u8 ((rd_T47 l0 x11_1).f8)) ∧ w'.cell? ⟨gb120, 9, none⟩ = some (.int .i64 ((rd_T47 l0 x11_1).f9)) ∧ w'.cell? ⟨gb122, 0, none⟩ = some (.int .i64 ((rd_T49 ((rd_T47 l0 x11_1).f5) x20_2).f0)) ∧ w'.cell? ⟨gb122, 1, none⟩ = some (.int .i64 ((rd_T49 ((rd_T47 l0 x11_1).f5) x20_2).f1)) ∧ w'.cell? ⟨gb122, 2, none⟩ = some (.string ((rd_T49 ((rd_T47 l0 x11_1).f5) x20_2).f2)) ∧ w'.cell? ⟨gb122, 3, none⟩ = some (.int .i64 ((rd_T49 ((rd_T47 l0 x11_1).f5) x20_2).f3)) ∧ w'.cell? ⟨gb122, 4, none⟩ = some (.slice A121_4 ((rd_T49 ((rd_T47 l0 x11_1).f5) x20_2).f4).length c121_4) ∧ w'.cell? ⟨gb122, 5, none⟩ = some (.int .u8 ((rd_T49 ((rd_T47 l0 x11_1).f5) x20_2).f5)) ∧ w'.cell? ⟨gb122, 6, none⟩ = some (.int .i64 ((rd_T49 ((rd_T47 l0 x11_1).f5) x20_2).f6)) ∧ w'.cell? ⟨gb122, 7, none⟩ = some (.int .i64 ((rd_T49 ((rd_T47 l0 x11_1).f5) x20_2).f7))) (ds := [7]) #[false, false, false, false, false, false, false, false] (by kernel_rfl) rfl rfl ⟨(blk_cell BK120.out 0).trans rfl, (blk_cell BK120.out 1).trans rfl, (blk_cell BK120.out 2).trans rfl, (blk_cell BK120.out 3).trans rfl, (blk_cell BK120.out 4).trans rfl, (blk_cell BK120.out 5).trans rfl, (blk_cell BK120.out 6).trans rfl, (blk_cell BK120.out 7).trans rfl, (blk_cell BK120.out 8).trans rfl, (blk_cell BK120.out 9).trans rfl, (blk_cell BK122.out 0).trans rfl, (blk_cell BK122.out 1).trans rfl, (blk_cell BK122.out 2).trans rfl, (blk_cell BK122.out 3).trans rfl, (blk_cell BK122.out 4).trans rfl, (blk_cell BK122.out 5).trans rfl, (blk_cell BK122.out 6).trans rfl, (blk_cell BK122.out 7).trans rfl⟩ (fun hHeld => ?_); refine with_tabW provisoplain_Stmts.tab10 provisoplain_Stmts.bits10 (fun HT_ HW_ => ?_)
                        generalize w20.drew = w21 at HO_3 HO_121005 BK119 BK120 BK122 HB hHeld ⊢
                        refine pure_ (i := 0) (N := some 24) (v := ?_) (a' := ?_) #[true, false, false, false, false, false, false, false] rfl rfl (any_of HT_.out (by kernel_rfl)) (fun _ _ _ h => h) (Or.inl ⟨by rfl, ?_⟩) ?_ ?_
                        rotate_left
                        · intro w'
                          go_simp
                          with_reducible rfl
                        rotate_left
                        · simp only [Act.put, List.setIfInBounds_toArray, List.set_cons_zero, List.set_cons_succ, i64_w, i32_w]
                          rfl
                        refine take_ (i := 1) (N := some 25) (v := ?_) (a' := ?_) #[true, true, false, false, false, false, false, false] rfl rfl (take_ofW HT_.out HW_.out (by kernel_rfl)) (fun _ _ _ h => h) (Or.inl ⟨by rfl, ?_⟩) hHeld ?_ ?_
                        rotate_left
                        · rintro w' ⟨s0, s1, s2, s3, s4, s5, s6, s7, s8, s9, s10, s11, s12, s13, s14, s15, s16, s17⟩
                          go_simp
                          with_reducible rfl
                        rotate_left
                        · simp only [Act.put, List.setIfInBounds_toArray, List.set_cons_zero, List.set_cons_succ, i64_w, i32_w]
                          rfl
                        refine take_ (i := 2) (N := some 26) (v := ?_) (a' := ?_) #[true, true, true, false, false, false, false, false] rfl rfl (take_ofW HT_.out HW_.out (by kernel_rfl)) (fun _ _ _ h => h) (Or.inl ⟨by rfl, ?_⟩) hHeld ?_ ?_
                        rotate_left
                        · rintro w' ⟨s0, s1, s2, s3, s4, s5, s6, s7, s8, s9, s10, s11, s12, s13, s14, s15, s16, s17⟩
                          go_simp
                          with_reducible rfl
                        rotate_left
                        · simp only [Act.put, List.setIfInBounds_toArray, List.set_cons_zero, List.set_cons_succ, i64_w, i32_w]
                          rfl
                        refine one_ (i := 3) (N := some 27) #[true, true, true, true, false, false, false, false] rfl rfl (one_of HT_.out (by kernel_rfl)) (by decide) (fun K hK => ?_)
                        refine goes_ Try.func20 (by kernel_rfl) rfl #[.agg #[.int .i64 ((rd_T49 ((rd_T47 l0 x11_1).f5) x20_2).f0), .int .i64 ((rd_T49 ((rd_T47 l0 x11_1).f5) x20_2).f1), .string ((rd_T49 ((rd_T47 l0 x11_1).f5) x20_2).f2), .int .i64 ((rd_T49 ((rd_T47 l0 x11_1).f5) x20_2).f3), .slice A121_4 ((rd_T49 ((rd_T47 l0 x11_1).f5) x20_2).f4).length c121_4, .int .u8 ((rd_T49 ((rd_T47 l0 x11_1).f5) x20_2).f5), .int .i64 ((rd_T49 ((rd_T47 l0 x11_1).f5) x20_2).f6), .int .i64 ((rd_T49 ((rd_T47 l0 x11_1).f5) x20_2).f7)]] (by rfl) rfl rfl (by (try simp only [List.map_toArray, List.map_cons, List.map_nil]); first | done | rfl | (simp only [List.length_drop, List.length_take]; rfl)) ?_
                        with_reducible refine (provisoplain_Expr.calls k2 ((rd_T49 ((rd_T47 l0 x11_1).f5) x20_2).f0) ((rd_T49 ((rd_T47 l0 x11_1).f5) x20_2).f1) ((rd_T49 ((rd_T47 l0 x11_1).f5) x20_2).f2) ((rd_T49 ((rd_T47 l0 x11_1).f5) x20_2).f3) _ _ ((rd_T49 ((rd_T47 l0 x11_1).f5) x20_2).f4) ((rd_T49 ((rd_T47 l0 x11_1).f5) x20_2).f5) ((rd_T49 ((rd_T47 l0 x11_1).f5) x20_2).f6) ((rd_T49 ((rd_T47 l0 x11_1).f5) x20_2).f7) t123 t124 t125 t126 t127 t130 t131 t132 _ ?side1 ?side2 A14.out).mono ?_
                        (case side1 => repeat (first | exact (Kd.C_below HR121_4.out HB.out) | (with_reducible refine Kd.C_alloc ?_ _) | (with_reducible refine Kd.C_drewN ?_ _) | (with_reducible refine Kd.C_drew ?_)))
                        (case side2 => exact HC121_4.out)
                        rintro e w22 ⟨v128, rfl, ho0, hb⟩
                        refine ⟨_, rfl, ?_⟩
                        have n0_ := Aside0.mk (Kd.R_elder' (by (with_reducible repeat (first | apply Kd.R_alloc | apply Kd.R_drewN | apply Kd.R_drew)); exact HO_3.out) (Kd.R_base ho0) hb)
                        have n1_ := Aside0.mk (Kd.R_elder' (by (with_reducible repeat (first | apply Kd.R_alloc | apply Kd.R_drewN | apply Kd.R_drew)); exact HO_121005.out) (Kd.R_base ho0) hb)
                        have n2_ := Aside0.mk (Kd.R_lower (Kd.R_newB (Kd.R_new' ho0 (Kd.R_lt (by (with_reducible repeat (first | apply Kd.R_alloc | apply Kd.R_drewN | apply Kd.R_drew)); exact HO_121005.out))) (g := gb122) (o := .cells #[.int .i64 ((rd_T49 ((rd_T47 l0 x11_1).f5) x20_2).f0), .int .i64 ((rd_T49 ((rd_T47 l0 x11_1).f5) x20_2).f1), .string ((rd_T49 ((rd_T47 l0 x11_1).f5) x20_2).f2), .int .i64 ((rd_T49 ((rd_T47 l0 x11_1).f5) x20_2).f3), .slice A121_4 ((rd_T49 ((rd_T47 l0 x11_1).f5) x20_2).f4).length c121_4, .int .u8 ((rd_T49 ((rd_T47 l0 x11_1).f5) x20_2).f5), .int .i64 ((rd_T49 ((rd_T47 l0 x11_1).f5) x20_2).f6), .int .i64 ((rd_T49 ((rd_T47 l0 x11_1).f5) x20_2).f7)] 49 (0, 0)) (by (with_reducible repeat (first | refine blk_drewN ?_ _ | refine blk_drew ?_ | refine blk_alloc ?_ _)); exact BK122.out)) (below_size (by repeat (first | (with_reducible first | exact HB.out | apply below_alloc | apply pw_below_drewN | apply below_drew1 | refine below_set ?_ GE119.out | refine below_set ?_ GE120.out | refine below_set ?_ GE122.out) | exact HB.out))))
                        have n3_ := Aside0.mk (blk_below (g := gb119) (o := .cells #[.int .i64 ((rd_T47 l0 x11_1).f0), .int .i64 ((rd_T47 l0 x11_1).f1), .string ((rd_T47 l0 x11_1).f2), .string ((rd_T47 l0 x11_1).f3), .int .i64 ((rd_T47 l0 x11_1).f4), .slice (some ad121) ((rd_T47 l0 x11_1).f5).length c118_5, .slice A118_6 ((rd_T47 l0 x11_1).f6).length c118_6, .slice A118_7 ((rd_T47 l0 x11_1).f7).length c118_7, .int .u8 ((rd_T47 l0 x11_1).f8), .int .i64 ((rd_T47 l0 x11_1).f9)] 47 (0, 0)) (by (with_reducible repeat (first | refine blk_drewN ?_ _ | refine blk_drew ?_ | refine blk_alloc ?_ _)); exact BK119.out) hb)
                        have n4_ := Aside0.mk (blk_below (g := gb120) (o := .cells #[.int .i64 ((rd_T47 l0 x11_1).f0), .int .i64 ((rd_T47 l0 x11_1).f1), .string ((rd_T47 l0 x11_1).f2), .string ((rd_T47 l0 x11_1).f3), .int .i64 ((rd_T47 l0 x11_1).f4), u121005, .slice A118_6 ((rd_T47 l0 x11_1).f6).length c118_6, .slice A118_7 ((rd_T47 l0 x11_1).f7).length c118_7, .int .u8 ((rd_T47 l0 x11_1).f8), .int .i64 ((rd_T47 l0 x11_1).f9)] 47 (0, 0)) (by (with_reducible repeat (first | refine blk_drewN ?_ _ | refine blk_drew ?_ | refine blk_alloc ?_ _)); exact BK120.out) hb)
                        have n5_ := Aside0.mk (blk_below (g := gb122) (o := .cells #[.int .i64 ((rd_T49 ((rd_T47 l0 x11_1).f5) x20_2).f0), .int .i64 ((rd_T49 ((rd_T47 l0 x11_1).f5) x20_2).f1), .string ((rd_T49 ((rd_T47 l0 x11_1).f5) x20_2).f2), .int .i64 ((rd_T49 ((rd_T47 l0 x11_1).f5) x20_2).f3), .slice A121_4 ((rd_T49 ((rd_T47 l0 x11_1).f5) x20_2).f4).length c121_4, .int .u8 ((rd_T49 ((rd_T47 l0 x11_1).f5) x20_2).f5), .int .i64 ((rd_T49 ((rd_T47 l0 x11_1).f5) x20_2).f6), .int .i64 ((rd_T49 ((rd_T47 l0 x11_1).f5) x20_2).f7)] 49 (0, 0)) (by (with_reducible repeat (first | refine blk_drewN ?_ _ | refine blk_drew ?_ | refine blk_alloc ?_ _)); exact BK122.out) hb)
                        have n6_ := Aside0.mk (below_step (by repeat (first | (with_reducible first | exact HB.out | apply below_alloc | apply pw_below_drewN | apply below_drew1 | refine below_set ?_ GE119.out | refine below_set ?_ GE120.out | refine below_set ?_ GE122.out) | exact HB.out)) hb)
                        clear HO_3
                        clear HO_121005
                        clear BK119
                        clear BK120
                        clear BK122
                        clear HB
                        have HO_3 := n0_
                        have HO_121005 := n1_
                        have HO129 := n2_
                        have BK119 := n3_
                        have BK120 := n4_
                        have BK122 := n5_
                        have HB := n6_
                        clear n0_ n1_ n2_ n3_ n4_ n5_ n6_
                        (try clear hb)
                        (try clear hb2)
                        (try clear hk)
                        (try clear hi)
                        (try clear ho0)
                        obtain ⟨Ao24, co24, eo24⟩ := Kd.R_slice HO129.out
                        (first | subst eo24 | (injection eo24 with f1_ f2_ f3_; have f4_ := f1_.symm; have f5_ := f3_.symm; clear f1_ f2_ f3_; subst f4_; subst f5_))
                        refine hK.out _ _ ⟨(blk_cell BK120.out 0).trans rfl, (blk_cell BK120.out 1).trans rfl, (blk_cell BK120.out 2).trans rfl, (blk_cell BK120.out 3).trans rfl, (blk_cell BK120.out 4).trans rfl, (blk_cell BK120.out 5).trans rfl, (blk_cell BK120.out 6).trans rfl, (blk_cell BK120.out 7).trans rfl, (blk_cell BK120.out 8).trans rfl, (blk_cell BK120.out 9).trans rfl, (blk_cell BK122.out 0).trans rfl, (blk_cell BK122.out 1).trans rfl, (blk_cell BK122.out 2).trans rfl, (blk_cell BK122.out 3).trans rfl, (blk_cell BK122.out 4).trans rfl, (blk_cell BK122.out 5).trans rfl, (blk_cell BK122.out 6).trans rfl, (blk_cell BK122.out 7).trans rfl⟩ (fun hHeld => ?_)
                        clear hK K
                        refine norm_ (a' := ?_) ?_ ?_
                        rotate_left
                        · show Act.put _ (some 27) _ = _
                          simp only [Act.put, List.setIfInBounds_toArray, List.set_cons_zero, List.set_cons_succ, i64_w, i32_w]
                          rfl
                        refine one_ (i := 4) (N := some 28) #[true, true, true, true, true, false, false, false] rfl rfl (one_of HT_.out (by kernel_rfl)) (by decide) (fun K hK => ?_)
                        refine value_ (w1 := ?_) (v := ?_) (by rfl) rfl ?_ ?_
                        rotate_left 2
                        · go_simp
                          constructor
                          · rfl
                          · rfl
                        refine hK.out _ _ ⟨(blk_cell (blk_alloc BK120.out _) 0).trans rfl, (blk_cell (blk_alloc BK120.out _) 1).trans rfl, (blk_cell (blk_alloc BK120.out _) 2).trans rfl, (blk_cell (blk_alloc BK120.out _) 3).trans rfl, (blk_cell (blk_alloc BK120.out _) 4).trans rfl, (blk_cell (blk_alloc BK120.out _) 5).trans rfl, (blk_cell (blk_alloc BK120.out _) 6).trans rfl, (blk_cell (blk_alloc BK120.out _) 7).trans rfl, (blk_cell (blk_alloc BK120.out _) 8).trans rfl, (blk_cell (blk_alloc BK120.out _) 9).trans rfl, (blk_cell (blk_alloc BK122.out _) 0).trans rfl, (blk_cell (blk_alloc BK122.out _) 1).trans rfl, (blk_cell (blk_alloc BK122.out _) 2).trans rfl, (blk_cell (blk_alloc BK122.out _) 3).trans rfl, (blk_cell (blk_alloc BK122.out _) 4).trans rfl, (blk_cell (blk_alloc BK122.out _) 5).trans rfl, (blk_cell (blk_alloc BK122.out _) 6).trans rfl, (blk_cell (blk_alloc BK122.out _) 7).trans rfl⟩ (fun hHeld => ?_)
                        clear hK K
                        refine norm_ (a' := ?_) ?_ ?_
                        rotate_left
                        · show Act.put _ (some 28) _ = _
                          simp only [Act.put, List.setIfInBounds_toArray, List.set_cons_zero, List.set_cons_succ, i64_w, i32_w]
                          rfl
                        refine one_ (i := 5) (N := some 29) #[true, true, true, true, true, true, false, false] rfl rfl (one_of HT_.out (by kernel_rfl)) (by decide) (fun K hK => ?_)
                        refine Kd.R_append_step k49 (w0 := w) w.heap.size (by rfl) (.tmp 25) (.tmp 28) 45 49 (.agg #[(.int .i64 0), (.int .i64 0), (.string ⟨#[]⟩), (.int .i64 0), (.slice none 0 0), (.int .u8 0), (.int .i64 0), (.int .i64 0)]) 88 rfl Try.underlying45 info49 rfl (by decide) (by omega) u121005 x121005_2 (⟨t123, t124, t125, t126, t127, t130, t131, t132⟩ : S49) [.int .i64 t123, .int .i64 t124, .string t125, .int .i64 t126, .slice Ao24 t127.length co24, .int .u8 t130, .int .i64 t131, .int .i64 t132] (fun k_ => k_ ≠ gb122) (fun k_ => ((fun k_ => k_ ≠ gb122)) k_ ∧ some k_ ≠ (u121005 : Value).ownBlock) rfl rfl ?aP (fun _ hk => hk) ?aF ?aO ?aB ?aS ?aL ?_
                        (case aP => exact k49_mkM _ _ _ (⟨t123, t124, t125, t126, t127, t130, t131, t132⟩ : S49) (Kd.R_mono (HO129.out) (fun k_ hk => ⟨hk.2, hk.1.2⟩)))
                        (case aB => exact (by repeat (first | (with_reducible first | exact HB.out | apply below_alloc | apply pw_below_drewN | apply below_drew1 | refine below_set ?_ GE119.out | refine below_set ?_ GE120.out | refine below_set ?_ GE122.out) | exact HB.out)))
                        (case aF => exact (fun k_ hk => Kd.freshB (g := gb122) (o := .cells #[.int .i64 ((rd_T49 ((rd_T47 l0 x11_1).f5) x20_2).f0), .int .i64 ((rd_T49 ((rd_T47 l0 x11_1).f5) x20_2).f1), .string ((rd_T49 ((rd_T47 l0 x11_1).f5) x20_2).f2), .int .i64 ((rd_T49 ((rd_T47 l0 x11_1).f5) x20_2).f3), .slice A121_4 ((rd_T49 ((rd_T47 l0 x11_1).f5) x20_2).f4).length c121_4, .int .u8 ((rd_T49 ((rd_T47 l0 x11_1).f5) x20_2).f5), .int .i64 ((rd_T49 ((rd_T47 l0 x11_1).f5) x20_2).f6), .int .i64 ((rd_T49 ((rd_T47 l0 x11_1).f5) x20_2).f7)] 49 (0, 0)) (by (with_reducible repeat (first | refine blk_drewN ?_ _ | refine blk_drew ?_ | refine blk_alloc ?_ _)); exact BK122.out) k_ hk))
                        (case aO => exact (by (with_reducible repeat (first | apply Kd.R_alloc | apply Kd.R_drewN | apply Kd.R_drew)); exact Kd.R_mono HO_121005.out (fun _ hk => hk.1)))
                        (case aS => exact (below_size (by repeat (first | (with_reducible first | exact HB.out | apply below_alloc | apply pw_below_drewN | apply below_drew1 | refine below_set ?_ GE119.out | refine below_set ?_ GE120.out | refine below_set ?_ GE122.out) | exact HB.out))))
                        (case aL => have := LMc15.out; omega)
                        intro v134 w23 ho hb hg hat
                        rw [← Ny133.out] at ho
                        have n0_ := Aside0.mk (Kd.R_after (ok := (fun k_ => some k_ ≠ (.slice Ao24 t127.length co24 : Value).ownBlock ∧ k_ ≠ gb119 ∧ k_ ≠ gb120 ∧ k_ ≠ gb122)) (by (with_reducible repeat (first | apply Kd.R_alloc | apply Kd.R_drewN | apply Kd.R_drew)); exact Kd.R_mono HO_3.out (fun _ hk => ⟨⟨hk.2, ⟨hk.1.2.1, ⟨hk.1.2.2.1, hk.1.2.2.2⟩⟩⟩, hk.1.1⟩)) hg hat)
                        have n1_ := Aside0.mk (blk_grown (g := gb119) (o := .cells #[.int .i64 ((rd_T47 l0 x11_1).f0), .int .i64 ((rd_T47 l0 x11_1).f1), .string ((rd_T47 l0 x11_1).f2), .string ((rd_T47 l0 x11_1).f3), .int .i64 ((rd_T47 l0 x11_1).f4), .slice (some ad121) ((rd_T47 l0 x11_1).f5).length c118_5, .slice A118_6 ((rd_T47 l0 x11_1).f6).length c118_6, .slice A118_7 ((rd_T47 l0 x11_1).f7).length c118_7, .int .u8 ((rd_T47 l0 x11_1).f8), .int .i64 ((rd_T47 l0 x11_1).f9)] 47 (0, 0)) (by (with_reducible repeat (first | refine blk_drewN ?_ _ | refine blk_drew ?_ | refine blk_alloc ?_ _)); exact BK119.out) hg (Kd.R_ne HO_121005.out BK119.out (by decide)))
                        have n2_ := Aside0.mk (blk_grown (g := gb120) (o := .cells #[.int .i64 ((rd_T47 l0 x11_1).f0), .int .i64 ((rd_T47 l0 x11_1).f1), .string ((rd_T47 l0 x11_1).f2), .string ((rd_T47 l0 x11_1).f3), .int .i64 ((rd_T47 l0 x11_1).f4), u121005, .slice A118_6 ((rd_T47 l0 x11_1).f6).length c118_6, .slice A118_7 ((rd_T47 l0 x11_1).f7).length c118_7, .int .u8 ((rd_T47 l0 x11_1).f8), .int .i64 ((rd_T47 l0 x11_1).f9)] 47 (0, 0)) (by (with_reducible repeat (first | refine blk_drewN ?_ _ | refine blk_drew ?_ | refine blk_alloc ?_ _)); exact BK120.out) hg (Kd.R_ne HO_121005.out BK120.out (by decide)))
                        have n3_ := Aside0.mk (blk_grown (g := gb122) (o := .cells #[.int .i64 ((rd_T49 ((rd_T47 l0 x11_1).f5) x20_2).f0), .int .i64 ((rd_T49 ((rd_T47 l0 x11_1).f5) x20_2).f1), .string ((rd_T49 ((rd_T47 l0 x11_1).f5) x20_2).f2), .int .i64 ((rd_T49 ((rd_T47 l0 x11_1).f5) x20_2).f3), .slice A121_4 ((rd_T49 ((rd_T47 l0 x11_1).f5) x20_2).f4).length c121_4, .int .u8 ((rd_T49 ((rd_T47 l0 x11_1).f5) x20_2).f5), .int .i64 ((rd_T49 ((rd_T47 l0 x11_1).f5) x20_2).f6), .int .i64 ((rd_T49 ((rd_T47 l0 x11_1).f5) x20_2).f7)] 49 (0, 0)) (by (with_reducible repeat (first | refine blk_drewN ?_ _ | refine blk_drew ?_ | refine blk_alloc ?_ _)); exact BK122.out) hg (Kd.R_away HO_121005.out (fun _ hk => hk.1)))
                        have n4_ := Aside0.mk (hb)
                        have n5_ := Aside0.mk (ho)
                        clear HO_3
                        clear BK119
                        clear BK120
                        clear BK122
                        clear HB
                        clear HO_121005
                        clear HO129
                        have HO_3 := n0_
                        have BK119 := n1_
                        have BK120 := n2_
                        have BK122 := n3_
                        have HB := n4_
                        have HO135 := n5_
                        clear n0_ n1_ n2_ n3_ n4_ n5_
                        clear ho hb hg hat
                        obtain ⟨Ao25, co25, eo25⟩ := Kd.R_slice HO135.out
                        (first | subst eo25 | (injection eo25 with f1_ f2_ f3_; have f4_ := f1_.symm; have f5_ := f3_.symm; clear f1_ f2_ f3_; subst f4_; subst f5_))
                        refine hK.out _ _ ⟨(blk_cell BK120.out 0).trans rfl, (blk_cell BK120.out 1).trans rfl, (blk_cell BK120.out 2).trans rfl, (blk_cell BK120.out 3).trans rfl, (blk_cell BK120.out 4).trans rfl, (blk_cell BK120.out 5).trans rfl, (blk_cell BK120.out 6).trans rfl, (blk_cell BK120.out 7).trans rfl, (blk_cell BK120.out 8).trans rfl, (blk_cell BK120.out 9).trans rfl, (blk_cell BK122.out 0).trans rfl, (blk_cell BK122.out 1).trans rfl, (blk_cell BK122.out 2).trans rfl, (blk_cell BK122.out 3).trans rfl, (blk_cell BK122.out 4).trans rfl, (blk_cell BK122.out 5).trans rfl, (blk_cell BK122.out 6).trans rfl, (blk_cell BK122.out 7).trans rfl⟩ (fun hHeld => ?_)
                        clear hK K
                        refine norm_ (a' := ?_) ?_ ?_
                        rotate_left
                        · show Act.put _ (some 29) _ = _
                          simp only [Act.put, List.setIfInBounds_toArray, List.set_cons_zero, List.set_cons_succ, i64_w, i32_w]
                          rfl
                        refine pure_ (i := 6) (N := some 30) (v := ?_) (a' := ?_) #[true, true, true, true, true, true, true, false] rfl rfl (any_of HT_.out (by kernel_rfl)) (fun _ _ _ h => h) (Or.inl ⟨by rfl, ?_⟩) ?_ ?_
                        rotate_left
                        · intro w'
                          go_simp
                          with_reducible rfl
                        rotate_left
                        · simp only [Act.put, List.setIfInBounds_toArray, List.set_cons_zero, List.set_cons_succ, i64_w, i32_w]
                          rfl
                        refine last_ (i := 7) (N := none) #[true, true, true, true, true, true, true, true] rfl rfl (one_of HT_.out (by kernel_rfl)) (by decide) (fun K hK => ?_)
                        have hs26 : w23.cell? ⟨gb120, 5, none⟩ = some (u121005) := (blk_cell BK120.out 5).trans rfl
                        have hfs26 := blk_frozen BK120.out 5
                        have hns26_0 := NB119_120.out
                        have hns26_2 := NB122_120.out
                        have hms26_0 := NB120_119.out
                        have hms26_2 := NB120_122.out
                        refine skip_ (w1 := ?_) (by rfl) rfl ?_ ?_
                        rotate_left
                        · go_simp
                          rfl
                        refine hK.out _ _ ?_
                        clear hK K
                        refine done_ (done_of HT_.out (by kernel_rfl)) ?_
                        try go_wp2
                        go_roundg k2
                        case measure => have := HK1.out; have := HK2.out; omega
                        case rel => exact ⟨(wrap64 (x20_2 + 1)), (y133), (.slice Ao25 y133.length co25), (by first | rfl | (simp; done) | (simp [*]; done)), H', ⟨by have := HK1.out; have := HK2.out; omega⟩, ⟨by (with_reducible repeat (first | apply Kd.R_alloc | apply Kd.R_drewN | apply Kd.R_drew)); exact Kd.R_mono (Kd.R_far (p := ⟨gb120, 5, none⟩) (Kd.R_mono HO_3.out (fun k_ hk => (⟨hk, hk.1.2.2.1⟩ : _ ∧ k_ ≠ gb120))) (fun _ hk => hk.2) (.slice Ao25 y133.length co25)) (fun _ hk => ⟨hk.1.2, ⟨hk.1.1.2.1, hk.1.1.2.2.1⟩⟩)⟩, ⟨by (with_reducible repeat (first | apply Kd.R_alloc | apply Kd.R_drewN | apply Kd.R_drew)); exact Kd.R_mono (Kd.R_far (p := ⟨gb120, 5, none⟩) (Kd.R_types HO135.out BK120.out (by decide)) (fun _ hk => hk.2) (.slice Ao25 y133.length co25)) (fun _ hk => trivial)⟩, ⟨by (with_reducible repeat (first | refine blk_drewN ?_ _ | refine blk_drew ?_ | refine blk_alloc ?_ _)); refine blk_far ?_ NB119_120.out _; (with_reducible repeat (first | refine blk_drewN ?_ _ | refine blk_drew ?_ | refine blk_alloc ?_ _)); exact BK119.out⟩, ⟨by (with_reducible repeat (first | refine blk_drewN ?_ _ | refine blk_drew ?_ | refine blk_alloc ?_ _)); refine blk_put (cs := #[.int .i64 ((rd_T47 l0 x11_1).f0), .int .i64 ((rd_T47 l0 x11_1).f1), .string ((rd_T47 l0 x11_1).f2), .string ((rd_T47 l0 x11_1).f3), .int .i64 ((rd_T47 l0 x11_1).f4), u121005, .slice A118_6 ((rd_T47 l0 x11_1).f6).length c118_6, .slice A118_7 ((rd_T47 l0 x11_1).f7).length c118_7, .int .u8 ((rd_T47 l0 x11_1).f8), .int .i64 ((rd_T47 l0 x11_1).f9)]) ?_ 5 _ rfl; (with_reducible repeat (first | refine blk_drewN ?_ _ | refine blk_drew ?_ | refine blk_alloc ?_ _)); exact BK120.out⟩, ⟨by repeat (first | (with_reducible first | exact HB.out | apply below_alloc | apply pw_below_drewN | apply below_drew1 | refine below_set ?_ GE119.out | refine below_set ?_ GE120.out | refine below_set ?_ GE122.out) | exact HB.out)⟩⟩
                      · rw [if_neg c15] at H
                        exact absurd H (by simp)
                    · rw [if_neg c13] at H
                      exact absurd H (by simp)
                  · rw [if_neg c12] at H
                    exact absurd H (by simp)
                · rw [if_neg c11] at H
                  have c11b0 : decide (x20_2 < (((rd_T47 l0 x11_1).f5).length : Int)) = false := decide_eq_false c11
                  clear c11
                  replace H := Option.bind_eq_some_iff.mp H
                  obtain ⟨t136, A270, H⟩ := H
                  replace H : ((provisoplain_Stmts.f k2 ((rd_T47 l0 x11_1).f7)).bind fun t139 => (if x3_1.length < 977343669134 then (provisoplain_Stmts.l0 k2 (x3_1 ++ [(⟨((rd_T47 l0 x11_1).f0), ((rd_T47 l0 x11_1).f1), ((rd_T47 l0 x11_1).f2), ((rd_T47 l0 x11_1).f3), ((rd_T47 l0 x11_1).f4), x121005_2, t136, t139, ((rd_T47 l0 x11_1).f8), ((rd_T47 l0 x11_1).f9)⟩ : S47)]) l0 (l0.length : Int) (wrap64 (x11_1 + 1))) else (none))) = some r := H
                  have A27 := Aside0.mk A270
                  clear A270
                  replace H := Option.bind_eq_some_iff.mp H
                  obtain ⟨t139, A280, H⟩ := H
                  replace H : (if x3_1.length < 977343669134 then (provisoplain_Stmts.l0 k2 (x3_1 ++ [(⟨((rd_T47 l0 x11_1).f0), ((rd_T47 l0 x11_1).f1), ((rd_T47 l0 x11_1).f2), ((rd_T47 l0 x11_1).f3), ((rd_T47 l0 x11_1).f4), x121005_2, t136, t139, ((rd_T47 l0 x11_1).f8), ((rd_T47 l0 x11_1).f9)⟩ : S47)]) l0 (l0.length : Int) (wrap64 (x11_1 + 1))) else (none)) = some r := H
                  have A28 := Aside0.mk A280
                  clear A280
                  by_cases c29 : x3_1.length < 977343669134
                  · rw [if_pos c29] at H
                    have LMc29 := Aside0.mk c29
                    clear c29
                    obtain ⟨y142, hy142⟩ : ∃ y_ : List (S47), y_ = (x3_1 ++ [(⟨((rd_T47 l0 x11_1).f0), ((rd_T47 l0 x11_1).f1), ((rd_T47 l0 x11_1).f2), ((rd_T47 l0 x11_1).f3), ((rd_T47 l0 x11_1).f4), x121005_2, t136, t139, ((rd_T47 l0 x11_1).f8), ((rd_T47 l0 x11_1).f9)⟩ : S47)]) := ⟨_, rfl⟩
                    replace H : (provisoplain_Stmts.l0 k2 y142 l0 (l0.length : Int) (wrap64 (x11_1 + 1))) = some r := by first | (rw [hy142]; with_reducible exact H) | (have H2_ := (Option.bind_some _ _).symm.trans H; rw [hy142]; with_reducible exact H2_) | (have H2_ := (Option.bind_some _ _).symm.trans H; with_reducible exact H2_) | with_reducible exact H | (rw [hy142]; exact H) | exact H
                    have Ny142 := Aside0.mk hy142
                    clear hy142
                    have H' := Aside0.mk H
                    clear H
                    try go_wp2
                    have n0_ := Aside0.mk (Kd.R_drew HO_3.out)
                    have n1_ := Aside0.mk (Kd.R_drew HO_121005.out)
                    have n2_ := Aside0.mk (blk_drew BK119.out)
                    have n3_ := Aside0.mk (blk_drew BK120.out)
                    have n4_ := Aside0.mk (below_drew1 HB.out)
                    clear HO_3
                    clear HO_121005
                    clear BK119
                    clear BK120
                    clear HB
                    have HO_3 := n0_
                    have HO_121005 := n1_
                    have BK119 := n2_
                    have BK120 := n3_
                    have HB := n4_
                    clear n0_ n1_ n2_ n3_ n4_
                    refine start_ (n := 10) (S := fun w' => w'.cell? ⟨gb119, 0, none⟩ = some (.int .i64 ((rd_T47 l0 x11_1).f0)) ∧ w'.cell? ⟨gb119, 1, none⟩ = some (.int .i64 ((rd_T47 l0 x11_1).f1)) ∧ w'.cell? ⟨gb119, 2, none⟩ = some (.string ((rd_T47 l0 x11_1).f2)) ∧ w'.cell? ⟨gb119, 3, none⟩ = some (.string ((rd_T47 l0 x11_1).f3)) ∧ w'.cell? ⟨gb119, 4, none⟩ = some (.int .i64 ((rd_T47 l0 x11_1).f4)) ∧ w'.cell? ⟨gb119, 5, none⟩ = some (.slice A118_5 ((rd_T47 l0 x11_1).f5).length c118_5) ∧ w'.cell? ⟨gb119, 6, none⟩ = some (.slice A118_6 ((rd_T47 l0 x11_1).f6).length c118_6) ∧ w'.cell? ⟨gb119, 7, none⟩ = some (.slice A118_7 ((rd_T47 l0 x11_1).f7).length c118_7) ∧ w'.cell? ⟨gb119, 8, none⟩ = some (.int .u8 ((rd_T47 l0 x11_1).f8)) ∧ w'.cell? ⟨gb119, 9, none⟩ = some (.int .i64 ((rd_T47 l0 x11_1).f9))) (ds := []) #[false, false, false, false, false, false, false, false, false, false] (by kernel_rfl) rfl rfl ⟨(blk_cell BK119.out 0).trans rfl, (blk_cell BK119.out 1).trans rfl, (blk_cell BK119.out 2).trans rfl, (blk_cell BK119.out 3).trans rfl, (blk_cell BK119.out 4).trans rfl, (blk_cell BK119.out 5).trans rfl, (blk_cell BK119.out 6).trans rfl, (blk_cell BK119.out 7).trans rfl, (blk_cell BK119.out 8).trans rfl, (blk_cell BK119.out 9).trans rfl⟩ (fun hHeld => ?_); refine with_tabW provisoplain_Stmts.tab12 provisoplain_Stmts.bits12 (fun HT_ HW_ => ?_)
                    generalize wr.drew = w30 at HO_3 HO_121005 BK119 BK120 HB hHeld ⊢
                    refine pure_ (i := 0) (N := some 32) (v := ?_) (a' := ?_) #[true, false, false, false, false, false, false, false, false, false] rfl rfl (any_of HT_.out (by kernel_rfl)) (fun _ _ _ h => h) (Or.inl ⟨by rfl, ?_⟩) ?_ ?_
                    rotate_left
                    · intro w'
                      go_simp
                      with_reducible rfl
                    rotate_left
                    · simp only [Act.put, List.setIfInBounds_toArray, List.set_cons_zero, List.set_cons_succ, i64_w, i32_w]
                      rfl
                    refine pure_ (i := 3) (N := some 35) (v := ?_) (a' := ?_) #[true, false, false, true, false, false, false, false, false, false] rfl rfl (any_of HT_.out (by kernel_rfl)) (fun _ _ _ h => h) (Or.inl ⟨by rfl, ?_⟩) ?_ ?_
                    rotate_left
                    · intro w'
                      go_simp
                      with_reducible rfl
                    rotate_left
                    · simp only [Act.put, List.setIfInBounds_toArray, List.set_cons_zero, List.set_cons_succ, i64_w, i32_w]
                      rfl
                    refine take_ (i := 1) (N := some 33) (v := ?_) (a' := ?_) #[true, true, false, true, false, false, false, false, false, false] rfl rfl (take_ofW HT_.out HW_.out (by kernel_rfl)) (fun _ _ _ h => h) (Or.inl ⟨by rfl, ?_⟩) hHeld ?_ ?_
                    rotate_left
                    · rintro w' ⟨s0, s1, s2, s3, s4, s5, s6, s7, s8, s9⟩
                      go_simp
                      with_reducible rfl
                    rotate_left
                    · simp only [Act.put, List.setIfInBounds_toArray, List.set_cons_zero, List.set_cons_succ, i64_w, i32_w]
                      rfl
                    refine take_ (i := 4) (N := some 36) (v := ?_) (a' := ?_) #[true, true, false, true, true, false, false, false, false, false] rfl rfl (take_ofW HT_.out HW_.out (by kernel_rfl)) (fun _ _ _ h => h) (Or.inl ⟨by rfl, ?_⟩) hHeld ?_ ?_
                    rotate_left
                    · rintro w' ⟨s0, s1, s2, s3, s4, s5, s6, s7, s8, s9⟩
                      go_simp
                      with_reducible rfl
                    rotate_left
                    · simp only [Act.put, List.setIfInBounds_toArray, List.set_cons_zero, List.set_cons_succ, i64_w, i32_w]
                      rfl
                    refine one_ (i := 2) (N := some 34) #[true, true, true, true, true, false, false, false, false, false] rfl rfl (one_of HT_.out (by kernel_rfl)) (by decide) (fun K hK => ?_)
                    refine goes_ Try.func9 (by kernel_rfl) rfl #[.slice A118_6 ((rd_T47 l0 x11_1).f6).length c118_6] (by rfl) rfl rfl (by (try simp only [List.map_toArray, List.map_cons, List.map_nil]); first | done | rfl | (simp only [List.length_drop, List.length_take]; rfl)) ?_
                    with_reducible refine (ih k2 (by have := HK1.out; have := HK2.out; omega) _ _ ((rd_T47 l0 x11_1).f6) t136 _ ?side1 ?side2 A27.out).mono ?_
                    (case side1 => repeat (first | exact (Kd.C_below HR118_6.out HB.out) | (with_reducible refine Kd.C_alloc ?_ _) | (with_reducible refine Kd.C_drewN ?_ _) | (with_reducible refine Kd.C_drew ?_)))
                    (case side2 => exact HC118_6.out)
                    rintro e w31 ⟨v137, rfl, ho0, hb⟩
                    refine ⟨_, rfl, ?_⟩
                    have n0_ := Aside0.mk (Kd.R_elder' (by (with_reducible repeat (first | apply Kd.R_alloc | apply Kd.R_drewN | apply Kd.R_drew)); exact HO_3.out) (Kd.R_base ho0) hb)
                    have n1_ := Aside0.mk (Kd.R_below (by (with_reducible repeat (first | apply Kd.R_alloc | apply Kd.R_drewN | apply Kd.R_drew)); exact HO_121005.out) hb)
                    have n2_ := Aside0.mk (Kd.R_lower (Kd.R_newB (Kd.R_newB (Kd.R_new' (Kd.R_new' ho0 (Kd.R_lt (by (with_reducible repeat (first | apply Kd.R_alloc | apply Kd.R_drewN | apply Kd.R_drew)); exact HO_3.out))) (Kd.R_lt (by (with_reducible repeat (first | apply Kd.R_alloc | apply Kd.R_drewN | apply Kd.R_drew)); exact HO_121005.out))) (g := gb119) (o := .cells #[.int .i64 ((rd_T47 l0 x11_1).f0), .int .i64 ((rd_T47 l0 x11_1).f1), .string ((rd_T47 l0 x11_1).f2), .string ((rd_T47 l0 x11_1).f3), .int .i64 ((rd_T47 l0 x11_1).f4), .slice A118_5 ((rd_T47 l0 x11_1).f5).length c118_5, .slice A118_6 ((rd_T47 l0 x11_1).f6).length c118_6, .slice A118_7 ((rd_T47 l0 x11_1).f7).length c118_7, .int .u8 ((rd_T47 l0 x11_1).f8), .int .i64 ((rd_T47 l0 x11_1).f9)] 47 (0, 0)) (by (with_reducible repeat (first | refine blk_drewN ?_ _ | refine blk_drew ?_ | refine blk_alloc ?_ _)); exact BK119.out)) (g := gb120) (o := .cells #[.int .i64 ((rd_T47 l0 x11_1).f0), .int .i64 ((rd_T47 l0 x11_1).f1), .string ((rd_T47 l0 x11_1).f2), .string ((rd_T47 l0 x11_1).f3), .int .i64 ((rd_T47 l0 x11_1).f4), u121005, .slice A118_6 ((rd_T47 l0 x11_1).f6).length c118_6, .slice A118_7 ((rd_T47 l0 x11_1).f7).length c118_7, .int .u8 ((rd_T47 l0 x11_1).f8), .int .i64 ((rd_T47 l0 x11_1).f9)] 47 (0, 0)) (by (with_reducible repeat (first | refine blk_drewN ?_ _ | refine blk_drew ?_ | refine blk_alloc ?_ _)); exact BK120.out)) (below_size (by repeat (first | (with_reducible first | exact HB.out | apply below_alloc | apply pw_below_drewN | apply below_drew1 | refine below_set ?_ GE119.out | refine below_set ?_ GE120.out) | exact HB.out))))
                    have n3_ := Aside0.mk (blk_below (g := gb119) (o := .cells #[.int .i64 ((rd_T47 l0 x11_1).f0), .int .i64 ((rd_T47 l0 x11_1).f1), .string ((rd_T47 l0 x11_1).f2), .string ((rd_T47 l0 x11_1).f3), .int .i64 ((rd_T47 l0 x11_1).f4), .slice A118_5 ((rd_T47 l0 x11_1).f5).length c118_5, .slice A118_6 ((rd_T47 l0 x11_1).f6).length c118_6, .slice A118_7 ((rd_T47 l0 x11_1).f7).length c118_7, .int .u8 ((rd_T47 l0 x11_1).f8), .int .i64 ((rd_T47 l0 x11_1).f9)] 47 (0, 0)) (by (with_reducible repeat (first | refine blk_drewN ?_ _ | refine blk_drew ?_ | refine blk_alloc ?_ _)); exact BK119.out) hb)
                    have n4_ := Aside0.mk (blk_below (g := gb120) (o := .cells #[.int .i64 ((rd_T47 l0 x11_1).f0), .int .i64 ((rd_T47 l0 x11_1).f1), .string ((rd_T47 l0 x11_1).f2), .string ((rd_T47 l0 x11_1).f3), .int .i64 ((rd_T47 l0 x11_1).f4), u121005, .slice A118_6 ((rd_T47 l0 x11_1).f6).length c118_6, .slice A118_7 ((rd_T47 l0 x11_1).f7).length c118_7, .int .u8 ((rd_T47 l0 x11_1).f8), .int .i64 ((rd_T47 l0 x11_1).f9)] 47 (0, 0)) (by (with_reducible repeat (first | refine blk_drewN ?_ _ | refine blk_drew ?_ | refine blk_alloc ?_ _)); exact BK120.out) hb)
                    have n5_ := Aside0.mk (below_step (by repeat (first | (with_reducible first | exact HB.out | apply below_alloc | apply pw_below_drewN | apply below_drew1 | refine below_set ?_ GE119.out | refine below_set ?_ GE120.out) | exact HB.out)) hb)
                    clear HO_3
                    clear HO_121005
                    clear BK119
                    clear BK120
                    clear HB
                    have HO_3 := n0_
                    have HO_121005 := n1_
                    have HO138 := n2_
                    have BK119 := n3_
                    have BK120 := n4_
                    have HB := n5_
                    clear n0_ n1_ n2_ n3_ n4_ n5_
                    (try clear hb)
                    (try clear hb2)
                    (try clear hk)
                    (try clear hi)
                    (try clear ho0)
                    refine hK.out _ _ ⟨(blk_cell BK119.out 0).trans rfl, (blk_cell BK119.out 1).trans rfl, (blk_cell BK119.out 2).trans rfl, (blk_cell BK119.out 3).trans rfl, (blk_cell BK119.out 4).trans rfl, (blk_cell BK119.out 5).trans rfl, (blk_cell BK119.out 6).trans rfl, (blk_cell BK119.out 7).trans rfl, (blk_cell BK119.out 8).trans rfl, (blk_cell BK119.out 9).trans rfl⟩ (fun hHeld => ?_)
                    clear hK K
                    refine norm_ (a' := ?_) ?_ ?_
                    rotate_left
                    · show Act.put _ (some 34) _ = _
                      simp only [Act.put, List.setIfInBounds_toArray, List.set_cons_zero, List.set_cons_succ, i64_w, i32_w]
                      rfl
                    refine pure_ (i := 6) (N := some 38) (v := ?_) (a' := ?_) #[true, true, true, true, true, false, true, false, false, false] rfl rfl (any_of HT_.out (by kernel_rfl)) (fun _ _ _ h => h) (Or.inl ⟨by rfl, ?_⟩) ?_ ?_
                    rotate_left
                    · intro w'
                      go_simp
                      with_reducible rfl
                    rotate_left
                    · simp only [Act.put, List.setIfInBounds_toArray, List.set_cons_zero, List.set_cons_succ, i64_w, i32_w]
                      rfl
                    refine one_ (i := 5) (N := some 37) #[true, true, true, true, true, true, true, false, false, false] rfl rfl (one_of HT_.out (by kernel_rfl)) (by decide) (fun K hK => ?_)
                    refine goes_ Try.func9 (by kernel_rfl) rfl #[.slice A118_7 ((rd_T47 l0 x11_1).f7).length c118_7] (by rfl) rfl rfl (by (try simp only [List.map_toArray, List.map_cons, List.map_nil]); first | done | rfl | (simp only [List.length_drop, List.length_take]; rfl)) ?_
                    with_reducible refine (ih k2 (by have := HK1.out; have := HK2.out; omega) _ _ ((rd_T47 l0 x11_1).f7) t139 _ ?side1 ?side2 A28.out).mono ?_
                    (case side1 => repeat (first | exact (Kd.C_below HR118_7.out HB.out) | (with_reducible refine Kd.C_alloc ?_ _) | (with_reducible refine Kd.C_drewN ?_ _) | (with_reducible refine Kd.C_drew ?_)))
                    (case side2 => exact HC118_7.out)
                    rintro e w32 ⟨v140, rfl, ho0, hb⟩
                    refine ⟨_, rfl, ?_⟩
                    have n0_ := Aside0.mk (Kd.R_elder' (by (with_reducible repeat (first | apply Kd.R_alloc | apply Kd.R_drewN | apply Kd.R_drew)); exact HO_3.out) (Kd.R_base ho0) hb)
                    have n1_ := Aside0.mk (Kd.R_below (by (with_reducible repeat (first | apply Kd.R_alloc | apply Kd.R_drewN | apply Kd.R_drew)); exact HO_121005.out) hb)
                    have n2_ := Aside0.mk (Kd.R_elder' (by (with_reducible repeat (first | apply Kd.R_alloc | apply Kd.R_drewN | apply Kd.R_drew)); exact HO138.out) (Kd.R_base ho0) hb)
                    have n3_ := Aside0.mk (Kd.R_lower (Kd.R_newB (Kd.R_newB (Kd.R_new' (Kd.R_new' (Kd.R_new' ho0 (Kd.R_lt (by (with_reducible repeat (first | apply Kd.R_alloc | apply Kd.R_drewN | apply Kd.R_drew)); exact HO_3.out))) (Kd.R_lt (by (with_reducible repeat (first | apply Kd.R_alloc | apply Kd.R_drewN | apply Kd.R_drew)); exact HO_121005.out))) (Kd.R_lt (by (with_reducible repeat (first | apply Kd.R_alloc | apply Kd.R_drewN | apply Kd.R_drew)); exact HO138.out))) (g := gb119) (o := .cells #[.int .i64 ((rd_T47 l0 x11_1).f0), .int .i64 ((rd_T47 l0 x11_1).f1), .string ((rd_T47 l0 x11_1).f2), .string ((rd_T47 l0 x11_1).f3), .int .i64 ((rd_T47 l0 x11_1).f4), .slice A118_5 ((rd_T47 l0 x11_1).f5).length c118_5, .slice A118_6 ((rd_T47 l0 x11_1).f6).length c118_6, .slice A118_7 ((rd_T47 l0 x11_1).f7).length c118_7, .int .u8 ((rd_T47 l0 x11_1).f8), .int .i64 ((rd_T47 l0 x11_1).f9)] 47 (0, 0)) (by (with_reducible repeat (first | refine blk_drewN ?_ _ | refine blk_drew ?_ | refine blk_alloc ?_ _)); exact BK119.out)) (g := gb120) (o := .cells #[.int .i64 ((rd_T47 l0 x11_1).f0), .int .i64 ((rd_T47 l0 x11_1).f1), .string ((rd_T47 l0 x11_1).f2), .string ((rd_T47 l0 x11_1).f3), .int .i64 ((rd_T47 l0 x11_1).f4), u121005, .slice A118_6 ((rd_T47 l0 x11_1).f6).length c118_6, .slice A118_7 ((rd_T47 l0 x11_1).f7).length c118_7, .int .u8 ((rd_T47 l0 x11_1).f8), .int .i64 ((rd_T47 l0 x11_1).f9)] 47 (0, 0)) (by (with_reducible repeat (first | refine blk_drewN ?_ _ | refine blk_drew ?_ | refine blk_alloc ?_ _)); exact BK120.out)) (below_size (by repeat (first | (with_reducible first | exact HB.out | apply below_alloc | apply pw_below_drewN | apply below_drew1 | refine below_set ?_ GE119.out | refine below_set ?_ GE120.out) | exact HB.out))))
                    have n4_ := Aside0.mk (blk_below (g := gb119) (o := .cells #[.int .i64 ((rd_T47 l0 x11_1).f0), .int .i64 ((rd_T47 l0 x11_1).f1), .string ((rd_T47 l0 x11_1).f2), .string ((rd_T47 l0 x11_1).f3), .int .i64 ((rd_T47 l0 x11_1).f4), .slice A118_5 ((rd_T47 l0 x11_1).f5).length c118_5, .slice A118_6 ((rd_T47 l0 x11_1).f6).length c118_6, .slice A118_7 ((rd_T47 l0 x11_1).f7).length c118_7, .int .u8 ((rd_T47 l0 x11_1).f8), .int .i64 ((rd_T47 l0 x11_1).f9)] 47 (0, 0)) (by (with_reducible repeat (first | refine blk_drewN ?_ _ | refine blk_drew ?_ | refine blk_alloc ?_ _)); exact BK119.out) hb)
                    have n5_ := Aside0.mk (blk_below (g := gb120) (o := .cells #[.int .i64 ((rd_T47 l0 x11_1).f0), .int .i64 ((rd_T47 l0 x11_1).f1), .string ((rd_T47 l0 x11_1).f2), .string ((rd_T47 l0 x11_1).f3), .int .i64 ((rd_T47 l0 x11_1).f4), u121005, .slice A118_6 ((rd_T47 l0 x11_1).f6).length c118_6, .slice A118_7 ((rd_T47 l0 x11_1).f7).length c118_7, .int .u8 ((rd_T47 l0 x11_1).f8), .int .i64 ((rd_T47 l0 x11_1).f9)] 47 (0, 0)) (by (with_reducible repeat (first | refine blk_drewN ?_ _ | refine blk_drew ?_ | refine blk_alloc ?_ _)); exact BK120.out) hb)
                    have n6_ := Aside0.mk (below_step (by repeat (first | (with_reducible first | exact HB.out | apply below_alloc | apply pw_below_drewN | apply below_drew1 | refine below_set ?_ GE119.out | refine below_set ?_ GE120.out) | exact HB.out)) hb)
                    clear HO_3
                    clear HO_121005
                    clear HO138
                    clear BK119
                    clear BK120
                    clear HB
                    have HO_3 := n0_
                    have HO_121005 := n1_
                    have HO138 := n2_
                    have HO141 := n3_
                    have BK119 := n4_
                    have BK120 := n5_
                    have HB := n6_
                    clear n0_ n1_ n2_ n3_ n4_ n5_ n6_
                    (try clear hb)
                    (try clear hb2)
                    (try clear hk)
                    (try clear hi)
                    (try clear ho0)
                    obtain ⟨Ao33, co33, eo33⟩ := Kd.R_slice HO138.out
                    (first | subst eo33 | (injection eo33 with f1_ f2_ f3_; have f4_ := f1_.symm; have f5_ := f3_.symm; clear f1_ f2_ f3_; subst f4_; subst f5_))
                    obtain ⟨Ao35, co35, eo35⟩ := Kd.R_slice HO141.out
                    (first | subst eo35 | (injection eo35 with f1_ f2_ f3_; have f4_ := f1_.symm; have f5_ := f3_.symm; clear f1_ f2_ f3_; subst f4_; subst f5_))
                    refine hK.out _ _ ⟨(blk_cell BK119.out 0).trans rfl, (blk_cell BK119.out 1).trans rfl, (blk_cell BK119.out 2).trans rfl, (blk_cell BK119.out 3).trans rfl, (blk_cell BK119.out 4).trans rfl, (blk_cell BK119.out 5).trans rfl, (blk_cell BK119.out 6).trans rfl, (blk_cell BK119.out 7).trans rfl, (blk_cell BK119.out 8).trans rfl, (blk_cell BK119.out 9).trans rfl⟩ (fun hHeld => ?_)
                    clear hK K
                    refine norm_ (a' := ?_) ?_ ?_
                    rotate_left
                    · show Act.put _ (some 37) _ = _
                      simp only [Act.put, List.setIfInBounds_toArray, List.set_cons_zero, List.set_cons_succ, i64_w, i32_w]
                      rfl
                    refine one_ (i := 7) (N := none) #[true, true, true, true, true, true, true, true, false, false] rfl rfl (one_of HT_.out (by kernel_rfl)) (by decide) (fun K hK => ?_)
                    have hs34 : w32.cell? ⟨gb120, 6, none⟩ = some (.slice A118_6 ((rd_T47 l0 x11_1).f6).length c118_6) := (blk_cell BK120.out 6).trans rfl
                    have hfs34 := blk_frozen BK120.out 6
                    have hns34_0 := NB119_120.out
                    have hms34_0 := NB120_119.out
                    refine skip_ (w1 := ?_) (by rfl) rfl ?_ ?_
                    rotate_left
                    · go_simp
                      rfl
                    refine hK.out _ _ ⟨((cell_far (p := ⟨gb120, _, none⟩) NB119_120.out _).trans (hHeld.1)), ((cell_far (p := ⟨gb120, _, none⟩) NB119_120.out _).trans (hHeld.2.1)), ((cell_far (p := ⟨gb120, _, none⟩) NB119_120.out _).trans (hHeld.2.2.1)), ((cell_far (p := ⟨gb120, _, none⟩) NB119_120.out _).trans (hHeld.2.2.2.1)), ((cell_far (p := ⟨gb120, _, none⟩) NB119_120.out _).trans (hHeld.2.2.2.2.1)), ((cell_far (p := ⟨gb120, _, none⟩) NB119_120.out _).trans (hHeld.2.2.2.2.2.1)), ((cell_far (p := ⟨gb120, _, none⟩) NB119_120.out _).trans (hHeld.2.2.2.2.2.2.1)), ((cell_far (p := ⟨gb120, _, none⟩) NB119_120.out _).trans (hHeld.2.2.2.2.2.2.2.1)), ((cell_far (p := ⟨gb120, _, none⟩) NB119_120.out _).trans (hHeld.2.2.2.2.2.2.2.2.1)), ((cell_far (p := ⟨gb120, _, none⟩) NB119_120.out _).trans (hHeld.2.2.2.2.2.2.2.2.2))⟩ (fun hHeld => ?_)
                    clear hK K
                    refine pure_ (i := 8) (N := some 39) (v := ?_) (a' := ?_) #[true, true, true, true, true, true, true, true, true, false] rfl rfl (any_of HT_.out (by kernel_rfl)) (fun _ _ _ h => h) (Or.inl ⟨by rfl, ?_⟩) ?_ ?_
                    rotate_left
                    · intro w'
                      go_simp
                      with_reducible rfl
                    rotate_left
                    · simp only [Act.put, List.setIfInBounds_toArray, List.set_cons_zero, List.set_cons_succ, i64_w, i32_w]
                      rfl
                    refine one_ (i := 9) (N := none) #[true, true, true, true, true, true, true, true, true, true] rfl rfl (one_of HT_.out (by kernel_rfl)) (by decide) (fun K hK => ?_)
                    have hs36 : w32.cell? ⟨gb120, 7, none⟩ = some (.slice A118_7 ((rd_T47 l0 x11_1).f7).length c118_7) := (blk_cell BK120.out 7).trans rfl
                    have hfs36 := blk_frozen BK120.out 7
                    have hns36_0 := NB119_120.out
                    have hms36_0 := NB120_119.out
                    refine skip_ (w1 := ?_) (by rfl) rfl ?_ ?_
                    rotate_left
                    · go_simp
                      rfl
                    refine hK.out _ _ ⟨((cell_far (p := ⟨gb120, _, none⟩) NB119_120.out _).trans (hHeld.1)), ((cell_far (p := ⟨gb120, _, none⟩) NB119_120.out _).trans (hHeld.2.1)), ((cell_far (p := ⟨gb120, _, none⟩) NB119_120.out _).trans (hHeld.2.2.1)), ((cell_far (p := ⟨gb120, _, none⟩) NB119_120.out _).trans (hHeld.2.2.2.1)), ((cell_far (p := ⟨gb120, _, none⟩) NB119_120.out _).trans (hHeld.2.2.2.2.1)), ((cell_far (p := ⟨gb120, _, none⟩) NB119_120.out _).trans (hHeld.2.2.2.2.2.1)), ((cell_far (p := ⟨gb120, _, none⟩) NB119_120.out _).trans (hHeld.2.2.2.2.2.2.1)), ((cell_far (p := ⟨gb120, _, none⟩) NB119_120.out _).trans (hHeld.2.2.2.2.2.2.2.1)), ((cell_far (p := ⟨gb120, _, none⟩) NB119_120.out _).trans (hHeld.2.2.2.2.2.2.2.2.1)), ((cell_far (p := ⟨gb120, _, none⟩) NB119_120.out _).trans (hHeld.2.2.2.2.2.2.2.2.2))⟩ (fun hHeld => ?_)
                    clear hK K
                    refine done_ (done_of HT_.out (by kernel_rfl)) ?_
                    have n0_ : Aside0 (Kd.R k47 47 ((w32.setCell ⟨gb120, 6, none⟩ (.slice Ao33 t136.length co33)).setCell ⟨gb120, 7, none⟩ (.slice Ao35 t139.length co35)) w.heap.size (fun k_ => some k_ ≠ (u121005 : Value).ownBlock ∧ some k_ ≠ (.slice Ao33 t136.length co33 : Value).ownBlock ∧ some k_ ≠ (.slice Ao35 t139.length co35 : Value).ownBlock ∧ k_ ≠ gb119 ∧ k_ ≠ gb120) u3 x3_1) := ⟨by (with_reducible repeat (first | apply Kd.R_alloc | apply Kd.R_drewN | apply Kd.R_drew)); exact Kd.R_mono (Kd.R_far (p := ⟨gb120, 7, none⟩) (Kd.R_far (p := ⟨gb120, 6, none⟩) (Kd.R_mono HO_3.out (fun k_ hk => (⟨hk, hk.1.1.2.2⟩ : _ ∧ k_ ≠ gb120))) (fun _ hk => hk.2) (.slice Ao33 t136.length co33)) (fun _ hk => hk.2) (.slice Ao35 t139.length co35)) (fun _ hk => ⟨hk.1.1.1.1, ⟨hk.1.1.2, ⟨hk.1.2, ⟨hk.1.1.1.2.1, hk.1.1.1.2.2⟩⟩⟩⟩)⟩
                    have n1_ : Aside0 (Kd.R k49 49 ((w32.setCell ⟨gb120, 6, none⟩ (.slice Ao33 t136.length co33)).setCell ⟨gb120, 7, none⟩ (.slice Ao35 t139.length co35)) w.heap.size (fun _ => True) u121005 x121005_2) := ⟨by (with_reducible repeat (first | apply Kd.R_alloc | apply Kd.R_drewN | apply Kd.R_drew)); exact Kd.R_mono (Kd.R_far (p := ⟨gb120, 7, none⟩) (Kd.R_far (p := ⟨gb120, 6, none⟩) (Kd.R_types HO_121005.out BK120.out (by decide)) (fun _ hk => hk.2) (.slice Ao33 t136.length co33)) (fun _ hk => hk.2) (.slice Ao35 t139.length co35)) (fun _ hk => trivial)⟩
                    have n2_ : Aside0 (Kd.R k47 47 ((w32.setCell ⟨gb120, 6, none⟩ (.slice Ao33 t136.length co33)).setCell ⟨gb120, 7, none⟩ (.slice Ao35 t139.length co35)) w.heap.size (fun k_ => some k_ ≠ (u3 : Value).ownBlock ∧ some k_ ≠ (u121005 : Value).ownBlock ∧ some k_ ≠ (.slice Ao35 t139.length co35 : Value).ownBlock ∧ k_ ≠ gb119 ∧ k_ ≠ gb120) (.slice Ao33 t136.length co33) t136) := ⟨by (with_reducible repeat (first | apply Kd.R_alloc | apply Kd.R_drewN | apply Kd.R_drew)); exact Kd.R_mono (Kd.R_far (p := ⟨gb120, 7, none⟩) (Kd.R_far (p := ⟨gb120, 6, none⟩) (Kd.R_mono HO138.out (fun k_ hk => (⟨hk, hk.1.2⟩ : _ ∧ k_ ≠ gb120))) (fun _ hk => hk.2) (.slice Ao33 t136.length co33)) (fun _ hk => hk.2) (.slice Ao35 t139.length co35)) (fun _ hk => ⟨hk.1.1.1.1.1.2, ⟨hk.1.1.1.1.2, ⟨hk.1.2, ⟨hk.1.1.1.2, hk.1.1.2⟩⟩⟩⟩)⟩
                    have n3_ : Aside0 (Kd.R k47 47 ((w32.setCell ⟨gb120, 6, none⟩ (.slice Ao33 t136.length co33)).setCell ⟨gb120, 7, none⟩ (.slice Ao35 t139.length co35)) w.heap.size (fun k_ => some k_ ≠ (u3 : Value).ownBlock ∧ some k_ ≠ (u121005 : Value).ownBlock ∧ some k_ ≠ (.slice Ao33 t136.length co33 : Value).ownBlock ∧ k_ ≠ gb119 ∧ k_ ≠ gb120) (.slice Ao35 t139.length co35) t139) := ⟨by (with_reducible repeat (first | apply Kd.R_alloc | apply Kd.R_drewN | apply Kd.R_drew)); exact Kd.R_mono (Kd.R_far (p := ⟨gb120, 7, none⟩) (Kd.R_far (p := ⟨gb120, 6, none⟩) (Kd.R_mono HO141.out (fun k_ hk => (⟨hk, hk.2⟩ : _ ∧ k_ ≠ gb120))) (fun _ hk => hk.2) (.slice Ao33 t136.length co33)) (fun _ hk => hk.2) (.slice Ao35 t139.length co35)) (fun _ hk => ⟨hk.1.1.1.1.1.2, ⟨hk.1.1.1.1.2, ⟨hk.1.1.1.2, ⟨hk.1.1.2, hk.1.2⟩⟩⟩⟩)⟩
                    have n4_ : Aside0 (((w32.setCell ⟨gb120, 6, none⟩ (.slice Ao33 t136.length co33)).setCell ⟨gb120, 7, none⟩ (.slice Ao35 t139.length co35)).heap[gb119]? = some (.cells #[.int .i64 ((rd_T47 l0 x11_1).f0), .int .i64 ((rd_T47 l0 x11_1).f1), .string ((rd_T47 l0 x11_1).f2), .string ((rd_T47 l0 x11_1).f3), .int .i64 ((rd_T47 l0 x11_1).f4), .slice A118_5 ((rd_T47 l0 x11_1).f5).length c118_5, .slice A118_6 ((rd_T47 l0 x11_1).f6).length c118_6, .slice A118_7 ((rd_T47 l0 x11_1).f7).length c118_7, .int .u8 ((rd_T47 l0 x11_1).f8), .int .i64 ((rd_T47 l0 x11_1).f9)] 47 (0, 0))) := ⟨by (with_reducible repeat (first | refine blk_drewN ?_ _ | refine blk_drew ?_ | refine blk_alloc ?_ _)); refine blk_far ?_ NB119_120.out _; (with_reducible repeat (first | refine blk_drewN ?_ _ | refine blk_drew ?_ | refine blk_alloc ?_ _)); refine blk_far ?_ NB119_120.out _; (with_reducible repeat (first | refine blk_drewN ?_ _ | refine blk_drew ?_ | refine blk_alloc ?_ _)); exact BK119.out⟩
                    have n5_ : Aside0 (((w32.setCell ⟨gb120, 6, none⟩ (.slice Ao33 t136.length co33)).setCell ⟨gb120, 7, none⟩ (.slice Ao35 t139.length co35)).heap[gb120]? = some (.cells #[.int .i64 ((rd_T47 l0 x11_1).f0), .int .i64 ((rd_T47 l0 x11_1).f1), .string ((rd_T47 l0 x11_1).f2), .string ((rd_T47 l0 x11_1).f3), .int .i64 ((rd_T47 l0 x11_1).f4), u121005, .slice Ao33 t136.length co33, .slice Ao35 t139.length co35, .int .u8 ((rd_T47 l0 x11_1).f8), .int .i64 ((rd_T47 l0 x11_1).f9)] 47 (0, 0))) := ⟨by (with_reducible repeat (first | refine blk_drewN ?_ _ | refine blk_drew ?_ | refine blk_alloc ?_ _)); refine blk_put (cs := #[.int .i64 ((rd_T47 l0 x11_1).f0), .int .i64 ((rd_T47 l0 x11_1).f1), .string ((rd_T47 l0 x11_1).f2), .string ((rd_T47 l0 x11_1).f3), .int .i64 ((rd_T47 l0 x11_1).f4), u121005, .slice Ao33 t136.length co33, .slice A118_7 ((rd_T47 l0 x11_1).f7).length c118_7, .int .u8 ((rd_T47 l0 x11_1).f8), .int .i64 ((rd_T47 l0 x11_1).f9)]) ?_ 7 _ rfl; (with_reducible repeat (first | refine blk_drewN ?_ _ | refine blk_drew ?_ | refine blk_alloc ?_ _)); refine blk_put (cs := #[.int .i64 ((rd_T47 l0 x11_1).f0), .int .i64 ((rd_T47 l0 x11_1).f1), .string ((rd_T47 l0 x11_1).f2), .string ((rd_T47 l0 x11_1).f3), .int .i64 ((rd_T47 l0 x11_1).f4), u121005, .slice A118_6 ((rd_T47 l0 x11_1).f6).length c118_6, .slice A118_7 ((rd_T47 l0 x11_1).f7).length c118_7, .int .u8 ((rd_T47 l0 x11_1).f8), .int .i64 ((rd_T47 l0 x11_1).f9)]) ?_ 6 _ rfl; (with_reducible repeat (first | refine blk_drewN ?_ _ | refine blk_drew ?_ | refine blk_alloc ?_ _)); exact BK120.out⟩
                    have n6_ : Aside0 (Below w.heap.size w ((w32.setCell ⟨gb120, 6, none⟩ (.slice Ao33 t136.length co33)).setCell ⟨gb120, 7, none⟩ (.slice Ao35 t139.length co35))) := ⟨by repeat (first | (with_reducible first | exact HB.out | apply below_alloc | apply pw_below_drewN | apply below_drew1 | refine below_set ?_ GE119.out | refine below_set ?_ GE120.out) | exact HB.out)⟩
                    (try clear HO_3)
                    (try clear HO_121005)
                    (try clear HO138)
                    (try clear HO141)
                    (try clear BK119)
                    (try clear BK120)
                    (try clear HB)
                    generalize ((w32.setCell ⟨gb120, 6, none⟩ (.slice Ao33 t136.length co33)).setCell ⟨gb120, 7, none⟩ (.slice Ao35 t139.length co35)) = w37 at n0_ n1_ n2_ n3_ n4_ n5_ n6_ ⊢
                    have HO_3 := n0_
                    have HO_121005 := n1_
                    have HO138 := n2_
                    have HO141 := n3_
                    have BK119 := n4_
                    have BK120 := n5_
                    have HB := n6_
                    clear n0_ n1_ n2_ n3_ n4_ n5_ n6_
                    have hnb38 := NB120_119.out
                    have hnc38 := NB119_120.out
                    have hcz39_0 : w37.cell? ⟨gb120, 0, none⟩ = some (.int .i64 ((rd_T47 l0 x11_1).f0)) := (blk_cell BK120.out 0).trans rfl
                    have hcz39_1 : w37.cell? ⟨gb120, 1, none⟩ = some (.int .i64 ((rd_T47 l0 x11_1).f1)) := (blk_cell BK120.out 1).trans rfl
                    have hcz39_2 : w37.cell? ⟨gb120, 2, none⟩ = some (.string ((rd_T47 l0 x11_1).f2)) := (blk_cell BK120.out 2).trans rfl
                    have hcz39_3 : w37.cell? ⟨gb120, 3, none⟩ = some (.string ((rd_T47 l0 x11_1).f3)) := (blk_cell BK120.out 3).trans rfl
                    have hcz39_4 : w37.cell? ⟨gb120, 4, none⟩ = some (.int .i64 ((rd_T47 l0 x11_1).f4)) := (blk_cell BK120.out 4).trans rfl
                    have hcz39_5 : w37.cell? ⟨gb120, 5, none⟩ = some (u121005) := (blk_cell BK120.out 5).trans rfl
                    have hcz39_6 : w37.cell? ⟨gb120, 6, none⟩ = some (.slice Ao33 t136.length co33) := (blk_cell BK120.out 6).trans rfl
                    have hcz39_7 : w37.cell? ⟨gb120, 7, none⟩ = some (.slice Ao35 t139.length co35) := (blk_cell BK120.out 7).trans rfl
                    have hcz39_8 : w37.cell? ⟨gb120, 8, none⟩ = some (.int .u8 ((rd_T47 l0 x11_1).f8)) := (blk_cell BK120.out 8).trans rfl
                    have hcz39_9 : w37.cell? ⟨gb120, 9, none⟩ = some (.int .i64 ((rd_T47 l0 x11_1).f9)) := (blk_cell BK120.out 9).trans rfl
                    have hfz39_0 := blk_frozen BK120.out 0
                    have hfz39_1 := blk_frozen BK120.out 1
                    have hfz39_2 := blk_frozen BK120.out 2
                    have hfz39_3 := blk_frozen BK120.out 3
                    have hfz39_4 := blk_frozen BK120.out 4
                    have hfz39_5 := blk_frozen BK120.out 5
                    have hfz39_6 := blk_frozen BK120.out 6
                    have hfz39_7 := blk_frozen BK120.out 7
                    have hfz39_8 := blk_frozen BK120.out 8
                    have hfz39_9 := blk_frozen BK120.out 9
                    obtain ⟨Ao41, co41, eo41⟩ := Kd.R_slice HO_121005.out
                    subst eo41
                    try go_wp2_with (first | ((with_reducible refine gate_builtin (b := .append) (xs := #[.tmp 40, .tmp 42]) rfl ?_); at_builtin; refine Kd.R_append k47 (w0 := w) w.heap.size rfl (.tmp 40) (.tmp 42) 35 47 (.agg #[(.int .i64 0), (.int .i64 0), (.string ⟨#[]⟩), (.string ⟨#[]⟩), (.int .i64 0), (.slice none 0 0), (.slice none 0 0), (.slice none 0 0), (.int .u8 0), (.int .i64 0)]) 144 rfl Try.underlying35 info47 rfl (by decide) (by omega) u3 x3_1 (⟨((rd_T47 l0 x11_1).f0), ((rd_T47 l0 x11_1).f1), ((rd_T47 l0 x11_1).f2), ((rd_T47 l0 x11_1).f3), ((rd_T47 l0 x11_1).f4), x121005_2, t136, t139, ((rd_T47 l0 x11_1).f8), ((rd_T47 l0 x11_1).f9)⟩ : S47) [.int .i64 ((rd_T47 l0 x11_1).f0), .int .i64 ((rd_T47 l0 x11_1).f1), .string ((rd_T47 l0 x11_1).f2), .string ((rd_T47 l0 x11_1).f3), .int .i64 ((rd_T47 l0 x11_1).f4), .slice Ao41 x121005_2.length co41, .slice Ao33 t136.length co33, .slice Ao35 t139.length co35, .int .u8 ((rd_T47 l0 x11_1).f8), .int .i64 ((rd_T47 l0 x11_1).f9)] (fun k_ => k_ ≠ gb119 ∧ k_ ≠ gb120) (fun k_ => ((fun k_ => k_ ≠ gb119 ∧ k_ ≠ gb120)) k_ ∧ some k_ ≠ (u3 : Value).ownBlock) rfl rfl ?aP (fun _ hk => hk) ?aF ?aO ?aB ?aS ?aL ?_; (case aP => exact k47_mkM _ _ _ (⟨((rd_T47 l0 x11_1).f0), ((rd_T47 l0 x11_1).f1), ((rd_T47 l0 x11_1).f2), ((rd_T47 l0 x11_1).f3), ((rd_T47 l0 x11_1).f4), x121005_2, t136, t139, ((rd_T47 l0 x11_1).f8), ((rd_T47 l0 x11_1).f9)⟩ : S47) (Kd.R_mono (Kd.R_types (Kd.R_types (Kd.R_apart' (HO_121005.out) (Kd.R_typed HO_3.out) (by decide)) BK119.out (by decide)) BK120.out (by decide)) (fun k_ hk => ⟨⟨hk.1.2, hk.2⟩, hk.1.1.2⟩)) (Kd.R_mono (HO138.out) (fun k_ hk => ⟨⟨hk.2.2.2.1, hk.2.2.2.2⟩, hk.1⟩)) (Kd.R_mono (HO141.out) (fun k_ hk => ⟨⟨hk.2.2.2.1, hk.2.2.2.2⟩, hk.1⟩))); (case aB => exact (by repeat (first | (with_reducible first | exact HB.out | apply below_alloc | apply pw_below_drewN | apply below_drew1 | refine below_set ?_ GE119.out | refine below_set ?_ GE120.out) | exact HB.out))); (case aF => exact (fun k_ hk => ⟨Kd.freshB (g := gb119) (o := .cells #[.int .i64 ((rd_T47 l0 x11_1).f0), .int .i64 ((rd_T47 l0 x11_1).f1), .string ((rd_T47 l0 x11_1).f2), .string ((rd_T47 l0 x11_1).f3), .int .i64 ((rd_T47 l0 x11_1).f4), .slice A118_5 ((rd_T47 l0 x11_1).f5).length c118_5, .slice A118_6 ((rd_T47 l0 x11_1).f6).length c118_6, .slice A118_7 ((rd_T47 l0 x11_1).f7).length c118_7, .int .u8 ((rd_T47 l0 x11_1).f8), .int .i64 ((rd_T47 l0 x11_1).f9)] 47 (0, 0)) (by (with_reducible repeat (first | refine blk_drewN ?_ _ | refine blk_drew ?_ | refine blk_alloc ?_ _)); exact BK119.out) k_ hk, Kd.freshB (g := gb120) (o := .cells #[.int .i64 ((rd_T47 l0 x11_1).f0), .int .i64 ((rd_T47 l0 x11_1).f1), .string ((rd_T47 l0 x11_1).f2), .string ((rd_T47 l0 x11_1).f3), .int .i64 ((rd_T47 l0 x11_1).f4), .slice Ao41 x121005_2.length co41, .slice Ao33 t136.length co33, .slice Ao35 t139.length co35, .int .u8 ((rd_T47 l0 x11_1).f8), .int .i64 ((rd_T47 l0 x11_1).f9)] 47 (0, 0)) (by (with_reducible repeat (first | refine blk_drewN ?_ _ | refine blk_drew ?_ | refine blk_alloc ?_ _)); exact BK120.out) k_ hk⟩)); (case aO => exact (by (with_reducible repeat (first | apply Kd.R_alloc | apply Kd.R_drewN | apply Kd.R_drew)); exact Kd.R_mono HO_3.out (fun _ hk => ⟨hk.2.2.2.1, hk.2.2.2.2⟩))); (case aS => exact (below_size (by repeat (first | (with_reducible first | exact HB.out | apply below_alloc | apply pw_below_drewN | apply below_drew1 | refine below_set ?_ GE119.out | refine below_set ?_ GE120.out) | exact HB.out)))); (case aL => have := LMc29.out; omega); intro v143 w40 ho hb hg hat; rw [← Ny142.out] at ho; have n0_ := Aside0.mk (blk_grown (g := gb119) (o := .cells #[.int .i64 ((rd_T47 l0 x11_1).f0), .int .i64 ((rd_T47 l0 x11_1).f1), .string ((rd_T47 l0 x11_1).f2), .string ((rd_T47 l0 x11_1).f3), .int .i64 ((rd_T47 l0 x11_1).f4), .slice A118_5 ((rd_T47 l0 x11_1).f5).length c118_5, .slice A118_6 ((rd_T47 l0 x11_1).f6).length c118_6, .slice A118_7 ((rd_T47 l0 x11_1).f7).length c118_7, .int .u8 ((rd_T47 l0 x11_1).f8), .int .i64 ((rd_T47 l0 x11_1).f9)] 47 (0, 0)) (by (with_reducible repeat (first | refine blk_drewN ?_ _ | refine blk_drew ?_ | refine blk_alloc ?_ _)); exact BK119.out) hg (Kd.R_away HO_3.out (fun _ hk => hk.2.2.2.1))); have n1_ := Aside0.mk (blk_grown (g := gb120) (o := .cells #[.int .i64 ((rd_T47 l0 x11_1).f0), .int .i64 ((rd_T47 l0 x11_1).f1), .string ((rd_T47 l0 x11_1).f2), .string ((rd_T47 l0 x11_1).f3), .int .i64 ((rd_T47 l0 x11_1).f4), .slice Ao41 x121005_2.length co41, .slice Ao33 t136.length co33, .slice Ao35 t139.length co35, .int .u8 ((rd_T47 l0 x11_1).f8), .int .i64 ((rd_T47 l0 x11_1).f9)] 47 (0, 0)) (by (with_reducible repeat (first | refine blk_drewN ?_ _ | refine blk_drew ?_ | refine blk_alloc ?_ _)); exact BK120.out) hg (Kd.R_away HO_3.out (fun _ hk => hk.2.2.2.2))); have n2_ := Aside0.mk (hb); have n3_ := Aside0.mk (ho); clear BK119; clear BK120; clear HB; clear HO_3; clear HO138; clear HO141; clear HO_121005; have BK119 := n0_; have BK120 := n1_; have HB := n2_; have HO144 := n3_; clear n0_ n1_ n2_ n3_; clear ho hb hg hat))
                    go_roundg k2
                    case measure => have := HK1.out; have := HK2.out; omega
                    case rel => exact ⟨(y142), (wrap64 (x11_1 + 1)), (by first | rfl | (simp; done) | (simp [*]; done)), H', ⟨by have := HK1.out; have := HK2.out; omega⟩, ⟨by (with_reducible repeat (first | apply Kd.R_alloc | apply Kd.R_drewN | apply Kd.R_drew)); exact Kd.R_mono HO144.out (fun _ hk => trivial)⟩, ⟨by repeat (first | (with_reducible first | exact HB.out | apply below_alloc | apply pw_below_drewN | apply below_drew1 | refine below_set ?_ GE119.out | refine below_set ?_ GE120.out) | exact HB.out)⟩⟩
                  · rw [if_neg c29] at H
                    exact absurd H (by simp)
          · rw [if_neg c4] at H
            exact absurd H (by simp)
        · rw [if_neg c3] at H
          exact absurd H (by simp)
      · rw [if_neg c2] at H
        have c2b0 : decide (x11_1 < (l0.length : Int)) = false := decide_eq_false c2
        clear c2
        obtain rfl := Option.some.inj H
        go_wp2
        go_ret
        exact ⟨_, by first | rfl | (simp [errW_none, errW_some] <;> rfl) | (simp [*, errW_none, errW_some] <;> rfl), by (with_reducible repeat (first | apply Kd.R_alloc | apply Kd.R_drewN | apply Kd.R_drew)); exact HO_3.out, by repeat (first | (with_reducible first | exact HB.out | apply below_alloc | apply pw_below_drewN | apply below_drew1) | exact HB.out)⟩

-- NOT PRINTED: function 4 (provisoplain_Program)

-- NOT PRINTED: function 10 (api_Record)

-- NOT PRINTED: function 13 (api_Fun)

-- NOT PRINTED: function 5 (parse_Same)

end Go.Proofs.Ytpimociplmpfcaa.PParseSames
