/- The reference's One: its walk. The reference's Head and Told: their walks. -/
import Derived.Test.YtfbdnfokoakfaaaNextC
import Derived.Great.BuildSlice
namespace Go.Proofs.Ytfbdnfokoakfaaa.Ct
open Go.RowKit Go.Proofs.YtfbdnfokoakfaaaW.PrintWords Go.Proofs.YtfbdnfokoakfaaaW.PrintLast Go.Proofs.YtfbdnfokoakfaaaW.PrintMore
set_option linter.unusedVariables false
set_option linter.unusedSimpArgs false

theorem len_succ {s : List Int} {n : Nat} (h : s.length = n + 1) : ∃ a t, s = a :: t ∧ t.length = n := by
  cases s with
  | nil => cases h
  | cons a t => exact ⟨a, t, rfl, by simpa using h⟩
set_option maxRecDepth 100000 in
theorem build44_fr (v : Int) (f : Fr) (hf : f.wf) (W : World) : (Instr.build 44 #[(0, .int .i64 v), (2, .agg (frC f).toArray)]).run Try.prog W = .ok (.agg (enC ⟨v, false, f⟩).toArray) W := by
  obtain ⟨l, hh, s⟩ := f
  have h : s.length = 23 + 1 := hf.1
  clear hf
  obtain ⟨s0, t0, rfl, h0⟩ := len_succ h
  obtain ⟨s1, t1, rfl, h1⟩ := len_succ h0
  obtain ⟨s2, t2, rfl, h2⟩ := len_succ h1
  obtain ⟨s3, t3, rfl, h3⟩ := len_succ h2
  obtain ⟨s4, t4, rfl, h4⟩ := len_succ h3
  obtain ⟨s5, t5, rfl, h5⟩ := len_succ h4
  obtain ⟨s6, t6, rfl, h6⟩ := len_succ h5
  obtain ⟨s7, t7, rfl, h7⟩ := len_succ h6
  obtain ⟨s8, t8, rfl, h8⟩ := len_succ h7
  obtain ⟨s9, t9, rfl, h9⟩ := len_succ h8
  obtain ⟨s10, t10, rfl, h10⟩ := len_succ h9
  obtain ⟨s11, t11, rfl, h11⟩ := len_succ h10
  obtain ⟨s12, t12, rfl, h12⟩ := len_succ h11
  obtain ⟨s13, t13, rfl, h13⟩ := len_succ h12
  obtain ⟨s14, t14, rfl, h14⟩ := len_succ h13
  obtain ⟨s15, t15, rfl, h15⟩ := len_succ h14
  obtain ⟨s16, t16, rfl, h16⟩ := len_succ h15
  obtain ⟨s17, t17, rfl, h17⟩ := len_succ h16
  obtain ⟨s18, t18, rfl, h18⟩ := len_succ h17
  obtain ⟨s19, t19, rfl, h19⟩ := len_succ h18
  obtain ⟨s20, t20, rfl, h20⟩ := len_succ h19
  obtain ⟨s21, t21, rfl, h21⟩ := len_succ h20
  obtain ⟨s22, t22, rfl, h22⟩ := len_succ h21
  obtain ⟨s23, t23, rfl, h23⟩ := len_succ h22
  obtain rfl : t23 = [] := List.eq_nil_of_length_eq_zero h23
  exact run_build W 44 _ _ (by kernel_rfl)
theorem wpList_build44 {ops : Array Oper} {rest : List Oper} {op : Oper} {a : Act} {Q : Exit → Act → World → Prop} {W : World} (hgd : op.guard = none) (x y : Operand) (ho : op.op = .build 44 #[(0, x), (2, y)]) (v : Int) (f : Fr) (hf : f.wf) (hx : a.eval x = .int .i64 v) (hy : a.eval y = .agg (frC f).toArray)
    (h : wpList Try.prog ops Q rest (a.put op.dst (.agg (enC ⟨v, false, f⟩).toArray)) W) : wpList Try.prog ops Q (op :: rest) a W := by
  refine wpList_plain hgd fun _ hK => ?_
  have hrun := build44_fr v f hf W
  unfold Oper.wp execOp
  simp only [ho, List.map_toArray, List.map_cons, List.map_nil, hx, hy, Sem.run_bind, Sem.run_pure, Result.andThen_ok, hrun]
  exact hK _ _ h

/-- What One answers. -/
def OnPost (b : List Int) (L : Int) (p : Nat) (last : Int) (w : World) (e : Ending) (w' : World) : Prop :=
  (match oneS b L p last with
  | .inl x => e = .returned (.tuple #[.agg (enC en0).toArray, .int .i64 x.1, .int .i64 x.2])
  | .inr x => e = .returned (.tuple #[.agg (enC x.1).toArray, .int .i64 (x.2 : Int), .int .i64 0])) ∧ Below w.heap.size w w'
theorem on_inl {b : List Int} {L : Int} {p : Nat} {last : Int} {w : World} {e : Ending} {w' : World} {x y : Int} (h : oneS b L p last = .inl (x, y)) (he : e = .returned (.tuple #[.agg (enC en0).toArray, .int .i64 x, .int .i64 y])) (hb : Below w.heap.size w w') : OnPost b L p last w e w' := by
  unfold OnPost
  rw [h]
  exact ⟨he, hb⟩
theorem on_inr {b : List Int} {L : Int} {p : Nat} {last : Int} {w : World} {e : Ending} {w' : World} {x : En} {q : Nat} (h : oneS b L p last = .inr (x, q)) (he : e = .returned (.tuple #[.agg (enC x).toArray, .int .i64 (q : Int), .int .i64 0])) (hb : Below w.heap.size w w') : OnPost b L p last w e w' := by
  unfold OnPost
  rw [h]
  exact ⟨he, hb⟩
theorem below_only {B k : Nat} {w W W1 : World} (h : Below B w W) (ho : Only k W W1) (hk : B ≤ k) : Below B w W1 :=
  ⟨ho.os.trans h.os, ho.tape.trans h.tape, ho.output.trans h.output, by rw [ho.size]; exact h.size, fun i hi => (ho.block i (by omega)).trans (h.block i hi)⟩
structure OnSt (w W : World) : Prop where
  b8 : W.heap[w.heap.size]? = some (.cells (enC en0).toArray 44 (0, 0))
  b11 : Rng W ⟨w.heap.size + 1, 0, none⟩ (enC en0)
  below : Below w.heap.size w W
theorem OnSt.drewN {w W : World} (h : OnSt w W) (n : Nat) : OnSt w (W.drewN n) := ⟨h.b8, h.b11, pw_below_drewN h.below n⟩
/-- The frame's box. -/
structure OnF (w W : World) (f : Fr) : Prop where
  st : OnSt w W
  b15 : W.heap[w.heap.size + 2]? = some (.cells (frC f).toArray 42 (0, 0))
theorem OnF.drewN {w W : World} {f : Fr} (h : OnF w W f) (n : Nat) : OnF w (W.drewN n) f := ⟨h.st.drewN n, h.b15⟩
theorem OnF.put {w W : World} {f : Fr} (h : OnF w W f) (o : Nat) (v : Value) (y : Fr) (hy : frC y = (frC f).set o v) : OnF w (W.setCell ⟨w.heap.size + 2, o, none⟩ v) y := by
  have ho := set_only W (w.heap.size + 2) o v
  refine ⟨⟨(ho.block _ (by omega)).trans h.st.b8, ho.rng (by omega) h.st.b11, below_only h.st.below ho (by omega)⟩, ?_⟩
  rw [blk_set h.b15 o v, hy]
  simp
theorem wpList_store_fr {ops : Array Oper} {rest : List Oper} {op : Oper} {a : Act} {Q : Exit → Act → World → Prop} (hgd : op.guard = none) (t : TypeId) (p q : Operand) (hop : op.op = .store t p q)
    {w W : World} {f : Fr} (St : OnF w W f) (hf : f.wf) (o : Nat) (ho : o < 26) (v : Value) (y : Fr) (hp : a.eval p = .pointer (some ⟨w.heap.size + 2, o, none⟩)) (hq : a.eval q = v)
    (hc : v.cells.toList = [v]) (ht : (Try.prog.info? t).map (·.size) = some 1) (h1 : v.oneCell' = true) (hy : frC y = (frC f).set o v)
    (h : ∀ W1, OnF w W1 y → wpList Try.prog ops Q rest (a.put op.dst undef) W1) : wpList Try.prog ops Q (op :: rest) a W := by
  refine wpList_plain hgd fun _ hK => ?_
  have hrun : (Instr.storeAt t (.pointer (some ⟨w.heap.size + 2, o, none⟩)) v).run Try.prog W = .ok () (W.setCell ⟨w.heap.size + 2, o, none⟩ v) :=
    run_store_run t v [v] St.b15 hc ht (by simp [frC_len hf]; omega) (fun q hq => by rw [List.mem_singleton.1 hq]; exact h1)
  unfold Oper.wp execOp
  simp only [hop, hp, hq, Sem.run_bind, Sem.run_pure, Result.andThen_ok, hrun]
  exact hK _ _ (h _ (St.put o v y hy))
theorem slot_put_fr (L H : Int) (t : List Int) (j : Nat) (hj : j < 24) (hl : j < t.length) : frC ⟨L, H, padS (t.take (j + 1))⟩ = (frC ⟨L, H, padS (t.take j)⟩).set (2 + j) (.int .u8 (gB t j)) := by
  rw [show 2 + j = j + 1 + 1 by omega]
  simp only [frC, List.set_cons_succ]
  rw [pad_set t j hj hl]
  simp only [nums, List.map_set]

set_option maxHeartbeats 4000000 in
set_option maxRecDepth 100000 in
theorem one_c (A : Option Addr) (c : Nat) (b : List Int) (L : Int) (p : Nat) (last : Int) (w : World) (h : ByR w A c b) (hL : 0 ≤ L ∧ L ≤ 16) (hpl : p ≤ b.length) : Calls Try.prog 43 #[.slice A b.length c, .int .i64 L, .int .i64 (p : Int), .int .i64 last] w (OnPost b L p last w) := by
  have HB := Lib.hid h
  have hl48 := h.l
  clear h
  go_enter Try.func43, Try.ntmps43
  go_upto_region 2 with (first | ((with_reducible refine gate_dst (N := 8) rfl ?_); refine wpList_alloc_blk (l := []) rfl rfl ⟨fun i hi => absurd hi (Nat.not_lt_zero _), rfl, Below.refl _ _⟩ ?_; intro W1 hW1) | ((with_reducible refine gate_dst (N := 11) rfl ?_); refine wpList_alloc_blk rfl rfl hW1 ?_; intro W2 hW2))
  have HS : Hid (OnSt w W2) := Lib.hid ⟨hW2.bx 0 (by simp), hW2.rng 1 (by simp), hW2.below⟩
  have hsz : W2.heap.size = w.heap.size + 2 := hW2.sz
  clear hW1 hW2
  obtain ⟨R, hR⟩ : ∃ R, R = oneS b L p last := ⟨_, rfl⟩
  have HR := Lib.hid hR.symm
  unfold oneS at hR
  obtain ⟨p1, hp1⟩ : ∃ p1 : Nat, p1 = p + 1 := ⟨_, rfl⟩
  have e1 : (p : Int) + 1 = (p1 : Int) := by omega
  have hb1 : p1 ≤ b.length + 1 := by omega
  by_cases c1 : b.length < p + 2
  · have d1 : decide ((b.length : Int) ≤ (p1 : Int)) = true := decide_eq_true (by omega)
    have d1n : decide (b.length ≤ p1) = true := decide_eq_true (by omega)
    rw [if_pos c1] at hR
    have HV := Lib.hid (HR.out.trans hR)
    clear hR c1 hp1
    go_wp2_with (first | ((with_reducible refine gate_dst (N := 23) rfl ?_); refine wpList_load_any rfl 44 (.tmp 11) rfl ⟨w.heap.size + 1, 0, none⟩ rfl (enC en0) _ (HS.out).b11 Try.underlying44 rfl (by rw [enC_len fr0_wf]; kernel_rfl) ?_) | ((with_reducible refine gate_store (t := 44) (p := 8) rfl ?_); refine wpList_store_box rfl (.tmp 8) (.tmp 23) rfl w.heap.size (HS.out).b8 fr0_wf en0 fr0_wf rfl rfl ?_; intro W9 hb9 ho9))
    refine bodyPost_ret (ret_box3 rfl _ w.heap.size hb9 fr0_wf rfl) rfl ?_
    exact on_inl HV.out rfl (below_only (HS.out).below ho9 (Nat.le_refl _))
  · have d1 : decide ((b.length : Int) ≤ (p1 : Int)) = false := decide_eq_false (by omega)
    have d1n : decide (b.length ≤ p1) = false := decide_eq_false (by omega)
    rw [if_neg c1] at hR
    have HP1 := Lib.hid hp1
    obtain ⟨ad, rfl, hx0⟩ := (HB.out.next HS.out.below).cell p (by omega)
    obtain ⟨ad', ead, hx1⟩ := (HB.out.next HS.out.below).cell p1 (by omega)
    obtain rfl : ad = ad' := by injection ead
    have r0 := gB_range b HB.out.y p
    have r1 := gB_range b HB.out.y (p + 1)
    have g0 : decide ((p : Int) < (b.length : Int)) = true := decide_eq_true (by omega)
    have g1 : decide ((p1 : Int) < (b.length : Int)) = true := decide_eq_true (by omega)
    rw [hp1] at hx1
    obtain ⟨x0, hxx0⟩ : ∃ x, x = gB b p := ⟨_, rfl⟩
    obtain ⟨x1, hxx1⟩ : ∃ x, x = gB b (p + 1) := ⟨_, rfl⟩
    rw [← hxx0] at hx0 r0 hR
    rw [← hxx1] at hx1 r1 hR
    rw [← hp1] at hx1
    obtain ⟨v, hv⟩ : ∃ v, v = x0 * 256 + x1 := ⟨_, rfl⟩
    rw [← hv] at hR
    have ev : 256 * x0 + x1 = v := by omega
    obtain ⟨z, hz⟩ : ∃ z, z = risesS last v := ⟨_, rfl⟩
    rw [← hz] at hR
    have HA := Lib.hid (fun W => after_c v last W)
    rw [← hz] at HA
    have HV := Lib.hid hR
    clear hR hxx0 hxx1 hv hz ead hp1
    go_upto_region 4 with fail
    go_quiet (fail)
    have HS2 := Lib.hid (HS.out.drewN nq)
    have hsz2 : (W2.drewN nq).heap.size = w.heap.size + 2 := hsz
    generalize W2.drewN nq = W3 at HS2 hsz2 ⊢
    clear hx0 hx1 r0 r1
    clear g0 g1
    go_upto_region 6 with (first | (go_at_call 38; refine (HA.out _).mono ?_; rintro e w1 ⟨rfl, ⟨⟨n1, rfl⟩⟩⟩))
    have HS := Lib.hid (HS2.out.drewN n1)
    have hsz : (W3.drewN n1).heap.size = w.heap.size + 2 := hsz2
    generalize W3.drewN n1 = W4 at HS hsz ⊢
    clear HS2 hsz2 HA ev
    by_cases c2 : z ≠ 0
    · have d2 : (z != 0) = true := by simpa using c2
      have hv := HV.out
      rw [if_pos c2] at hv
      have HV1 := Lib.hid (HR.out.trans hv)
      clear hv c2
      go_wp2_with (first | ((with_reducible refine gate_dst (N := 44) rfl ?_); refine wpList_load_any rfl 44 (.tmp 11) rfl ⟨w.heap.size + 1, 0, none⟩ rfl (enC en0) _ (HS.out).b11 Try.underlying44 rfl (by rw [enC_len fr0_wf]; kernel_rfl) ?_) | ((with_reducible refine gate_store (t := 44) (p := 8) rfl ?_); refine wpList_store_box rfl (.tmp 8) (.tmp 44) rfl w.heap.size (HS.out).b8 fr0_wf en0 fr0_wf rfl rfl ?_; intro W9 hb9 ho9))
      refine bodyPost_ret (ret_box3 rfl _ w.heap.size hb9 fr0_wf rfl) rfl ?_
      exact on_inl HV1.out rfl (below_only (HS.out).below ho9 (Nat.le_refl _))
    · have d2 : (z != 0) = false := by simpa using c2
      have hv := HV.out
      rw [if_neg c2] at hv
      have HV := Lib.hid hv
      clear hv c2
      obtain ⟨p2, hp2⟩ : ∃ p2 : Nat, p2 = p + 2 := ⟨_, rfl⟩
      have e2 : (p : Int) + 2 = (p2 : Int) := by omega
      have HP2 := Lib.hid hp2
      have hb2 : p2 ≤ b.length := by omega
      by_cases c3 : p2 = b.length
      · have d3 : decide ((b.length : Int) ≤ (p2 : Int)) = true := decide_eq_true (by omega)
        have d3n : decide (b.length ≤ p2) = true := decide_eq_true (by omega)
        have hv := HV.out
        rw [if_pos (by omega)] at hv
        have HV1 := Lib.hid (HR.out.trans hv)
        clear c3 hp2 hv
        go_wp2_with (first | ((with_reducible refine gate_dst (N := 52) rfl ?_); refine wpList_load_any rfl 44 (.tmp 11) rfl ⟨w.heap.size + 1, 0, none⟩ rfl (enC en0) _ (HS.out).b11 Try.underlying44 rfl (by rw [enC_len fr0_wf]; kernel_rfl) ?_) | ((with_reducible refine gate_store (t := 44) (p := 8) rfl ?_); refine wpList_store_box rfl (.tmp 8) (.tmp 52) rfl w.heap.size (HS.out).b8 fr0_wf en0 fr0_wf rfl rfl ?_; intro W9 hb9 ho9))
        refine bodyPost_ret (ret_box3 rfl _ w.heap.size hb9 fr0_wf rfl) rfl ?_
        exact on_inl HV1.out rfl (below_only (HS.out).below ho9 (Nat.le_refl _))
      · have d3 : decide ((b.length : Int) ≤ (p2 : Int)) = false := decide_eq_false (by omega)
        have d3n : decide (b.length ≤ p2) = false := decide_eq_false (by omega)
        have hv := HV.out
        rw [if_neg (by omega), ← hp2] at hv
        have d4 : decide ((p2 : Int) < (b.length : Int)) = true := decide_eq_true (by omega)
        obtain ⟨ad', ead, hx2⟩ := (HB.out.next HS.out.below).cell p2 (by omega)
        obtain rfl : ad = ad' := by injection ead
        have r2 := gB_range b HB.out.y p2
        obtain ⟨x2, hxx2⟩ : ∃ x2, x2 = gB b p2 := ⟨_, rfl⟩
        rw [← hxx2] at hv hx2 r2
        have HV := Lib.hid hv
        clear hv hxx2 hp2 ead
        by_cases c4 : 1 < x2
        · have d5 : decide (1 < x2) = true := decide_eq_true c4
          have hv := HV.out
          rw [if_pos c4, e2] at hv
          have HV1 := Lib.hid (HR.out.trans hv)
          clear c4 hv
          go_wp2_with (first | ((with_reducible refine gate_dst (N := 61) rfl ?_); refine wpList_load_any rfl 44 (.tmp 11) rfl ⟨w.heap.size + 1, 0, none⟩ rfl (enC en0) _ (HS.out).b11 Try.underlying44 rfl (by rw [enC_len fr0_wf]; kernel_rfl) ?_) | ((with_reducible refine gate_store (t := 44) (p := 8) rfl ?_); refine wpList_store_box rfl (.tmp 8) (.tmp 61) rfl w.heap.size (HS.out).b8 fr0_wf en0 fr0_wf rfl rfl ?_; intro W9 hb9 ho9))
          refine bodyPost_ret (ret_box3 rfl _ w.heap.size hb9 fr0_wf rfl) rfl ?_
          exact on_inl HV1.out rfl (below_only (HS.out).below ho9 (Nat.le_refl _))
        · have d5 : decide (1 < x2) = false := decide_eq_false c4
          have hv := HV.out
          rw [if_neg c4] at hv
          have HV := Lib.hid hv
          clear hv c4
          obtain ⟨p3, hp3⟩ : ∃ p3 : Nat, p3 = p + 3 := ⟨_, rfl⟩
          have e3 : (p : Int) + 3 = (p3 : Int) := by omega
          have HP3 := Lib.hid hp3
          have hb3 : p3 ≤ b.length := by have := HP2.out; omega
          by_cases c5 : x2 = 0
          · have d6 : (x2 == 0) = true := by simpa using c5
            have hv := HV.out
            rw [if_pos c5, ← hp3] at hv
            have HV1 := Lib.hid (HR.out.trans hv)
            clear c5 hv hp3
            go_wp2_with (first | ((with_reducible refine gate_store (t := 44) (p := 8) rfl ?_); refine wpList_store_box rfl (.tmp 8) (.tmp 71) rfl w.heap.size HS.out.b8 fr0_wf ⟨v, true, fr0⟩ fr0_wf rfl rfl ?_; intro W9 hb9 ho9))
            refine bodyPost_ret (ret_box3 (x := ⟨v, true, fr0⟩) rfl _ w.heap.size hb9 fr0_wf rfl) rfl ?_
            exact on_inr HV1.out rfl (below_only HS.out.below ho9 (Nat.le_refl _))
          · have d6 : (x2 == 0) = false := by simpa using c5
            have hv := HV.out
            rw [if_neg c5] at hv
            have HV := Lib.hid hv
            clear hv c5
            by_cases c6 : p3 = b.length
            · have d7 : decide ((b.length : Int) ≤ (p3 : Int)) = true := decide_eq_true (by omega)
              have d7n : decide (b.length ≤ p3) = true := decide_eq_true (by omega)
              have hv := HV.out
              rw [if_pos (by omega)] at hv
              have HV1 := Lib.hid (HR.out.trans hv)
              clear c6 hp3 hv
              go_wp2_with (first | ((with_reducible refine gate_dst (N := 79) rfl ?_); refine wpList_load_any rfl 44 (.tmp 11) rfl ⟨w.heap.size + 1, 0, none⟩ rfl (enC en0) _ (HS.out).b11 Try.underlying44 rfl (by rw [enC_len fr0_wf]; kernel_rfl) ?_) | ((with_reducible refine gate_store (t := 44) (p := 8) rfl ?_); refine wpList_store_box rfl (.tmp 8) (.tmp 79) rfl w.heap.size (HS.out).b8 fr0_wf en0 fr0_wf rfl rfl ?_; intro W9 hb9 ho9))
              refine bodyPost_ret (ret_box3 rfl _ w.heap.size hb9 fr0_wf rfl) rfl ?_
              exact on_inl HV1.out rfl (below_only (HS.out).below ho9 (Nat.le_refl _))
            · have d7 : decide ((b.length : Int) ≤ (p3 : Int)) = false := decide_eq_false (by omega)
              have d7n : decide (b.length ≤ p3) = false := decide_eq_false (by omega)
              have hv := HV.out
              rw [if_neg (by omega), ← hp3, e3] at hv
              have d8 : decide ((p3 : Int) < (b.length : Int)) = true := decide_eq_true (by omega)
              obtain ⟨ad', ead, hx3⟩ := (HB.out.next HS.out.below).cell p3 (by omega)
              obtain rfl : ad = ad' := by injection ead
              have r3 := gB_range b HB.out.y p3
              obtain ⟨x3, hxx3⟩ : ∃ x3, x3 = gB b p3 := ⟨_, rfl⟩
              rw [← hxx3] at hv r3 hx3
              obtain ⟨m, hm⟩ : ∃ m : Nat, m = (L + x3).toNat := ⟨_, rfl⟩
              have e4 : L + x3 = (m : Int) := by omega
              rw [← hm, e4] at hv
              obtain ⟨dl, hdl⟩ : ∃ dl : Int, dl = 24 - L := ⟨_, rfl⟩
              have e8 : 24 - L = dl := hdl.symm
              by_cases c7 : 24 < m
              · have d10 : decide (dl < x3) = true := decide_eq_true (by omega)
                rw [if_pos (by omega)] at hv
                have HV1 := Lib.hid (HR.out.trans hv)
                clear c7 hv hxx3 hm hp3 ead e4 hdl
                go_wp2_with (first | ((with_reducible refine gate_dst (N := 92) rfl ?_); refine wpList_load_any rfl 44 (.tmp 11) rfl ⟨w.heap.size + 1, 0, none⟩ rfl (enC en0) _ (HS.out).b11 Try.underlying44 rfl (by rw [enC_len fr0_wf]; kernel_rfl) ?_) | ((with_reducible refine gate_store (t := 44) (p := 8) rfl ?_); refine wpList_store_box rfl (.tmp 8) (.tmp 92) rfl w.heap.size (HS.out).b8 fr0_wf en0 fr0_wf rfl rfl ?_; intro W9 hb9 ho9))
                refine bodyPost_ret (ret_box3 rfl _ w.heap.size hb9 fr0_wf rfl) rfl ?_
                exact on_inl HV1.out rfl (below_only (HS.out).below ho9 (Nat.le_refl _))
              · have d10 : decide (dl < x3) = false := decide_eq_false (by omega)
                rw [if_neg (by omega)] at hv
                obtain ⟨p4, hp4⟩ : ∃ p4 : Nat, p4 = p + 4 := ⟨_, rfl⟩
                have e5 : (p : Int) + 4 = (p4 : Int) := by omega
                have hb4 : p4 ≤ b.length := by omega
                rw [← hp4] at hv
                have HV := Lib.hid hv
                have hm24 : m ≤ 24 := by omega
                obtain ⟨pl, hpl4⟩ : ∃ pl : Nat, pl = p4 + L.toNat := ⟨_, rfl⟩
                have e6 : (p4 : Int) + L = (pl : Int) := by omega
                have e7 : (pl : Int) + x3 = ((p4 + m : Nat) : Int) := by omega
                obtain ⟨qe, hqe⟩ : ∃ qe : Nat, qe = p4 + m := ⟨_, rfl⟩
                rw [← hqe] at e7 hv
                have HQE := Lib.hid hqe
                have hbl : pl ≤ 140737488501300 ∧ qe ≤ 140737488501300 := by omega
                clear hv c7 hp4 hxx3 hm hp3 ead hdl hpl4 hqe
                go_upto_region 20 with (first | ((with_reducible refine gate_store (t := 42) (p := 15) rfl ?_); refine wpList_store_new rfl 42 (.tmp 15) (.tmp 97) rfl W4 _ (frC ⟨L, x3, padS []⟩).toArray (w.heap.size + 2) hsz rfl rfl (by kernel_rfl) (by rfl) (all_oneCell_toArray (frC_one _)) ?_))
                have HF : OnF w (W4.alloc (.cells (frC ⟨L, x3, padS []⟩).toArray 42)) ⟨L, x3, padS []⟩ :=
                  ⟨⟨blk_alloc HS.out.b8 _, HS.out.b11.below (below_alloc (Below.refl _ _) _), below_alloc HS.out.below _⟩, by rw [← hsz]; exact blk_new W4 _⟩
                generalize W4.alloc (.cells (frC ⟨L, x3, padS []⟩).toArray 42) = W5 at HF ⊢
                have HF5 := Lib.hid HF
                clear HF hx2 hx3 HS hsz
                go_wp2
                go_loopg [16] (m + 1) (fun k v16 W => ∃ j : Nat, v16 = .int .i64 (j : Int) ∧ j + k = m + 1 ∧ j ≤ m ∧ p4 + j ≤ b.length ∧ OnF w W ⟨L, x3, padS ((b.drop p4).take j)⟩ ∧ Hid (slotsS b m p4 = slotsS b (m - j) (p4 + j)))
                case atStart => exact ⟨0, rfl, by omega, Nat.zero_le _, hb4, HF5.out, Lib.hid rfl⟩
                case round =>
                  obtain ⟨j, rfl, hj, hjm, hql, St, HJ⟩ := hrel
                  have HSt := Lib.hid St
                  have HW : Hid (⟨L, x3, padS ((b.drop p4).take j)⟩ : Fr).wf := Lib.hid (pad_wf (by rw [List.length_take]; omega) (fun x hx => HB.out.y x (List.mem_of_mem_drop (List.mem_of_mem_take hx))))
                  obtain ⟨q, hq⟩ : ∃ q : Nat, q = p4 + j := ⟨_, rfl⟩
                  have eq : (p4 : Int) + (j : Int) = (q : Int) := by omega
                  have HQ := Lib.hid hq
                  rw [← hq] at hql HJ
                  by_cases hjl : j < m
                  · have g1 : decide ((j : Int) < (m : Int)) = true := decide_eq_true (by exact_mod_cast hjl)
                    have g1n : decide (j < m) = true := decide_eq_true hjl
                    have hs := HJ.out
                    rw [show m - j = (m - j - 1) + 1 by omega, slotsS] at hs
                    by_cases c8 : q = b.length
                    · have g2 : decide ((b.length : Int) ≤ (q : Int)) = true := decide_eq_true (by omega)
                      have g2n : decide (b.length ≤ q) = true := decide_eq_true (by omega)
                      have HV1 := Lib.hid (show oneS b L p last = .inl ((b.length : Int), 2) by
                        rw [if_pos c8] at hs
                        have hv := HV.out
                        rw [hs] at hv
                        rw [HR.out, hv, c8])
                      clear c8 hs St hq
                      go_wp2_with (first | ((with_reducible refine gate_dst (N := 113) rfl ?_); refine wpList_load_any rfl 44 (.tmp 11) rfl ⟨w.heap.size + 1, 0, none⟩ rfl (enC en0) _ (HSt.out.st).b11 Try.underlying44 rfl (by rw [enC_len fr0_wf]; kernel_rfl) ?_) | ((with_reducible refine gate_store (t := 44) (p := 8) rfl ?_); refine wpList_store_box rfl (.tmp 8) (.tmp 113) rfl w.heap.size (HSt.out.st).b8 fr0_wf en0 fr0_wf rfl rfl ?_; intro W9 hb9 ho9))
                      refine bodyPost_ret (ret_box3 rfl _ w.heap.size hb9 fr0_wf rfl) rfl ?_
                      exact on_inl HV1.out rfl (below_only (HSt.out.st).below ho9 (Nat.le_refl _))
                    · have g2 : decide ((b.length : Int) ≤ (q : Int)) = false := decide_eq_false (by omega)
                      have g2n : decide (b.length ≤ q) = false := decide_eq_false (by omega)
                      rw [if_neg c8] at hs
                      have g3 : decide ((q : Int) < (b.length : Int)) = true := decide_eq_true (by omega)
                      obtain ⟨ad', ead, hx⟩ := (HB.out.next St.st.below).cell q (by omega)
                      obtain rfl : ad = ad' := by injection ead
                      have rq := gB_range b HB.out.y q
                      have hE := slot_put_fr L x3 (b.drop p4) j (by omega) (by rw [List.length_drop]; omega)
                      rw [show gB (b.drop p4) j = gB b q by rw [hq]; unfold gB; simp [List.getD_eq_getElem?_getD, List.getElem?_drop]] at hE
                      obtain ⟨xq, hxq⟩ : ∃ xq, xq = gB b q := ⟨_, rfl⟩
                      rw [← hxq] at hs hx rq hE
                      have HE := Lib.hid hE
                      have HKn := Lib.hid (fun W => isCode_c xq W)
                      obtain ⟨kb, hkb⟩ : ∃ kb, kb = knownB xq := ⟨_, rfl⟩
                      rw [← hkb] at hs HKn
                      have HS8 := Lib.hid hs
                      have hq1 : q + 1 ≤ b.length := by omega
                      clear hkb hxq c8 hs hE ead St hq
                      cases kb with
                      | false =>
                        have HV1 := Lib.hid (show oneS b L p last = .inl ((q : Int), 62) by
                          have hs := HS8.out
                          rw [if_neg (by decide)] at hs
                          have hv := HV.out
                          rw [hs] at hv
                          exact HR.out.trans hv)
                        go_wp2_with (first | (go_at_call 46; refine (HKn.out _).mono ?_; rintro e w1 ⟨rfl, ⟨⟨n9, rfl⟩⟩⟩) | ((with_reducible refine gate_dst (N := 122) rfl ?_); refine wpList_load_any rfl 44 (.tmp 11) rfl ⟨w.heap.size + 1, 0, none⟩ rfl (enC en0) _ ((HSt.out.drewN _).st).b11 Try.underlying44 rfl (by rw [enC_len fr0_wf]; kernel_rfl) ?_) | ((with_reducible refine gate_store (t := 44) (p := 8) rfl ?_); refine wpList_store_box rfl (.tmp 8) (.tmp 122) rfl w.heap.size ((HSt.out.drewN _).st).b8 fr0_wf en0 fr0_wf rfl rfl ?_; intro W9 hb9 ho9))
                        refine bodyPost_ret (ret_box3 rfl _ w.heap.size hb9 fr0_wf rfl) rfl ?_
                        exact on_inl HV1.out rfl (below_only ((HSt.out.drewN _).st).below ho9 (Nat.le_refl _))
                      | true =>
                        have hix := ixO (w.heap.size + 2) 2 j (by omega)
                        obtain ⟨k, rfl⟩ : ∃ k, gk = k + 1 := ⟨gk - 1, by omega⟩
                        go_wp2_with (first | (go_at_call 46; refine (HKn.out _).mono ?_; rintro e w1 ⟨rfl, ⟨⟨n9, rfl⟩⟩⟩) | ((with_reducible refine gate_store (t := 39) (p := 130) rfl ?_); refine wpList_store_fr rfl 39 (.tmp 130) (.tmp 128) rfl (HSt.out.drewN _) HW.out (2 + j) (by omega) (.int .u8 xq) ⟨L, x3, padS ((b.drop p4).take (j + 1))⟩ rfl rfl rfl (by kernel_rfl) rfl HE.out ?_; intro W6 hW6))
                        go_roundg k
                        case measure => omega
                        case rel => exact ⟨j + 1, by simp, by omega, by omega, by have := HQ.out; omega, hW6, Lib.hid (by
                          have hs := HS8.out
                          rw [if_pos trivial] at hs
                          rw [hs, HQ.out]
                          congr 1)⟩
                  · have g1 : decide ((j : Int) < (m : Int)) = false := decide_eq_false (by omega)
                    have g1n : decide (j < m) = false := decide_eq_false hjl
                    have HV1 := Lib.hid (show oneS b L p last = .inr (⟨v, false, ⟨L, x3, padS ((b.drop p4).take j)⟩⟩, qe) by
                      have hjm' : j = m := by omega
                      have hs := HJ.out
                      rw [hjm', Nat.sub_self, slotsS] at hs
                      have hv := HV.out
                      rw [hs] at hv
                      rw [HR.out, hv, hjm', HQE.out])
                    clear St hq
                    go_wp2_with (first | ((with_reducible refine gate_dst (N := 132) rfl ?_); refine wpList_load_any rfl 42 (.tmp 15) rfl ⟨w.heap.size + 2, 0, none⟩ rfl (frC ⟨L, x3, padS ((b.drop p4).take j)⟩) _ (rng_of (range_blk HSt.out.b15)) Try.underlying42 rfl (by rw [frC_len HW.out]; kernel_rfl) ?_) | ((with_reducible refine gate_dst (N := 133) rfl ?_); refine wpList_build44 rfl (.tmp 131) (.tmp 132) rfl v ⟨L, x3, padS ((b.drop p4).take j)⟩ HW.out rfl rfl ?_) | ((with_reducible refine gate_store (t := 44) (p := 8) rfl ?_); refine wpList_store_box rfl (.tmp 8) (.tmp 133) rfl w.heap.size HSt.out.st.b8 fr0_wf ⟨v, false, ⟨L, x3, padS ((b.drop p4).take j)⟩⟩ HW.out rfl rfl ?_; intro W9 hb9 ho9))
                    refine bodyPost_ret (ret_box3 (x := ⟨v, false, ⟨L, x3, padS ((b.drop p4).take j)⟩⟩) rfl _ w.heap.size hb9 HW.out rfl) rfl ?_
                    exact on_inr HV1.out rfl (below_only HSt.out.st.below ho9 (Nat.le_refl _))
end Go.Proofs.Ytfbdnfokoakfaaa.Ct
namespace Go.Proofs.Ytfbdnfokoakfaaa.Ct
open Go.RowKit Go.Proofs.YtfbdnfokoakfaaaW.PrintWords Go.Proofs.YtfbdnfokoakfaaaW.PrintLast Go.Proofs.YtfbdnfokoakfaaaW.PrintMore
set_option linter.unusedVariables false
set_option linter.unusedSimpArgs false

/-- A slice of one entry. -/
theorem fill_one44 (x : En) (hx : x.fr.wf) : Instr.fill (fun i => some (i * 28, 28)) ((Array.range (1 * 28)).map ((enV en0).cells[· % (enV en0).cells.size]!)) [(0, .agg (enC x).toArray)] = some (enC x).toArray := by
  obtain ⟨v, d, l, hh, s⟩ := x
  have h : s.length = 23 + 1 := hx.1
  clear hx
  obtain ⟨s0, t0, rfl, h0⟩ := len_succ h
  obtain ⟨s1, t1, rfl, h1⟩ := len_succ h0
  obtain ⟨s2, t2, rfl, h2⟩ := len_succ h1
  obtain ⟨s3, t3, rfl, h3⟩ := len_succ h2
  obtain ⟨s4, t4, rfl, h4⟩ := len_succ h3
  obtain ⟨s5, t5, rfl, h5⟩ := len_succ h4
  obtain ⟨s6, t6, rfl, h6⟩ := len_succ h5
  obtain ⟨s7, t7, rfl, h7⟩ := len_succ h6
  obtain ⟨s8, t8, rfl, h8⟩ := len_succ h7
  obtain ⟨s9, t9, rfl, h9⟩ := len_succ h8
  obtain ⟨s10, t10, rfl, h10⟩ := len_succ h9
  obtain ⟨s11, t11, rfl, h11⟩ := len_succ h10
  obtain ⟨s12, t12, rfl, h12⟩ := len_succ h11
  obtain ⟨s13, t13, rfl, h13⟩ := len_succ h12
  obtain ⟨s14, t14, rfl, h14⟩ := len_succ h13
  obtain ⟨s15, t15, rfl, h15⟩ := len_succ h14
  obtain ⟨s16, t16, rfl, h16⟩ := len_succ h15
  obtain ⟨s17, t17, rfl, h17⟩ := len_succ h16
  obtain ⟨s18, t18, rfl, h18⟩ := len_succ h17
  obtain ⟨s19, t19, rfl, h19⟩ := len_succ h18
  obtain ⟨s20, t20, rfl, h20⟩ := len_succ h19
  obtain ⟨s21, t21, rfl, h21⟩ := len_succ h20
  obtain ⟨s22, t22, rfl, h22⟩ := len_succ h21
  obtain ⟨s23, t23, rfl, h23⟩ := len_succ h22
  obtain rfl : t23 = [] := List.eq_nil_of_length_eq_zero h23
  show Instr.fill _ _ _ = _
  kernel_rfl
theorem bs44 (x : En) (hx : x.fr.wf) (W : World) : (Instr.buildSlice 22 1 #[(0, .agg (enC x).toArray)]).run Try.prog W = .ok (.slice (some ⟨W.heap.size, 0, none⟩) 1 1) (W.alloc (.cells (enC x).toArray 44)) := by
  obtain ⟨ie, hie, hz⟩ := Option.map_eq_some_iff.1 info44s
  simp only [Prod.mk.injEq] at hz
  refine run_buildSlice W 22 44 1 _ _ ie (enV en0) Try.underlying22 hie hz.1 (by rw [hz.2]; decide) (by rw [hz.2]; decide) ?_
  rw [hz.2]
  exact fill_one44 x hx
theorem wpList_bs44 {ops : Array Oper} {rest : List Oper} {op : Oper} {a : Act} {Q : Exit → Act → World → Prop} {W : World} (hgd : op.guard = none) (y : Operand) (ho : op.op = .buildSlice 22 1 #[(0, y)]) (x : En) (hx : x.fr.wf) (hy : a.eval y = .agg (enC x).toArray)
    (h : ∀ W1, W1.heap[W.heap.size]? = some (.cells (enC x).toArray 44 (0, 0)) → Below W.heap.size W W1 → W1.heap.size = W.heap.size + 1 → wpList Try.prog ops Q rest (a.put op.dst (.slice (some ⟨W.heap.size, 0, none⟩) 1 1)) W1) : wpList Try.prog ops Q (op :: rest) a W := by
  refine wpList_plain hgd fun _ hK => ?_
  have hrun := bs44 x hx W
  unfold Oper.wp execOp
  simp only [ho, List.map_toArray, List.map_cons, List.map_nil, hy, Sem.run_bind, Sem.run_pure, Result.andThen_ok, hrun]
  exact hK _ _ (h _ (blk_new W _) (below_alloc (Below.refl _ _) _) (World.size_alloc _ _))
theorem C_one44 {W : World} {g : Nat} {t : TypeId} {x : En} (h : W.heap[g]? = some (.cells (enC x).toArray t (0, 0))) (hx : x.fr.wf) : Kd.C kEn W (some ⟨g, 0, none⟩) 1 [x] := by
  refine ⟨rfl, by omega, fun _ => ⟨_, rfl, fun j p hj => ?_⟩⟩
  match j, hj with
  | 0, hj =>
    cases hj
    refine ⟨enC x, enC_len hx, ⟨rfl, hx⟩, fun i u hu => ?_⟩
    have h1 := blk_cell h i
    have e : (⟨g, 0, none⟩ : Addr).add (0 * kEn.sz + i) = ⟨g, i, none⟩ := by
      rw [Addr.add_mid]; simp
    rw [e, h1]
    simpa using hu
  | j + 1, hj => cases hj
theorem C_one_i64 {W : World} {g : Nat} {t : TypeId} {x : Int} (h : W.heap[g]? = some (.cells #[.int .i64 x] t (0, 0))) : Kd.C (Kd.int .i64) W (some ⟨g, 0, none⟩) 1 [x] := by
  refine ⟨rfl, by omega, fun _ => ⟨_, rfl, fun j p hj => ?_⟩⟩
  match j, hj with
  | 0, hj =>
    cases hj
    refine ⟨[.int .i64 x], rfl, rfl, fun i u hu => ?_⟩
    match i, hu with
    | 0, hu => cases hu; exact blk_cell h 0
    | i + 1, hu => cases hu
  | j + 1, hj => cases hj
/-- Two rows of the call's own, of elements of two types: the one stays when the other is written. -/
theorem R_apart {α β : Type} {d : Kd α} {d' : Kd β} {e e' : Nat} {W w1 : World} {base base' : Nat} {v v' : Value} {xs : List α} {ys : List β} (h : d.R e W base (fun _ => True) v xs) (h' : d'.R e' W base' (fun _ => True) v' ys) (hE : e ∉ e' :: d'.E) (hg : W.grownBy w1 v.ownBlock) : d'.R e' w1 base' (fun _ => True) v' ys := by
  refine Kd.R_mono (Kd.R_grown (Kd.R_bound h') hg (fun k hk hv => ?_)) (fun _ _ => trivial)
  obtain ⟨_, _, _, q, hq, cells, hc⟩ := hk
  obtain ⟨inner, ho⟩ := Kd.R_own h
  obtain ⟨cells', hc'⟩ := own_typed ho k hv.symm
  rw [hc] at hc'
  injection hc' with h1
  injection h1 with _ h2
  exact hE (h2 ▸ hq)
theorem R_lt {α : Type} {d : Kd α} {e : Nat} {W : World} {base : Nat} {v : Value} {xs : List α} (h : d.R e W base (fun _ => True) v xs) : ∀ k, v.ownBlock = some k → base ≤ k ∧ k < W.heap.size := fun k hk => by
  have := (Kd.R_bound h).1 k hk
  exact ⟨this.2.1, this.2.2.1⟩

def toldF (b : List Int) (L : Int) : Nat → Nat → Int → List En × List Int × (Int × Int)
  | 0, p, _ => ([], [], if p < b.length then ((p : Int), 3) else (0, 0))
  | m + 1, p, last => match oneS b L p last with
    | .inl x => ([], [], x)
    | .inr x => (x.1 :: (toldF b L m x.2 x.1.at_).1, (x.2 : Int) :: (toldF b L m x.2 x.1.at_).2.1, (toldF b L m x.2 x.1.at_).2.2)
def toldS (b : List Int) : List En × List Int × (Int × Int) :=
  match headS b with
  | .inl x => ([], [], (x.1, (x.2 : Int)))
  | .inr x => toldF b x.1 x.2 6 (-1)
def headT (b : List Int) : Int × Int × Int × Int :=
  match headS b with
  | .inl x => (0, 0, x.1, (x.2 : Int))
  | .inr x => (x.1, (x.2 : Int), 0, 0)
theorem rd_g (b : List Int) (i : Nat) : rd b (i : Int) = gB b i := by unfold rd gB; simp
theorem head_v (b : List Int) (hy : ∀ x, x ∈ b → 0 ≤ x ∧ x ≤ 255) (hl : b.length ≤ 140737488500000) : PCertReads.provisoref06_Head.f 4 b = some (headT b) := by
  have r0 := gB_range b hy 3
  have r1 := gB_range b hy 4
  have r2 := gB_range b hy 5
  have g0 : rd b 0 = gB b 0 := rd_g b 0
  have g1 : rd b 1 = gB b 1 := rd_g b 1
  have g2 : rd b 2 = gB b 2 := rd_g b 2
  have g3 : rd b 3 = gB b 3 := rd_g b 3
  have g4 : rd b 4 = gB b 4 := rd_g b 4
  have g5 : rd b 5 = gB b 5 := rd_g b 5
  have w1 : wrap64 (0 + 1) = 1 := by unfold wrap64; omega
  have w2 : wrap64 (1 + 1) = 2 := by unfold wrap64; omega
  have w3 : wrap64 (2 + 1) = 3 := by unfold wrap64; omega
  have k0 : rd ([112, 118, 1] : List Int) 0 = 112 := rfl
  have k1 : rd ([112, 118, 1] : List Int) 1 = 118 := rfl
  have k2 : rd ([112, 118, 1] : List Int) 2 = 1 := rfl
  have e3 : wrap64 (gB b 3) = gB b 3 := by unfold wrap64; omega
  have e5 : wrap64 (wrap64 (256 * wrap64 (gB b 4)) + wrap64 (gB b 5)) = gB b 4 * 256 + gB b 5 := by unfold wrap64; omega
  unfold PCertReads.provisoref06_Head.f
  unfold headT headS
  have n0 : ((0 : Int) < 3) = True := by simp
  have n1 : ((1 : Int) < 3) = True := by simp
  have n2 : ((2 : Int) < 3) = True := by simp
  rw [PCertReads.provisoref06_Head.l0, if_pos (by omega)]
  by_cases c0 : b.length = 0
  · rw [if_pos (by omega), if_pos c0]
    simp [c0]
  rw [if_neg (by omega), if_pos (by omega), if_pos (by omega), if_pos (by decide), if_neg c0, g0, k0, w1]
  by_cases d0 : gB b 0 = 112
  · rw [if_pos d0, if_neg (by simpa using d0), PCertReads.provisoref06_Head.l0, if_pos (by omega)]
    by_cases c1 : b.length = 1
    · rw [if_pos (by omega), if_pos c1]
      simp [c1]
    rw [if_neg (by omega), if_pos (by omega), if_pos (by omega), if_pos (by decide), if_neg c1, g1, k1, w2]
    by_cases d1 : gB b 1 = 118
    · rw [if_pos d1, if_neg (by simpa using d1), PCertReads.provisoref06_Head.l0, if_pos (by omega)]
      by_cases c2 : b.length = 2
      · rw [if_pos (by omega), if_pos c2]
        simp [c2]
      rw [if_neg (by omega), if_pos (by omega), if_pos (by omega), if_pos (by decide), if_neg c2, g2, k2, w3]
      by_cases d2 : gB b 2 = 1
      · rw [if_pos d2, if_neg (by simpa using d2), PCertReads.provisoref06_Head.l0, if_neg (by omega)]
        by_cases c3 : b.length < 6
        · rw [if_pos (by omega), if_pos c3]
        rw [if_neg (by omega), if_neg c3, if_pos (by omega), g3, g4, g5, e3, e5]
        by_cases c4 : 16 < gB b 3
        · rw [if_pos c4, if_pos c4]
        rw [if_neg c4, if_neg c4, if_pos (by omega), if_pos (by omega)]
        by_cases c5 : 4096 < gB b 4 * 256 + gB b 5
        · rw [if_pos c5, if_pos c5]
        rw [if_neg c5, if_neg c5]
        show some _ = some (gB b 3, (((gB b 4 * 256 + gB b 5).toNat : Nat) : Int), 0, 0)
        rw [Int.toNat_of_nonneg (by omega)]
      · rw [if_neg d2, if_pos (by simpa using d2)]
    · rw [if_neg d1, if_pos (by simpa using d1)]
  · rw [if_neg d0, if_pos (by simpa using d0)]
theorem head_c (A : Option Addr) (c : Nat) (b : List Int) (w : World) (h : ByR w A c b) : Calls Try.prog 27 #[.slice A b.length c] w fun e w' => e = .returned (.tuple #[.int .i64 (headT b).1, .int .i64 (headT b).2.1, .int .i64 (headT b).2.2.1, .int .i64 (headT b).2.2.2]) ∧ Below w.heap.size w w' := by
  exact PCertReads.provisoref06_Head.calls 4 A c b (headT b).1 (headT b).2.1 (headT b).2.2.1 (headT b).2.2.2 w h.r h.c (head_v b h.y h.l)

/-- What Told answers. -/
def TdPost (b : List Int) (w : World) (e : Ending) (w' : World) : Prop :=
  ∃ v10 v11, e = .returned (.tuple #[v10, v11, .int .i64 (toldS b).2.2.1, .int .i64 (toldS b).2.2.2]) ∧ Kd.R kEn 44 w' w.heap.size (fun _ => True) v10 (toldS b).1 ∧ Kd.R (Kd.int .i64) 3 w' w.heap.size (fun _ => True) v11 (toldS b).2.1 ∧ Below w.heap.size w w'
structure TdSt (w W : World) (v10 v11 : Value) (l : List En) (ends : List Int) : Prop where
  r10 : Kd.R kEn 44 W w.heap.size (fun _ => True) v10 l
  r11 : Kd.R (Kd.int .i64) 3 W w.heap.size (fun _ => True) v11 ends
  below : Below w.heap.size w W
theorem TdSt.next {w W W1 : World} {v10 v11 : Value} {l : List En} {ends : List Int} (h : TdSt w W v10 v11 l ends) (hb : Below W.heap.size W W1) : TdSt w W1 v10 v11 l ends := ⟨Kd.R_below h.r10 hb, Kd.R_below h.r11 hb, below_then h.below h.below.size hb⟩
theorem results_tmp4 {fn : Func} {t u v x : Tmp} (h : fn.results = #[.tmp t, .tmp u, .tmp v, .tmp x]) (tmps : Array Value) (P : Program) (w : World) :
    (results fn tmps).run P w = .ok (.tuple #[tmps.getD t undef, tmps.getD u undef, tmps.getD v undef, tmps.getD x undef]) w := by
  simp [results, h]
theorem td_post {b : List Int} {w : World} {e : Ending} {w' : World} {v10 v11 : Value} {x : List En × List Int × (Int × Int)} (h : toldS b = x) (he : e = .returned (.tuple #[v10, v11, .int .i64 x.2.2.1, .int .i64 x.2.2.2])) (St : TdSt w w' v10 v11 x.1 x.2.1) : TdPost b w e w' := by
  subst h
  exact ⟨v10, v11, he, St.r10, St.r11, St.below⟩
/-- A block above the rows was written. -/
theorem only_grown {k : Nat} {W W1 : World} (h : Only k W W1) : W.grownBy W1 (some k) := ⟨h.os, h.tape, h.output, Nat.le_of_eq h.size.symm, fun i hi hne => h.block i (fun e => hne (by rw [e]))⟩
theorem R_above {α : Type} {d : Kd α} {e : Nat} {W0 W W1 : World} {base : Nat} {v : Value} {xs : List α} {k : Nat} (h0 : d.R e W0 base (fun _ => True) v xs) (hb : Below W0.heap.size W0 W) (ho : Only k W W1) (hk : W0.heap.size ≤ k) : d.R e W1 base (fun _ => True) v xs :=
  Kd.R_mono (Kd.R_grown (Kd.R_below (Kd.R_bound h0) hb) (only_grown ho) (fun j hj e => by
    have := hj.2.2.1
    injection e with e
    omega)) (fun _ _ => trivial)
theorem headS_ok (b : List Int) (hy : ∀ x, x ∈ b → 0 ≤ x ∧ x ≤ 255) (x : Int × Nat) (h : headS b = .inr x) : 6 ≤ b.length ∧ (0 ≤ x.1 ∧ x.1 ≤ 16) ∧ x.1 = gB b 3 ∧ x.2 ≤ 4096 := by
  have r3 := gB_range b hy 3
  have r4 := gB_range b hy 4
  have r5 := gB_range b hy 5
  unfold headS at h
  by_cases c0 : b.length = 0
  · rw [if_pos c0] at h; cases h
  rw [if_neg c0] at h
  by_cases d0 : gB b 0 ≠ 112
  · rw [if_pos d0] at h; cases h
  rw [if_neg d0] at h
  by_cases c1 : b.length = 1
  · rw [if_pos c1] at h; cases h
  rw [if_neg c1] at h
  by_cases d1 : gB b 1 ≠ 118
  · rw [if_pos d1] at h; cases h
  rw [if_neg d1] at h
  by_cases c2 : b.length = 2
  · rw [if_pos c2] at h; cases h
  rw [if_neg c2] at h
  by_cases d2 : gB b 2 ≠ 1
  · rw [if_pos d2] at h; cases h
  rw [if_neg d2] at h
  by_cases c6 : b.length < 6
  · rw [if_pos c6] at h; cases h
  rw [if_neg c6] at h
  by_cases c3 : 16 < gB b 3
  · rw [if_pos c3] at h; cases h
  rw [if_neg c3] at h
  by_cases c4 : 4096 < gB b 4 * 256 + gB b 5
  · rw [if_pos c4] at h; cases h
  rw [if_neg c4] at h
  cases h
  exact ⟨by omega, ⟨by show 0 ≤ gB b 3; omega, by show gB b 3 ≤ 16; omega⟩, rfl, by show (gB b 4 * 256 + gB b 5).toNat ≤ 4096; omega⟩
theorem headS_err (b : List Int) (x : Int × Int) (h : headS b = .inl x) : x.2 ≠ 0 := by
  unfold headS at h
  repeat' (split at h; · cases h; simp)
  cases h
set_option maxHeartbeats 4000000 in
set_option maxRecDepth 100000 in
theorem told_c (A : Option Addr) (c : Nat) (b : List Int) (w : World) (h : ByR w A c b) : Calls Try.prog 28 #[.slice A b.length c] w (TdPost b w) := by
  have HB := Lib.hid h
  have hl48 := h.l
  have HH := Lib.hid (head_c A c b w h)
  clear h
  cases hh : headS b with
  | inl x =>
    have HX := Lib.hid hh
    have ht : headT b = (0, 0, x.1, (x.2 : Int)) := by unfold headT; rw [hh]
    rw [ht] at HH
    have hx : (x.2 : Int) ≠ 0 := headS_err b x hh
    have hT : toldS b = ([], [], (x.1, (x.2 : Int))) := by unfold toldS; rw [hh]
    have HT := Lib.hid hT
    have d0 : ((x.2 : Int) != 0) = true := by simpa using hx
    obtain ⟨y, hy⟩ : ∃ y : Int, y = (x.2 : Int) := ⟨_, rfl⟩
    rw [← hy] at d0 HH
    have HY := Lib.hid hy
    clear hh ht hx hy hT
    go_enter Try.func28, Try.ntmps28
    go_wp2_with (first | (go_at_call 27; refine HH.out.mono ?_; rintro e w5 ⟨rfl, hb5⟩))
    refine bodyPost_ret (results_tmp4 rfl _ _ _) rfl ?_
    refine td_post HT.out ?_ ⟨Kd.R_nil _ _ _ _ _, Kd.R_nil _ _ _ _ _, hb5⟩
    rw [← HY.out]
    rfl
  | inr x =>
    have HX := Lib.hid hh
    have ht : headT b = (x.1, (x.2 : Int), 0, 0) := by unfold headT; rw [hh]
    rw [ht] at HH
    have hg := headS_ok b HB.out.y x hh
    have HT := Lib.hid (show toldS b = toldF b x.1 x.2 6 (-1) by unfold toldS; rw [hh])
    obtain ⟨L, n⟩ := x
    have hL : 0 ≤ L ∧ L ≤ 16 := hg.2.1
    have hn : n ≤ 4096 := hg.2.2.2
    have h6 : 6 ≤ b.length := hg.1
    clear hh ht hg
    go_enter Try.func28, Try.ntmps28
    go_upto_region 8 with (first | (go_at_call 27; refine HH.out.mono ?_; rintro e w5 ⟨rfl, hb5⟩))
    have HB5 := Lib.hid hb5
    clear hb5
    go_wp2
    go_loopg [8, 10, 11, 12, 13] (n + 1) (fun k v8 v10 v11 v12 v13 W => ∃ (i p : Nat) (last : Int) (l : List En) (ends : List Int), v8 = .int .i64 (p : Int) ∧ v12 = .int .i64 last ∧ v13 = .int .i64 (i : Int) ∧ i + k = n + 1 ∧ i ≤ n ∧ p ≤ b.length ∧ l.length = i ∧ ends.length = i ∧ Hid (TdSt w W v10 v11 l ends) ∧ Hid (toldS b = (l ++ (toldF b L (n - i) p last).1, ends ++ (toldF b L (n - i) p last).2.1, (toldF b L (n - i) p last).2.2)))
    case atStart => exact ⟨0, 6, -1, [], [], rfl, rfl, rfl, by omega, Nat.zero_le _, h6, rfl, rfl, Lib.hid ⟨Kd.R_nil _ _ _ _ _, Kd.R_nil _ _ _ _ _, HB5.out⟩, Lib.hid (by rw [HT.out]; simp)⟩
    case round =>
      obtain ⟨i, p, last, l, ends, rfl, rfl, rfl, hi, hil, hpl, hll, hel, St, HF⟩ := hrel
      by_cases hlt : i < n
      · have g1 : decide ((i : Int) < (n : Int)) = true := decide_eq_true (by exact_mod_cast hlt)
        have HO := Lib.hid (one_c A c b L p last wr (HB.out.next St.out.below) hL hpl)
        have hF := HF.out
        rw [show n - i = (n - i - 1) + 1 by omega, toldF] at hF
        cases ho : oneS b L p last with
        | inl x =>
          rw [ho] at hF
          have hF' : toldS b = (l, ends, x) := by simpa using hF
          have HF' := Lib.hid hF'
          have d2 : (x.2 != 0) = true := by simpa using oneS_err b _ _ _ x ho
          have HE : Hid (∀ e w', OnPost b L p last wr e w' → e = .returned (.tuple #[.agg (enC en0).toArray, .int .i64 x.1, .int .i64 x.2]) ∧ Below wr.heap.size wr w') := Lib.hid (fun e w' he => by
            unfold OnPost at he
            rw [ho] at he
            exact he)
          clear ho hF hF' HF
          go_wp2_with (first | (go_at_call 43; refine HO.out.mono ?_; intro e w5 he; obtain ⟨rfl, hb5⟩ := HE.out e w5 he; clear he) | ((with_reducible refine gate_dst (N := 14) rfl ?_); refine wpList_alloc_box rfl rfl ?_; intro W6 hW6 hbe6 hs6) | ((with_reducible refine gate_store (t := 44) (p := 14) rfl ?_); refine wpList_store_box rfl (.tmp 14) (.tmp 39) rfl w5.heap.size hW6 fr0_wf en0 fr0_wf rfl rfl ?_; intro W7 hW7 ho7))
          refine bodyPost_ret (results_tmp4 rfl _ _ _) rfl ?_
          have hs5 := hb5.size
          have hsw := St.out.below.size
          have hb6 : Below wr.heap.size wr W6 := below_then hb5 hb5.size hbe6
          exact td_post HF'.out rfl ⟨R_above St.out.r10 hb6 ho7 hs5, R_above St.out.r11 hb6 ho7 hs5, below_only (below_then St.out.below hsw hb6) ho7 (by omega)⟩
        | inr x =>
          obtain ⟨x, q⟩ := x
          rw [ho] at hF
          have hnx := oneS_next b L p last x q hL.1 HB.out.y ho
          have hwf := hnx.2.2
          have hq := hnx.2.1
          have HF' : Hid (toldS b = ((l ++ [x]) ++ (toldF b L (n - (i + 1)) q x.at_).1, (ends ++ [(q : Int)]) ++ (toldF b L (n - (i + 1)) q x.at_).2.1, (toldF b L (n - (i + 1)) q x.at_).2.2)) := Lib.hid (by
            rw [show n - i - 1 = n - (i + 1) by omega] at hF
            rw [hF]
            simp)
          have HE : Hid (∀ e w', OnPost b L p last wr e w' → e = .returned (.tuple #[.agg (enC x).toArray, .int .i64 (q : Int), .int .i64 0]) ∧ Below wr.heap.size wr w') := Lib.hid (fun e w' he => by
            unfold OnPost at he
            rw [ho] at he
            exact he)
          have HW := Lib.hid hwf
          clear ho hF HF hnx hwf
          obtain ⟨k, rfl⟩ : ∃ k, gk = k + 1 := ⟨gk - 1, by omega⟩
          go_upto_region 14 with (first | (go_at_call 43; refine HO.out.mono ?_; intro e w5 he; obtain ⟨rfl, hb5⟩ := HE.out e w5 he; clear he) | ((with_reducible refine gate_dst (N := 14) rfl ?_); refine wpList_alloc_box rfl rfl ?_; intro W6 hW6 hbe6 hs6) | ((with_reducible refine gate_store (t := 44) (p := 14) rfl ?_); refine wpList_store_box rfl (.tmp 14) (.tmp 39) rfl w5.heap.size hW6 fr0_wf x HW.out rfl rfl ?_; intro W7 hW7 ho7))
          have hs5 := hb5.size
          have hsw := St.out.below.size
          have hb6 : Below wr.heap.size wr W6 := below_then hb5 hb5.size hbe6
          have St7 : Hid (TdSt w W7 _ _ l ends) := Lib.hid ⟨R_above St.out.r10 hb6 ho7 hs5, R_above St.out.r11 hb6 ho7 hs5, below_only (below_then St.out.below hsw hb6) ho7 (by omega)⟩
          obtain ⟨k14, hk14⟩ : ∃ k14, k14 = w5.heap.size := ⟨_, rfl⟩
          rw [← hk14] at hW7 ⊢
          have HB14 := Lib.hid hW7
          have hn10 : Hid (some k14 ≠ u10.ownBlock) := Lib.hid (fun e => by have := (R_lt St.out.r10 k14 e.symm).2; omega)
          have hn11 : Hid (some k14 ≠ u11.ownBlock) := Lib.hid (fun e => by have := (R_lt St.out.r11 k14 e.symm).2; omega)
          have HL : Hid (l.length = i ∧ ends.length = i ∧ i < n ∧ n ≤ 4096) := Lib.hid ⟨hll, hel, hlt, hn⟩
          clear hW7 hk14 hs5 hsw hb6 hb5 hW6 hbe6 hs6 ho7 HO HE St
          go_upto_region 15 with (first | ((with_reducible refine gate_dst (N := 49) rfl ?_); refine wpList_load_any rfl 44 (.tmp 14) rfl ⟨k14, 0, none⟩ rfl (enC x) _ (rng_of (range_blk HB14.out)) Try.underlying44 rfl (by rw [enC_len HW.out]; kernel_rfl) ?_) | ((with_reducible refine gate_dst (N := 50) rfl ?_); refine wpList_bs44 rfl (.tmp 49) rfl x HW.out rfl ?_; intro W8 hW8 hb8 hs8) | ((with_reducible refine gate_dst (N := 51) rfl ?_); at_builtin; refine Kd.R_append_rows kEn (w0 := w) w.heap.size rfl (.tmp 48) (.tmp 50) 22 44 (enV en0) 56 rfl Try.underlying22 info44 rfl (by decide) (by omega) u10 l [x] (some ⟨W7.heap.size, 0, none⟩) 1 1 (fun _ => True) (fun _ => False) rfl rfl (Kd.R_below St7.out.r10 hb8) (C_one44 hW8 HW.out) (fun _ _ h => h) (fun _ h => h.elim) (fun _ _ => trivial) (below_then St7.out.below St7.out.below.size hb8) (Nat.le_trans St7.out.below.size hb8.size) (by have := HL.out; omega) ?_; intro v1 w1 ho hb hg _))
          have H10 := Lib.hid ho
          have H11 := Lib.hid (R_apart (Kd.R_below St7.out.r10 hb8) (Kd.R_below St7.out.r11 hb8) (by show ¬ (44 : Nat) ∈ ([3] : List Nat); decide) hg)
          have HBw := Lib.hid hb
          have HB14b := Lib.hid (blk_grown (blk_below HB14.out hb8) hg hn10.out)
          clear ho hb hg hW8 hb8 hs8 HB14 St7
          go_wp2_with (first | ((with_reducible refine gate_dst (N := 55) rfl ?_); at_builtin; refine Kd.R_append_rows (Kd.int .i64) (w0 := w) w.heap.size rfl (.tmp 52) (.tmp 54) 58 3 (.int .i64 0) 8 rfl Try.underlying58 (by kernel_rfl) rfl (by decide) (by omega) u11 ends [(q : Int)] (some ⟨w1.heap.size, 0, none⟩) 1 1 (fun _ => True) (fun _ => False) rfl rfl (Kd.R_alloc H11.out _) (C_one_i64 (blk_new w1 _)) (fun _ _ h => h) (fun _ h => h.elim) (fun _ _ => trivial) (below_alloc HBw.out _) (by have := HBw.out.size; rw [World.size_alloc]; omega) (by have := HL.out; omega) ?_; intro v2 w2 ho2 hb2 hg2 _; have hc14 : w2.cell? ⟨k14, 0, none⟩ = some (.int .i64 x.at_) := blk_cell (blk_grown (blk_alloc HB14b.out _) hg2 hn11.out) 0; have H11b := Lib.hid ho2; have HB2 := Lib.hid hb2; have H10b := Lib.hid (R_apart (Kd.R_alloc H11.out (.cells #[.int .i64 (q : Int)] 3)) (Kd.R_alloc H10.out (.cells #[.int .i64 (q : Int)] 3)) (by show ¬ (3 : Nat) ∈ ([44] : List Nat); decide) hg2); clear ho2 hb2 hg2))
          go_roundg k
          case measure => omega
          case rel => exact ⟨i + 1, q, x.at_, l ++ [x], ends ++ [(q : Int)], rfl, rfl, by simp, by omega, by omega, hq, by simp [hll], by simp [hel], Lib.hid ⟨H10b.out, H11b.out, HB2.out⟩, HF'⟩
      · have g1 : decide ((i : Int) < (n : Int)) = false := decide_eq_false (by omega)
        have hin : n - i = 0 := by omega
        have hF := HF.out
        rw [hin, toldF] at hF
        by_cases c3 : p < b.length
        · have d3 : decide ((p : Int) < (b.length : Int)) = true := decide_eq_true (by omega)
          have d3n : decide (p < b.length) = true := decide_eq_true c3
          rw [if_pos c3] at hF
          have hF' : toldS b = (l, ends, ((p : Int), 3)) := by simpa using hF
          have HF' := Lib.hid hF'
          clear hF hF' HF hin c3
          go_wp2
          refine bodyPost_ret (results_tmp4 rfl _ _ _) rfl ?_
          exact td_post HF'.out rfl St.out
        · have d3 : decide ((p : Int) < (b.length : Int)) = false := decide_eq_false (by omega)
          have d3n : decide (p < b.length) = false := decide_eq_false c3
          rw [if_neg c3] at hF
          have hF' : toldS b = (l, ends, ((0 : Int), 0)) := by simpa using hF
          have HF' := Lib.hid hF'
          clear hF hF' HF hin c3
          go_wp2
          refine bodyPost_ret (results_tmp4 rfl _ _ _) rfl ?_
          exact td_post HF'.out rfl St.out
end Go.Proofs.Ytfbdnfokoakfaaa.Ct
