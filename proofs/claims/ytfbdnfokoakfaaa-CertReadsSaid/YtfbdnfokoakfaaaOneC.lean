/- The reference's One: its walk. -/
import Derived.Test.YtfbdnfokoakfaaaNextC
namespace Go.Proofs.Ytfbdnfokoakfaaa.Ct
open Go.RowKit Go.Proofs.YtfbdnfokoakfaaaW.PrintWords Go.Proofs.YtfbdnfokoakfaaaW.PrintLast Go.Proofs.YtfbdnfokoakfaaaW.PrintMore
set_option linter.unusedVariables false
set_option linter.unusedSimpArgs false

theorem len_succ {s : List Int} {n : Nat} (h : s.length = n + 1) : ∃ a t, s = a :: t ∧ t.length = n := by
  cases s with
  | nil => cases h
  | cons a t => exact ⟨a, t, rfl, by simpa using h⟩
set_option maxRecDepth 100000 in
theorem build44_fr (v : Int) (f : Fr) (hf : f.wf) (W : World) : (Instr.build 44 #[(0, .int .i64 v), (2, .agg (frC f).toArray)]).run Try.prog W = .ok (.agg (enC ⟨v, false, f⟩).toArray) W := by
  obtain ⟨l, hh, s⟩ := f
  have h : s.length = 23 + 1 := hf.1
  clear hf
  obtain ⟨s0, t0, rfl, h0⟩ := len_succ h
  obtain ⟨s1, t1, rfl, h1⟩ := len_succ h0
  obtain ⟨s2, t2, rfl, h2⟩ := len_succ h1
  obtain ⟨s3, t3, rfl, h3⟩ := len_succ h2
  obtain ⟨s4, t4, rfl, h4⟩ := len_succ h3
  obtain ⟨s5, t5, rfl, h5⟩ := len_succ h4
  obtain ⟨s6, t6, rfl, h6⟩ := len_succ h5
  obtain ⟨s7, t7, rfl, h7⟩ := len_succ h6
  obtain ⟨s8, t8, rfl, h8⟩ := len_succ h7
  obtain ⟨s9, t9, rfl, h9⟩ := len_succ h8
  obtain ⟨s10, t10, rfl, h10⟩ := len_succ h9
  obtain ⟨s11, t11, rfl, h11⟩ := len_succ h10
  obtain ⟨s12, t12, rfl, h12⟩ := len_succ h11
  obtain ⟨s13, t13, rfl, h13⟩ := len_succ h12
  obtain ⟨s14, t14, rfl, h14⟩ := len_succ h13
  obtain ⟨s15, t15, rfl, h15⟩ := len_succ h14
  obtain ⟨s16, t16, rfl, h16⟩ := len_succ h15
  obtain ⟨s17, t17, rfl, h17⟩ := len_succ h16
  obtain ⟨s18, t18, rfl, h18⟩ := len_succ h17
  obtain ⟨s19, t19, rfl, h19⟩ := len_succ h18
  obtain ⟨s20, t20, rfl, h20⟩ := len_succ h19
  obtain ⟨s21, t21, rfl, h21⟩ := len_succ h20
  obtain ⟨s22, t22, rfl, h22⟩ := len_succ h21
  obtain ⟨s23, t23, rfl, h23⟩ := len_succ h22
  obtain rfl : t23 = [] := List.eq_nil_of_length_eq_zero h23
  exact run_build W 44 _ _ (by kernel_rfl)
theorem wpList_build44 {ops : Array Oper} {rest : List Oper} {op : Oper} {a : Act} {Q : Exit → Act → World → Prop} {W : World} (hgd : op.guard = none) (x y : Operand) (ho : op.op = .build 44 #[(0, x), (2, y)]) (v : Int) (f : Fr) (hf : f.wf) (hx : a.eval x = .int .i64 v) (hy : a.eval y = .agg (frC f).toArray)
    (h : wpList Try.prog ops Q rest (a.put op.dst (.agg (enC ⟨v, false, f⟩).toArray)) W) : wpList Try.prog ops Q (op :: rest) a W := by
  refine wpList_plain hgd fun _ hK => ?_
  have hrun := build44_fr v f hf W
  unfold Oper.wp execOp
  simp only [ho, List.map_toArray, List.map_cons, List.map_nil, hx, hy, Sem.run_bind, Sem.run_pure, Result.andThen_ok, hrun]
  exact hK _ _ h

/-- What One answers. -/
def OnPost (b : List Int) (L : Int) (p : Nat) (last : Int) (w : World) (e : Ending) (w' : World) : Prop :=
  (match oneS b L p last with
  | .inl x => e = .returned (.tuple #[.agg (enC en0).toArray, .int .i64 x.1, .int .i64 x.2])
  | .inr x => e = .returned (.tuple #[.agg (enC x.1).toArray, .int .i64 (x.2 : Int), .int .i64 0])) ∧ Below w.heap.size w w'
theorem on_inl {b : List Int} {L : Int} {p : Nat} {last : Int} {w : World} {e : Ending} {w' : World} {x y : Int} (h : oneS b L p last = .inl (x, y)) (he : e = .returned (.tuple #[.agg (enC en0).toArray, .int .i64 x, .int .i64 y])) (hb : Below w.heap.size w w') : OnPost b L p last w e w' := by
  unfold OnPost
  rw [h]
  exact ⟨he, hb⟩
theorem on_inr {b : List Int} {L : Int} {p : Nat} {last : Int} {w : World} {e : Ending} {w' : World} {x : En} {q : Nat} (h : oneS b L p last = .inr (x, q)) (he : e = .returned (.tuple #[.agg (enC x).toArray, .int .i64 (q : Int), .int .i64 0])) (hb : Below w.heap.size w w') : OnPost b L p last w e w' := by
  unfold OnPost
  rw [h]
  exact ⟨he, hb⟩
theorem below_only {B k : Nat} {w W W1 : World} (h : Below B w W) (ho : Only k W W1) (hk : B ≤ k) : Below B w W1 :=
  ⟨ho.os.trans h.os, ho.tape.trans h.tape, ho.output.trans h.output, by rw [ho.size]; exact h.size, fun i hi => (ho.block i (by omega)).trans (h.block i hi)⟩
structure OnSt (w W : World) : Prop where
  b8 : W.heap[w.heap.size]? = some (.cells (enC en0).toArray 44 (0, 0))
  b11 : Rng W ⟨w.heap.size + 1, 0, none⟩ (enC en0)
  below : Below w.heap.size w W
theorem OnSt.drewN {w W : World} (h : OnSt w W) (n : Nat) : OnSt w (W.drewN n) := ⟨h.b8, h.b11, pw_below_drewN h.below n⟩
/-- The frame's box. -/
structure OnF (w W : World) (f : Fr) : Prop where
  st : OnSt w W
  b15 : W.heap[w.heap.size + 2]? = some (.cells (frC f).toArray 42 (0, 0))
theorem OnF.drewN {w W : World} {f : Fr} (h : OnF w W f) (n : Nat) : OnF w (W.drewN n) f := ⟨h.st.drewN n, h.b15⟩
theorem OnF.put {w W : World} {f : Fr} (h : OnF w W f) (o : Nat) (v : Value) (y : Fr) (hy : frC y = (frC f).set o v) : OnF w (W.setCell ⟨w.heap.size + 2, o, none⟩ v) y := by
  have ho := set_only W (w.heap.size + 2) o v
  refine ⟨⟨(ho.block _ (by omega)).trans h.st.b8, ho.rng (by omega) h.st.b11, below_only h.st.below ho (by omega)⟩, ?_⟩
  rw [blk_set h.b15 o v, hy]
  simp
theorem wpList_store_fr {ops : Array Oper} {rest : List Oper} {op : Oper} {a : Act} {Q : Exit → Act → World → Prop} (hgd : op.guard = none) (t : TypeId) (p q : Operand) (hop : op.op = .store t p q)
    {w W : World} {f : Fr} (St : OnF w W f) (hf : f.wf) (o : Nat) (ho : o < 26) (v : Value) (y : Fr) (hp : a.eval p = .pointer (some ⟨w.heap.size + 2, o, none⟩)) (hq : a.eval q = v)
    (hc : v.cells.toList = [v]) (ht : (Try.prog.info? t).map (·.size) = some 1) (h1 : v.oneCell' = true) (hy : frC y = (frC f).set o v)
    (h : ∀ W1, OnF w W1 y → wpList Try.prog ops Q rest (a.put op.dst undef) W1) : wpList Try.prog ops Q (op :: rest) a W := by
  refine wpList_plain hgd fun _ hK => ?_
  have hrun : (Instr.storeAt t (.pointer (some ⟨w.heap.size + 2, o, none⟩)) v).run Try.prog W = .ok () (W.setCell ⟨w.heap.size + 2, o, none⟩ v) :=
    run_store_run t v [v] St.b15 hc ht (by simp [frC_len hf]; omega) (fun q hq => by rw [List.mem_singleton.1 hq]; exact h1)
  unfold Oper.wp execOp
  simp only [hop, hp, hq, Sem.run_bind, Sem.run_pure, Result.andThen_ok, hrun]
  exact hK _ _ (h _ (St.put o v y hy))
theorem slot_put_fr (L H : Int) (t : List Int) (j : Nat) (hj : j < 24) (hl : j < t.length) : frC ⟨L, H, padS (t.take (j + 1))⟩ = (frC ⟨L, H, padS (t.take j)⟩).set (2 + j) (.int .u8 (gB t j)) := by
  rw [show 2 + j = j + 1 + 1 by omega]
  simp only [frC, List.set_cons_succ]
  rw [pad_set t j hj hl]
  simp only [nums, List.map_set]

set_option maxHeartbeats 4000000 in
set_option maxRecDepth 100000 in
theorem one_c (A : Option Addr) (c : Nat) (b : List Int) (L : Int) (p : Nat) (last : Int) (w : World) (h : ByR w A c b) (hL : 0 ≤ L ∧ L ≤ 16) (hpl : p ≤ b.length) : Calls Try.prog 43 #[.slice A b.length c, .int .i64 L, .int .i64 (p : Int), .int .i64 last] w (OnPost b L p last w) := by
  have HB := Lib.hid h
  have hl48 := h.l
  clear h
  go_enter Try.func43, Try.ntmps43
  go_upto_region 2 with (first | ((with_reducible refine gate_dst (N := 8) rfl ?_); refine wpList_alloc_blk (l := []) rfl rfl ⟨fun i hi => absurd hi (Nat.not_lt_zero _), rfl, Below.refl _ _⟩ ?_; intro W1 hW1) | ((with_reducible refine gate_dst (N := 11) rfl ?_); refine wpList_alloc_blk rfl rfl hW1 ?_; intro W2 hW2))
  have HS : Hid (OnSt w W2) := Lib.hid ⟨hW2.bx 0 (by simp), hW2.rng 1 (by simp), hW2.below⟩
  have hsz : W2.heap.size = w.heap.size + 2 := hW2.sz
  clear hW1 hW2
  obtain ⟨R, hR⟩ : ∃ R, R = oneS b L p last := ⟨_, rfl⟩
  have HR := Lib.hid hR.symm
  unfold oneS at hR
  obtain ⟨p1, hp1⟩ : ∃ p1 : Nat, p1 = p + 1 := ⟨_, rfl⟩
  have e1 : (p : Int) + 1 = (p1 : Int) := by omega
  have hb1 : p1 ≤ b.length + 1 := by omega
  by_cases c1 : b.length < p + 2
  · have d1 : decide ((b.length : Int) ≤ (p1 : Int)) = true := decide_eq_true (by omega)
    have d1n : decide (b.length ≤ p1) = true := decide_eq_true (by omega)
    rw [if_pos c1] at hR
    have HV := Lib.hid (HR.out.trans hR)
    clear hR c1 hp1
    go_wp2_with (first | ((with_reducible refine gate_dst (N := 23) rfl ?_); refine wpList_load_any rfl 44 (.tmp 11) rfl ⟨w.heap.size + 1, 0, none⟩ rfl (enC en0) _ (HS.out).b11 Try.underlying44 rfl (by rw [enC_len fr0_wf]; kernel_rfl) ?_) | ((with_reducible refine gate_store (t := 44) (p := 8) rfl ?_); refine wpList_store_box rfl (.tmp 8) (.tmp 23) rfl w.heap.size (HS.out).b8 fr0_wf en0 fr0_wf rfl rfl ?_; intro W9 hb9 ho9))
    refine bodyPost_ret (ret_box3 rfl _ w.heap.size hb9 fr0_wf rfl) rfl ?_
    exact on_inl HV.out rfl (below_only (HS.out).below ho9 (Nat.le_refl _))
  · have d1 : decide ((b.length : Int) ≤ (p1 : Int)) = false := decide_eq_false (by omega)
    have d1n : decide (b.length ≤ p1) = false := decide_eq_false (by omega)
    rw [if_neg c1] at hR
    have HP1 := Lib.hid hp1
    obtain ⟨ad, rfl, hx0⟩ := (HB.out.next HS.out.below).cell p (by omega)
    obtain ⟨ad', ead, hx1⟩ := (HB.out.next HS.out.below).cell p1 (by omega)
    obtain rfl : ad = ad' := by injection ead
    have r0 := gB_range b HB.out.y p
    have r1 := gB_range b HB.out.y (p + 1)
    have g0 : decide ((p : Int) < (b.length : Int)) = true := decide_eq_true (by omega)
    have g1 : decide ((p1 : Int) < (b.length : Int)) = true := decide_eq_true (by omega)
    rw [hp1] at hx1
    obtain ⟨x0, hxx0⟩ : ∃ x, x = gB b p := ⟨_, rfl⟩
    obtain ⟨x1, hxx1⟩ : ∃ x, x = gB b (p + 1) := ⟨_, rfl⟩
    rw [← hxx0] at hx0 r0 hR
    rw [← hxx1] at hx1 r1 hR
    rw [← hp1] at hx1
    obtain ⟨v, hv⟩ : ∃ v, v = x0 * 256 + x1 := ⟨_, rfl⟩
    rw [← hv] at hR
    have ev : 256 * x0 + x1 = v := by omega
    obtain ⟨z, hz⟩ : ∃ z, z = risesS last v := ⟨_, rfl⟩
    rw [← hz] at hR
    have HA := Lib.hid (fun W => after_c v last W)
    rw [← hz] at HA
    have HV := Lib.hid hR
    clear hR hxx0 hxx1 hv hz ead hp1
    go_upto_region 4 with fail
    go_quiet (fail)
    have HS2 := Lib.hid (HS.out.drewN nq)
    have hsz2 : (W2.drewN nq).heap.size = w.heap.size + 2 := hsz
    generalize W2.drewN nq = W3 at HS2 hsz2 ⊢
    clear hx0 hx1 r0 r1
    clear g0 g1
    go_upto_region 6 with (first | (go_at_call 38; refine (HA.out _).mono ?_; rintro e w1 ⟨rfl, ⟨⟨n1, rfl⟩⟩⟩))
    have HS := Lib.hid (HS2.out.drewN n1)
    have hsz : (W3.drewN n1).heap.size = w.heap.size + 2 := hsz2
    generalize W3.drewN n1 = W4 at HS hsz ⊢
    clear HS2 hsz2 HA ev
    by_cases c2 : z ≠ 0
    · have d2 : (z != 0) = true := by simpa using c2
      have hv := HV.out
      rw [if_pos c2] at hv
      have HV1 := Lib.hid (HR.out.trans hv)
      clear hv c2
      go_wp2_with (first | ((with_reducible refine gate_dst (N := 44) rfl ?_); refine wpList_load_any rfl 44 (.tmp 11) rfl ⟨w.heap.size + 1, 0, none⟩ rfl (enC en0) _ (HS.out).b11 Try.underlying44 rfl (by rw [enC_len fr0_wf]; kernel_rfl) ?_) | ((with_reducible refine gate_store (t := 44) (p := 8) rfl ?_); refine wpList_store_box rfl (.tmp 8) (.tmp 44) rfl w.heap.size (HS.out).b8 fr0_wf en0 fr0_wf rfl rfl ?_; intro W9 hb9 ho9))
      refine bodyPost_ret (ret_box3 rfl _ w.heap.size hb9 fr0_wf rfl) rfl ?_
      exact on_inl HV1.out rfl (below_only (HS.out).below ho9 (Nat.le_refl _))
    · have d2 : (z != 0) = false := by simpa using c2
      have hv := HV.out
      rw [if_neg c2] at hv
      have HV := Lib.hid hv
      clear hv c2
      obtain ⟨p2, hp2⟩ : ∃ p2 : Nat, p2 = p + 2 := ⟨_, rfl⟩
      have e2 : (p : Int) + 2 = (p2 : Int) := by omega
      have HP2 := Lib.hid hp2
      have hb2 : p2 ≤ b.length := by omega
      by_cases c3 : p2 = b.length
      · have d3 : decide ((b.length : Int) ≤ (p2 : Int)) = true := decide_eq_true (by omega)
        have d3n : decide (b.length ≤ p2) = true := decide_eq_true (by omega)
        have hv := HV.out
        rw [if_pos (by omega)] at hv
        have HV1 := Lib.hid (HR.out.trans hv)
        clear c3 hp2 hv
        go_wp2_with (first | ((with_reducible refine gate_dst (N := 52) rfl ?_); refine wpList_load_any rfl 44 (.tmp 11) rfl ⟨w.heap.size + 1, 0, none⟩ rfl (enC en0) _ (HS.out).b11 Try.underlying44 rfl (by rw [enC_len fr0_wf]; kernel_rfl) ?_) | ((with_reducible refine gate_store (t := 44) (p := 8) rfl ?_); refine wpList_store_box rfl (.tmp 8) (.tmp 52) rfl w.heap.size (HS.out).b8 fr0_wf en0 fr0_wf rfl rfl ?_; intro W9 hb9 ho9))
        refine bodyPost_ret (ret_box3 rfl _ w.heap.size hb9 fr0_wf rfl) rfl ?_
        exact on_inl HV1.out rfl (below_only (HS.out).below ho9 (Nat.le_refl _))
      · have d3 : decide ((b.length : Int) ≤ (p2 : Int)) = false := decide_eq_false (by omega)
        have d3n : decide (b.length ≤ p2) = false := decide_eq_false (by omega)
        have hv := HV.out
        rw [if_neg (by omega), ← hp2] at hv
        have d4 : decide ((p2 : Int) < (b.length : Int)) = true := decide_eq_true (by omega)
        obtain ⟨ad', ead, hx2⟩ := (HB.out.next HS.out.below).cell p2 (by omega)
        obtain rfl : ad = ad' := by injection ead
        have r2 := gB_range b HB.out.y p2
        obtain ⟨x2, hxx2⟩ : ∃ x2, x2 = gB b p2 := ⟨_, rfl⟩
        rw [← hxx2] at hv hx2 r2
        have HV := Lib.hid hv
        clear hv hxx2 hp2 ead
        by_cases c4 : 1 < x2
        · have d5 : decide (1 < x2) = true := decide_eq_true c4
          have hv := HV.out
          rw [if_pos c4, e2] at hv
          have HV1 := Lib.hid (HR.out.trans hv)
          clear c4 hv
          go_wp2_with (first | ((with_reducible refine gate_dst (N := 61) rfl ?_); refine wpList_load_any rfl 44 (.tmp 11) rfl ⟨w.heap.size + 1, 0, none⟩ rfl (enC en0) _ (HS.out).b11 Try.underlying44 rfl (by rw [enC_len fr0_wf]; kernel_rfl) ?_) | ((with_reducible refine gate_store (t := 44) (p := 8) rfl ?_); refine wpList_store_box rfl (.tmp 8) (.tmp 61) rfl w.heap.size (HS.out).b8 fr0_wf en0 fr0_wf rfl rfl ?_; intro W9 hb9 ho9))
          refine bodyPost_ret (ret_box3 rfl _ w.heap.size hb9 fr0_wf rfl) rfl ?_
          exact on_inl HV1.out rfl (below_only (HS.out).below ho9 (Nat.le_refl _))
        · have d5 : decide (1 < x2) = false := decide_eq_false c4
          have hv := HV.out
          rw [if_neg c4] at hv
          have HV := Lib.hid hv
          clear hv c4
          obtain ⟨p3, hp3⟩ : ∃ p3 : Nat, p3 = p + 3 := ⟨_, rfl⟩
          have e3 : (p : Int) + 3 = (p3 : Int) := by omega
          have HP3 := Lib.hid hp3
          have hb3 : p3 ≤ b.length := by have := HP2.out; omega
          by_cases c5 : x2 = 0
          · have d6 : (x2 == 0) = true := by simpa using c5
            have hv := HV.out
            rw [if_pos c5, ← hp3] at hv
            have HV1 := Lib.hid (HR.out.trans hv)
            clear c5 hv hp3
            go_wp2_with (first | ((with_reducible refine gate_store (t := 44) (p := 8) rfl ?_); refine wpList_store_box rfl (.tmp 8) (.tmp 71) rfl w.heap.size HS.out.b8 fr0_wf ⟨v, true, fr0⟩ fr0_wf rfl rfl ?_; intro W9 hb9 ho9))
            refine bodyPost_ret (ret_box3 (x := ⟨v, true, fr0⟩) rfl _ w.heap.size hb9 fr0_wf rfl) rfl ?_
            exact on_inr HV1.out rfl (below_only HS.out.below ho9 (Nat.le_refl _))
          · have d6 : (x2 == 0) = false := by simpa using c5
            have hv := HV.out
            rw [if_neg c5] at hv
            have HV := Lib.hid hv
            clear hv c5
            by_cases c6 : p3 = b.length
            · have d7 : decide ((b.length : Int) ≤ (p3 : Int)) = true := decide_eq_true (by omega)
              have d7n : decide (b.length ≤ p3) = true := decide_eq_true (by omega)
              have hv := HV.out
              rw [if_pos (by omega)] at hv
              have HV1 := Lib.hid (HR.out.trans hv)
              clear c6 hp3 hv
              go_wp2_with (first | ((with_reducible refine gate_dst (N := 79) rfl ?_); refine wpList_load_any rfl 44 (.tmp 11) rfl ⟨w.heap.size + 1, 0, none⟩ rfl (enC en0) _ (HS.out).b11 Try.underlying44 rfl (by rw [enC_len fr0_wf]; kernel_rfl) ?_) | ((with_reducible refine gate_store (t := 44) (p := 8) rfl ?_); refine wpList_store_box rfl (.tmp 8) (.tmp 79) rfl w.heap.size (HS.out).b8 fr0_wf en0 fr0_wf rfl rfl ?_; intro W9 hb9 ho9))
              refine bodyPost_ret (ret_box3 rfl _ w.heap.size hb9 fr0_wf rfl) rfl ?_
              exact on_inl HV1.out rfl (below_only (HS.out).below ho9 (Nat.le_refl _))
            · have d7 : decide ((b.length : Int) ≤ (p3 : Int)) = false := decide_eq_false (by omega)
              have d7n : decide (b.length ≤ p3) = false := decide_eq_false (by omega)
              have hv := HV.out
              rw [if_neg (by omega), ← hp3, e3] at hv
              have d8 : decide ((p3 : Int) < (b.length : Int)) = true := decide_eq_true (by omega)
              obtain ⟨ad', ead, hx3⟩ := (HB.out.next HS.out.below).cell p3 (by omega)
              obtain rfl : ad = ad' := by injection ead
              have r3 := gB_range b HB.out.y p3
              obtain ⟨x3, hxx3⟩ : ∃ x3, x3 = gB b p3 := ⟨_, rfl⟩
              rw [← hxx3] at hv r3 hx3
              obtain ⟨m, hm⟩ : ∃ m : Nat, m = (L + x3).toNat := ⟨_, rfl⟩
              have e4 : L + x3 = (m : Int) := by omega
              rw [← hm, e4] at hv
              obtain ⟨dl, hdl⟩ : ∃ dl : Int, dl = 24 - L := ⟨_, rfl⟩
              have e8 : 24 - L = dl := hdl.symm
              by_cases c7 : 24 < m
              · have d10 : decide (dl < x3) = true := decide_eq_true (by omega)
                rw [if_pos (by omega)] at hv
                have HV1 := Lib.hid (HR.out.trans hv)
                clear c7 hv hxx3 hm hp3 ead e4 hdl
                go_wp2_with (first | ((with_reducible refine gate_dst (N := 92) rfl ?_); refine wpList_load_any rfl 44 (.tmp 11) rfl ⟨w.heap.size + 1, 0, none⟩ rfl (enC en0) _ (HS.out).b11 Try.underlying44 rfl (by rw [enC_len fr0_wf]; kernel_rfl) ?_) | ((with_reducible refine gate_store (t := 44) (p := 8) rfl ?_); refine wpList_store_box rfl (.tmp 8) (.tmp 92) rfl w.heap.size (HS.out).b8 fr0_wf en0 fr0_wf rfl rfl ?_; intro W9 hb9 ho9))
                refine bodyPost_ret (ret_box3 rfl _ w.heap.size hb9 fr0_wf rfl) rfl ?_
                exact on_inl HV1.out rfl (below_only (HS.out).below ho9 (Nat.le_refl _))
              · have d10 : decide (dl < x3) = false := decide_eq_false (by omega)
                rw [if_neg (by omega)] at hv
                obtain ⟨p4, hp4⟩ : ∃ p4 : Nat, p4 = p + 4 := ⟨_, rfl⟩
                have e5 : (p : Int) + 4 = (p4 : Int) := by omega
                have hb4 : p4 ≤ b.length := by omega
                rw [← hp4] at hv
                have HV := Lib.hid hv
                have hm24 : m ≤ 24 := by omega
                obtain ⟨pl, hpl4⟩ : ∃ pl : Nat, pl = p4 + L.toNat := ⟨_, rfl⟩
                have e6 : (p4 : Int) + L = (pl : Int) := by omega
                have e7 : (pl : Int) + x3 = ((p4 + m : Nat) : Int) := by omega
                obtain ⟨qe, hqe⟩ : ∃ qe : Nat, qe = p4 + m := ⟨_, rfl⟩
                rw [← hqe] at e7 hv
                have HQE := Lib.hid hqe
                have hbl : pl ≤ 140737488351300 ∧ qe ≤ 140737488351300 := by omega
                clear hv c7 hp4 hxx3 hm hp3 ead hdl hpl4 hqe
                go_upto_region 20 with (first | ((with_reducible refine gate_store (t := 42) (p := 15) rfl ?_); refine wpList_store_new rfl 42 (.tmp 15) (.tmp 97) rfl W4 _ (frC ⟨L, x3, padS []⟩).toArray (w.heap.size + 2) hsz rfl rfl (by kernel_rfl) (by rfl) (all_oneCell_toArray (frC_one _)) ?_))
                have HF : OnF w (W4.alloc (.cells (frC ⟨L, x3, padS []⟩).toArray 42)) ⟨L, x3, padS []⟩ :=
                  ⟨⟨blk_alloc HS.out.b8 _, HS.out.b11.below (below_alloc (Below.refl _ _) _), below_alloc HS.out.below _⟩, by rw [← hsz]; exact blk_new W4 _⟩
                generalize W4.alloc (.cells (frC ⟨L, x3, padS []⟩).toArray 42) = W5 at HF ⊢
                have HF5 := Lib.hid HF
                clear HF hx2 hx3 HS hsz
                go_wp2
                go_loopg [16] (m + 1) (fun k v16 W => ∃ j : Nat, v16 = .int .i64 (j : Int) ∧ j + k = m + 1 ∧ j ≤ m ∧ p4 + j ≤ b.length ∧ OnF w W ⟨L, x3, padS ((b.drop p4).take j)⟩ ∧ Hid (slotsS b m p4 = slotsS b (m - j) (p4 + j)))
                case atStart => exact ⟨0, rfl, by omega, Nat.zero_le _, hb4, HF5.out, Lib.hid rfl⟩
                case round =>
                  obtain ⟨j, rfl, hj, hjm, hql, St, HJ⟩ := hrel
                  have HSt := Lib.hid St
                  have HW : Hid (⟨L, x3, padS ((b.drop p4).take j)⟩ : Fr).wf := Lib.hid (pad_wf (by rw [List.length_take]; omega) (fun x hx => HB.out.y x (List.mem_of_mem_drop (List.mem_of_mem_take hx))))
                  obtain ⟨q, hq⟩ : ∃ q : Nat, q = p4 + j := ⟨_, rfl⟩
                  have eq : (p4 : Int) + (j : Int) = (q : Int) := by omega
                  have HQ := Lib.hid hq
                  rw [← hq] at hql HJ
                  by_cases hjl : j < m
                  · have g1 : decide ((j : Int) < (m : Int)) = true := decide_eq_true (by exact_mod_cast hjl)
                    have g1n : decide (j < m) = true := decide_eq_true hjl
                    have hs := HJ.out
                    rw [show m - j = (m - j - 1) + 1 by omega, slotsS] at hs
                    by_cases c8 : q = b.length
                    · have g2 : decide ((b.length : Int) ≤ (q : Int)) = true := decide_eq_true (by omega)
                      have g2n : decide (b.length ≤ q) = true := decide_eq_true (by omega)
                      have HV1 := Lib.hid (show oneS b L p last = .inl ((b.length : Int), 2) by
                        rw [if_pos c8] at hs
                        have hv := HV.out
                        rw [hs] at hv
                        rw [HR.out, hv, c8])
                      clear c8 hs St hq
                      go_wp2_with (first | ((with_reducible refine gate_dst (N := 113) rfl ?_); refine wpList_load_any rfl 44 (.tmp 11) rfl ⟨w.heap.size + 1, 0, none⟩ rfl (enC en0) _ (HSt.out.st).b11 Try.underlying44 rfl (by rw [enC_len fr0_wf]; kernel_rfl) ?_) | ((with_reducible refine gate_store (t := 44) (p := 8) rfl ?_); refine wpList_store_box rfl (.tmp 8) (.tmp 113) rfl w.heap.size (HSt.out.st).b8 fr0_wf en0 fr0_wf rfl rfl ?_; intro W9 hb9 ho9))
                      refine bodyPost_ret (ret_box3 rfl _ w.heap.size hb9 fr0_wf rfl) rfl ?_
                      exact on_inl HV1.out rfl (below_only (HSt.out.st).below ho9 (Nat.le_refl _))
                    · have g2 : decide ((b.length : Int) ≤ (q : Int)) = false := decide_eq_false (by omega)
                      have g2n : decide (b.length ≤ q) = false := decide_eq_false (by omega)
                      rw [if_neg c8] at hs
                      have g3 : decide ((q : Int) < (b.length : Int)) = true := decide_eq_true (by omega)
                      obtain ⟨ad', ead, hx⟩ := (HB.out.next St.st.below).cell q (by omega)
                      obtain rfl : ad = ad' := by injection ead
                      have rq := gB_range b HB.out.y q
                      have hE := slot_put_fr L x3 (b.drop p4) j (by omega) (by rw [List.length_drop]; omega)
                      rw [show gB (b.drop p4) j = gB b q by rw [hq]; unfold gB; simp [List.getD_eq_getElem?_getD, List.getElem?_drop]] at hE
                      obtain ⟨xq, hxq⟩ : ∃ xq, xq = gB b q := ⟨_, rfl⟩
                      rw [← hxq] at hs hx rq hE
                      have HE := Lib.hid hE
                      have HKn := Lib.hid (fun W => isCode_c xq W)
                      obtain ⟨kb, hkb⟩ : ∃ kb, kb = knownB xq := ⟨_, rfl⟩
                      rw [← hkb] at hs HKn
                      have HS8 := Lib.hid hs
                      have hq1 : q + 1 ≤ b.length := by omega
                      clear hkb hxq c8 hs hE ead St hq
                      cases kb with
                      | false =>
                        have HV1 := Lib.hid (show oneS b L p last = .inl ((q : Int), 62) by
                          have hs := HS8.out
                          rw [if_neg (by decide)] at hs
                          have hv := HV.out
                          rw [hs] at hv
                          exact HR.out.trans hv)
                        go_wp2_with (first | (go_at_call 46; refine (HKn.out _).mono ?_; rintro e w1 ⟨rfl, ⟨⟨n9, rfl⟩⟩⟩) | ((with_reducible refine gate_dst (N := 122) rfl ?_); refine wpList_load_any rfl 44 (.tmp 11) rfl ⟨w.heap.size + 1, 0, none⟩ rfl (enC en0) _ ((HSt.out.drewN _).st).b11 Try.underlying44 rfl (by rw [enC_len fr0_wf]; kernel_rfl) ?_) | ((with_reducible refine gate_store (t := 44) (p := 8) rfl ?_); refine wpList_store_box rfl (.tmp 8) (.tmp 122) rfl w.heap.size ((HSt.out.drewN _).st).b8 fr0_wf en0 fr0_wf rfl rfl ?_; intro W9 hb9 ho9))
                        refine bodyPost_ret (ret_box3 rfl _ w.heap.size hb9 fr0_wf rfl) rfl ?_
                        exact on_inl HV1.out rfl (below_only ((HSt.out.drewN _).st).below ho9 (Nat.le_refl _))
                      | true =>
                        have hix := ixO (w.heap.size + 2) 2 j (by omega)
                        obtain ⟨k, rfl⟩ : ∃ k, gk = k + 1 := ⟨gk - 1, by omega⟩
                        go_wp2_with (first | (go_at_call 46; refine (HKn.out _).mono ?_; rintro e w1 ⟨rfl, ⟨⟨n9, rfl⟩⟩⟩) | ((with_reducible refine gate_store (t := 39) (p := 130) rfl ?_); refine wpList_store_fr rfl 39 (.tmp 130) (.tmp 128) rfl (HSt.out.drewN _) HW.out (2 + j) (by omega) (.int .u8 xq) ⟨L, x3, padS ((b.drop p4).take (j + 1))⟩ rfl rfl rfl (by kernel_rfl) rfl HE.out ?_; intro W6 hW6))
                        go_roundg k
                        case measure => omega
                        case rel => exact ⟨j + 1, by simp, by omega, by omega, by have := HQ.out; omega, hW6, Lib.hid (by
                          have hs := HS8.out
                          rw [if_pos trivial] at hs
                          rw [hs, HQ.out]
                          congr 1)⟩
                  · have g1 : decide ((j : Int) < (m : Int)) = false := decide_eq_false (by omega)
                    have g1n : decide (j < m) = false := decide_eq_false hjl
                    have HV1 := Lib.hid (show oneS b L p last = .inr (⟨v, false, ⟨L, x3, padS ((b.drop p4).take j)⟩⟩, qe) by
                      have hjm' : j = m := by omega
                      have hs := HJ.out
                      rw [hjm', Nat.sub_self, slotsS] at hs
                      have hv := HV.out
                      rw [hs] at hv
                      rw [HR.out, hv, hjm', HQE.out])
                    clear St hq
                    go_wp2_with (first | ((with_reducible refine gate_dst (N := 132) rfl ?_); refine wpList_load_any rfl 42 (.tmp 15) rfl ⟨w.heap.size + 2, 0, none⟩ rfl (frC ⟨L, x3, padS ((b.drop p4).take j)⟩) _ (rng_of (range_blk HSt.out.b15)) Try.underlying42 rfl (by rw [frC_len HW.out]; kernel_rfl) ?_) | ((with_reducible refine gate_dst (N := 133) rfl ?_); refine wpList_build44 rfl (.tmp 131) (.tmp 132) rfl v ⟨L, x3, padS ((b.drop p4).take j)⟩ HW.out rfl rfl ?_) | ((with_reducible refine gate_store (t := 44) (p := 8) rfl ?_); refine wpList_store_box rfl (.tmp 8) (.tmp 133) rfl w.heap.size HSt.out.st.b8 fr0_wf ⟨v, false, ⟨L, x3, padS ((b.drop p4).take j)⟩⟩ HW.out rfl rfl ?_; intro W9 hb9 ho9))
                    refine bodyPost_ret (ret_box3 (x := ⟨v, false, ⟨L, x3, padS ((b.drop p4).take j)⟩⟩) rfl _ w.heap.size hb9 HW.out rfl) rfl ?_
                    exact on_inr HV1.out rfl (below_only HSt.out.st.below ho9 (Nat.le_refl _))
end Go.Proofs.Ytfbdnfokoakfaaa.Ct
