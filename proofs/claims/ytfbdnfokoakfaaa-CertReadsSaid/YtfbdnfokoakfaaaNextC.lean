/- The reader's Next: its walk. -/
import Derived.Test.YtfbdnfokoakfaaaNextA
namespace Go.Proofs.Ytfbdnfokoakfaaa.Ct
open Go.RowKit Go.Proofs.YtfbdnfokoakfaaaW.PrintWords Go.Proofs.YtfbdnfokoakfaaaW.PrintLast Go.Proofs.YtfbdnfokoakfaaaW.PrintMore
set_option linter.unusedVariables false
set_option linter.unusedSimpArgs false

set_option maxHeartbeats 4000000 in
set_option maxRecDepth 100000 in
theorem next_c (g : Nat) (A : Option Addr) (c : Nat) (b : List Int) (n : Nat) (r : RdS) (w : World) (h : RdB w g A c b n r) (hn : r.left ≤ 4096) : Calls Try.prog 20 #[.pointer (some ⟨g, 0, none⟩)] w (NxPost w g A c b n r) := by
  have HB := Lib.hid h
  have hgw := blk_lt h.a
  have hpl := h.p
  have hl48 := h.y.l
  clear h
  go_enter Try.func20, Try.ntmps20
  go_upto_region 2 with (first | ((with_reducible refine gate_dst (N := 2) rfl ?_); refine wpList_alloc_blk (l := []) rfl rfl ⟨fun i hi => absurd hi (Nat.not_lt_zero _), rfl, Below.refl _ _⟩ ?_; intro W1 hW1) | ((with_reducible refine gate_dst (N := 5) rfl ?_); refine wpList_alloc_blk rfl rfl hW1 ?_; intro W2 hW2) | ((with_reducible refine gate_store (t := 44) (p := 5) rfl ?_); refine wpList_store_blk rfl (.tmp 5) (.tmp 9) rfl hW2 1 (by simp) fr0_wf en0 fr0_wf rfl rfl ?_; intro W3 hW3))
  have hbB := hW3.below
  have b2 : W3.heap[w.heap.size]? = some (.cells (enC en0).toArray 44 (0, 0)) := hW3.bx 0 (by simp)
  have b5 : Rng W3 ⟨w.heap.size + 1, 0, none⟩ (enC en0) := hW3.rng 1 (by simp)
  have hsz : W3.heap.size = w.heap.size + 2 := hW3.sz
  clear hW1 hW2 hW3
  have HN : Hid (Nx w g W3 (rdC A c b n r)) := Lib.hid ⟨blk_below HB.out.a hbB, grown_of_below hbB _⟩
  obtain ⟨k0, k1, k2, k3, k4, k5, k6, k7⟩ := HB.out.cells hbB
  have HB2 := Lib.hid b2
  have HB5 := Lib.hid b5
  have HW3 := Lib.hid hbB
  clear k2 k4 k5 b2 b5 hbB
  by_cases c0 : r.e ≠ 0
  · have d0 : (r.e != 0) = true := by simpa using c0
    have HR := Lib.hid (show nextS b (gB b 3) r = ((en0, false, r.e), r) by unfold nextS; rw [if_pos c0])
    clear c0
    go_upto_region 5 with fail
    refine start_ (n := 8) (S := fun W => W.cell? ⟨g, 6, none⟩ = some (.int .i64 r.e) ∧ Rng W ⟨w.heap.size + 1, 0, none⟩ (enC en0)) (ds := []) #[false, false, false, false, false, false, false, false] (by kernel_rfl) rfl rfl ⟨k6, HB5.out⟩ (fun hHeld => ?_)
    refine pure_ (i := 1) (N := some 28) (v := ?_) (a' := ?_) #[false, true, false, false, false, false, false, false] rfl rfl (by kernel_rfl) (fun _ _ _ h => h) (Or.inl ⟨by rfl, ?_⟩) ?_ ?_
    rotate_left
    · intro w_
      go_simp
      with_reducible rfl
    rotate_left
    · simp only [Act.put, List.setIfInBounds_toArray, List.set_cons_zero, List.set_cons_succ]
      rfl
    refine pure_ (i := 2) (N := some 29) (v := ?_) (a' := ?_) #[false, true, true, false, false, false, false, false] rfl rfl (by kernel_rfl) (fun _ _ _ h => h) (Or.inl ⟨by rfl, ?_⟩) ?_ ?_
    rotate_left
    · intro w_
      go_simp
      with_reducible rfl
    rotate_left
    · simp only [Act.put, List.setIfInBounds_toArray, List.set_cons_zero, List.set_cons_succ]
      rfl
    refine pure_ (i := 3) (N := some 30) (v := ?_) (a' := ?_) #[false, true, true, true, false, false, false, false] rfl rfl (by kernel_rfl) (fun _ _ _ h => h) (Or.inl ⟨by rfl, ?_⟩) ?_ ?_
    rotate_left
    · intro w_
      go_simp
      with_reducible rfl
    rotate_left
    · simp only [Act.put, List.setIfInBounds_toArray, List.set_cons_zero, List.set_cons_succ]
      rfl
    refine take_ (i := 0) (N := some 27) (v := ?_) (a' := ?_) #[true, true, true, true, false, false, false, false] rfl rfl (by kernel_rfl) (fun _ _ _ h => h) (Or.inl ⟨by rfl, ?_⟩) hHeld ?_ ?_
    rotate_left
    · intro w_ hS_
      refine exec_load_any (ty := 44) (x := .tmp 5) (p := ⟨w.heap.size + 1, 0, none⟩) (cs := enC en0) ?_ ?_ hS_.2 Try.underlying44 rfl (by rw [enC_len fr0_wf]; kernel_rfl)
      · rfl
      · rfl
    rotate_left
    · simp only [Act.put, List.setIfInBounds_toArray, List.set_cons_zero, List.set_cons_succ]
      rfl
    refine take_ (i := 4) (N := some 31) (v := ?_) (a' := ?_) #[true, true, true, true, true, false, false, false] rfl rfl (by kernel_rfl) (fun _ _ _ h => h) (Or.inl ⟨by rfl, ?_⟩) hHeld ?_ ?_
    rotate_left
    · intro w_ hS_
      have s0 := hS_.1
      go_simp
      with_reducible rfl
    rotate_left
    · simp only [Act.put, List.setIfInBounds_toArray, List.set_cons_zero, List.set_cons_succ]
      rfl
    refine one_ (i := 5) (N := none) #[true, true, true, true, true, true, false, false] rfl rfl (by kernel_rfl) (by decide) (fun K hK => ?_)
    refine skip_box (p := .tmp 2) (q := .tmp 27) (by rfl) rfl w.heap.size HB2.out fr0_wf en0 fr0_wf rfl rfl (fun W9 hb9 ho9 => ?_)
    refine hK.out _ _ ⟨ho9.cell (by show g ≠ w.heap.size; omega) hHeld.1, ho9.rng (by omega) hHeld.2⟩ (fun hHeld => ?_)
    clear hK K
    refine norm_ (a' := ?_) ?_ ?_
    rotate_left
    · show Act.put _ (none) _ = _
      simp only [Act.put, List.setIfInBounds_toArray, List.set_cons_zero, List.set_cons_succ]
      rfl
    refine pure_ (i := 6) (N := some 3) (v := ?_) (a' := ?_) #[true, true, true, true, true, true, true, false] rfl rfl (by kernel_rfl) (fun _ _ _ h => h) (Or.inl ⟨by rfl, ?_⟩) ?_ ?_
    rotate_left
    · intro w_
      go_simp
      with_reducible rfl
    rotate_left
    · simp only [Act.put, List.setIfInBounds_toArray, List.set_cons_zero, List.set_cons_succ]
      rfl
    refine pure_ (i := 7) (N := some 4) (v := ?_) (a' := ?_) #[true, true, true, true, true, true, true, true] rfl rfl (by kernel_rfl) (fun _ _ _ h => h) (Or.inl ⟨by rfl, ?_⟩) ?_ ?_
    rotate_left
    · intro w_
      go_simp
      with_reducible rfl
    rotate_left
    · simp only [Act.put, List.setIfInBounds_toArray, List.set_cons_zero, List.set_cons_succ]
      rfl
    refine done_ (by kernel_rfl) ?_
    go_wp2
    refine bodyPost_ret (ret_box3 rfl _ w.heap.size hb9 fr0_wf rfl) rfl ?_
    exact nx_post HR.out rfl ((HN.out.drewN 1).only ho9 (Nat.le_refl _) hgw)
  · have d0 : (r.e != 0) = false := by simpa using c0
    have HE0 := Lib.hid (show r.e = 0 by simpa using c0)
    clear c0
    obtain ⟨lf, hlf⟩ : ∃ lf : Int, lf = (r.left : Int) := ⟨_, rfl⟩
    have hlr : 0 ≤ lf ∧ lf ≤ 4096 := by omega
    rw [← hlf] at k3
    have HLF := Lib.hid hlf
    by_cases c1 : r.left = 0
    · have d1 : (lf == 0) = true := by rw [beq_iff_eq]; omega
      clear hlf
      by_cases c2 : r.at_ < b.length
      · have d2 : decide ((r.at_ : Int) < (b.length : Int)) = true := decide_eq_true (by omega)
        have d2n : decide (r.at_ < b.length) = true := decide_eq_true c2
        have HR := Lib.hid (show nextS b (gB b 3) r = ((en0, false, 3), { r with fault := r.at_, e := 3 }) from nextS_a HE0.out c1 c2)
        clear c1 c2
        go_upto_region 6 with fail
        go_quiet (fail)
        have HN2 := Lib.hid (HN.out.drewN nq)
        have HB22 : Hid ((W3.drewN nq).heap[w.heap.size]? = some (.cells (enC en0).toArray 44 (0, 0))) := Lib.hid HB2.out
        have HB25 : Hid (Rng (W3.drewN nq) ⟨w.heap.size + 1, 0, none⟩ (enC en0)) := Lib.hid HB5.out
        go_upto_region 8 with (first | ((with_reducible refine gate_store (t := 3) (p := 57) rfl ?_); refine wpList_store_rd rfl 3 (.tmp 57) (.tmp 55) rfl HN2.out 5 (by simp [rdC]) (.int .i64 (r.at_ : Int)) rfl rfl rfl (by kernel_rfl) rfl ?_; intro W5 hW5 ho5) | ((with_reducible refine gate_store (t := 26) (p := 59) rfl ?_); refine wpList_store_rd rfl 26 (.tmp 59) (.const (.int .i64 3)) rfl hW5 6 (by simp [rdC]) (.int .i64 3) rfl rfl rfl (by kernel_rfl) rfl ?_; intro W6 hW6 ho6))
        have b26 : W6.heap[w.heap.size]? = some (.cells (enC en0).toArray 44 (0, 0)) := ((ho6.block _ (by omega)).trans (ho5.block _ (by omega))).trans HB22.out
        have b56 : Rng W6 ⟨w.heap.size + 1, 0, none⟩ (enC en0) := ho6.rng (by omega) (ho5.rng (by omega) HB25.out)
        have HN6 : Hid (Nx w g W6 (rdC A c b n { r with fault := r.at_, e := 3 })) := Lib.hid hW6
        refine start_ (n := 8) (S := fun W => W.cell? ⟨g, 6, none⟩ = some (.int .i64 3) ∧ Rng W ⟨w.heap.size + 1, 0, none⟩ (enC en0)) (ds := []) #[false, false, false, false, false, false, false, false] (by kernel_rfl) rfl rfl ⟨(blk_cell HN6.out.a 6), b56⟩ (fun hHeld => ?_)
        refine pure_ (i := 1) (N := some 61) (v := ?_) (a' := ?_) #[false, true, false, false, false, false, false, false] rfl rfl (by kernel_rfl) (fun _ _ _ h => h) (Or.inl ⟨by rfl, ?_⟩) ?_ ?_
        rotate_left
        · intro w_
          go_simp
          with_reducible rfl
        rotate_left
        · simp only [Act.put, List.setIfInBounds_toArray, List.set_cons_zero, List.set_cons_succ]
          rfl
        refine pure_ (i := 2) (N := some 62) (v := ?_) (a' := ?_) #[false, true, true, false, false, false, false, false] rfl rfl (by kernel_rfl) (fun _ _ _ h => h) (Or.inl ⟨by rfl, ?_⟩) ?_ ?_
        rotate_left
        · intro w_
          go_simp
          with_reducible rfl
        rotate_left
        · simp only [Act.put, List.setIfInBounds_toArray, List.set_cons_zero, List.set_cons_succ]
          rfl
        refine pure_ (i := 3) (N := some 63) (v := ?_) (a' := ?_) #[false, true, true, true, false, false, false, false] rfl rfl (by kernel_rfl) (fun _ _ _ h => h) (Or.inl ⟨by rfl, ?_⟩) ?_ ?_
        rotate_left
        · intro w_
          go_simp
          with_reducible rfl
        rotate_left
        · simp only [Act.put, List.setIfInBounds_toArray, List.set_cons_zero, List.set_cons_succ]
          rfl
        refine take_ (i := 0) (N := some 60) (v := ?_) (a' := ?_) #[true, true, true, true, false, false, false, false] rfl rfl (by kernel_rfl) (fun _ _ _ h => h) (Or.inl ⟨by rfl, ?_⟩) hHeld ?_ ?_
        rotate_left
        · intro w_ hS_
          refine exec_load_any (ty := 44) (x := .tmp 5) (p := ⟨w.heap.size + 1, 0, none⟩) (cs := enC en0) ?_ ?_ hS_.2 Try.underlying44 rfl (by rw [enC_len fr0_wf]; kernel_rfl)
          · rfl
          · rfl
        rotate_left
        · simp only [Act.put, List.setIfInBounds_toArray, List.set_cons_zero, List.set_cons_succ]
          rfl
        refine take_ (i := 4) (N := some 64) (v := ?_) (a' := ?_) #[true, true, true, true, true, false, false, false] rfl rfl (by kernel_rfl) (fun _ _ _ h => h) (Or.inl ⟨by rfl, ?_⟩) hHeld ?_ ?_
        rotate_left
        · intro w_ hS_
          have s0 := hS_.1
          go_simp
          with_reducible rfl
        rotate_left
        · simp only [Act.put, List.setIfInBounds_toArray, List.set_cons_zero, List.set_cons_succ]
          rfl
        refine one_ (i := 5) (N := none) #[true, true, true, true, true, true, false, false] rfl rfl (by kernel_rfl) (by decide) (fun K hK => ?_)
        refine skip_box (p := .tmp 2) (q := .tmp 60) (by rfl) rfl w.heap.size b26 fr0_wf en0 fr0_wf rfl rfl (fun W9 hb9 ho9 => ?_)
        refine hK.out _ _ ⟨ho9.cell (by show g ≠ w.heap.size; omega) hHeld.1, ho9.rng (by omega) hHeld.2⟩ (fun hHeld => ?_)
        clear hK K
        refine norm_ (a' := ?_) ?_ ?_
        rotate_left
        · show Act.put _ (none) _ = _
          simp only [Act.put, List.setIfInBounds_toArray, List.set_cons_zero, List.set_cons_succ]
          rfl
        refine pure_ (i := 6) (N := some 3) (v := ?_) (a' := ?_) #[true, true, true, true, true, true, true, false] rfl rfl (by kernel_rfl) (fun _ _ _ h => h) (Or.inl ⟨by rfl, ?_⟩) ?_ ?_
        rotate_left
        · intro w_
          go_simp
          with_reducible rfl
        rotate_left
        · simp only [Act.put, List.setIfInBounds_toArray, List.set_cons_zero, List.set_cons_succ]
          rfl
        refine pure_ (i := 7) (N := some 4) (v := ?_) (a' := ?_) #[true, true, true, true, true, true, true, true] rfl rfl (by kernel_rfl) (fun _ _ _ h => h) (Or.inl ⟨by rfl, ?_⟩) ?_ ?_
        rotate_left
        · intro w_
          go_simp
          with_reducible rfl
        rotate_left
        · simp only [Act.put, List.setIfInBounds_toArray, List.set_cons_zero, List.set_cons_succ]
          rfl
        refine done_ (by kernel_rfl) ?_
        go_wp2
        refine bodyPost_ret (ret_box3 rfl _ w.heap.size hb9 fr0_wf rfl) rfl ?_
        exact nx_post HR.out rfl ((HN6.out.drewN 1).only ho9 (Nat.le_refl _) hgw)
      · have d2 : decide ((r.at_ : Int) < (b.length : Int)) = false := decide_eq_false (by omega)
        have d2n : decide (r.at_ < b.length) = false := decide_eq_false c2
        have HR := Lib.hid (show nextS b (gB b 3) r = ((en0, false, 0), r) from nextS_b HE0.out c1 c2)
        clear c1 c2
        go_upto_region 6 with fail
        go_quiet (fail)
        have HB22 : Hid ((W3.drewN nq).heap[w.heap.size]? = some (.cells (enC en0).toArray 44 (0, 0))) := Lib.hid HB2.out
        have HB25 : Hid (Rng (W3.drewN nq) ⟨w.heap.size + 1, 0, none⟩ (enC en0)) := Lib.hid HB5.out
        have HNq := Lib.hid (HN.out.drewN nq)
        have k3q : (W3.drewN nq).cell? ⟨g, 3, none⟩ = some (.int .i64 lf) := k3
        generalize W3.drewN nq = W4 at HNq HB22 HB25 k3q ⊢
        clear k3 HN HB2 HB5
        go_wp2_with (first | ((with_reducible refine gate_dst (N := 71) rfl ?_); refine wpList_load_any rfl 44 (.tmp 5) rfl ⟨w.heap.size + 1, 0, none⟩ rfl (enC en0) _ HB25.out Try.underlying44 rfl (by rw [enC_len fr0_wf]; kernel_rfl) ?_) | ((with_reducible refine gate_store (t := 44) (p := 2) rfl ?_); refine wpList_store_box rfl (.tmp 2) (.tmp 71) rfl w.heap.size HB22.out fr0_wf en0 fr0_wf rfl rfl ?_; intro W9 hb9 ho9))
        refine bodyPost_ret (ret_box3 rfl _ w.heap.size hb9 fr0_wf rfl) rfl ?_
        exact nx_post HR.out rfl (HNq.out.only ho9 (Nat.le_refl _) hgw)
    · have d1 : (lf == 0) = false := by rw [beq_eq_false_iff_ne]; omega
      have HC1 := Lib.hid c1
      obtain ⟨lm, hlm⟩ : ∃ lm : Nat, lm = r.left - 1 := ⟨_, rfl⟩
      have el : lf - 1 = (lm : Int) := by omega
      have HLM := Lib.hid hlm
      clear c1 hlm hlf
      go_upto_region 6 with fail
      go_quiet (fail)
      have HBq : Hid (RdB (W3.drewN nq) g A c b n r) := Lib.hid (HB.out.next (pw_below_drewN HW3.out nq))
      have HNq := Lib.hid (HN.out.drewN nq)
      have HB2q : Hid ((W3.drewN nq).heap[w.heap.size]? = some (.cells (enC en0).toArray 44 (0, 0))) := Lib.hid HB2.out
      have HB5q : Hid (Rng (W3.drewN nq) ⟨w.heap.size + 1, 0, none⟩ (enC en0)) := Lib.hid HB5.out
      have hszq : (W3.drewN nq).heap.size = w.heap.size + 2 := hsz
      have k3q : (W3.drewN nq).cell? ⟨g, 3, none⟩ = some (.int .i64 lf) := k3
      generalize W3.drewN nq = W4 at HBq HNq HB2q HB5q hszq k3q ⊢
      clear k0 k1 k3 k6 k7 HN HB2 HB5 HW3 hsz
      cases ho : oneS b (gB b 3) r.at_ r.last with
      | inl x =>
        have HR := Lib.hid (nextS_inl HE0.out HC1.out ho)
        have d2 : (x.2 != 0) = true := by simpa using oneS_err b _ _ _ x ho
        have HE : Hid (∀ e w', EtPost b r W4 e w' → e = .returned (.tuple #[enV en0, .int .i64 x.1, .int .i64 x.2]) ∧ Below W4.heap.size W4 w') := Lib.hid (fun e w' he => by
          unfold EtPost at he
          rw [ho] at he
          exact he)
        have HC := Lib.hid (entry_c g A c b n r W4 HBq.out)
        clear ho
        go_upto_region 12 with (first | (go_at_call 40; refine HC.out.mono ?_; intro e w5 he; obtain ⟨rfl, hb5⟩ := HE.out e w5 he; clear he) | ((with_reducible refine gate_dst (N := 6) rfl ?_); refine wpList_alloc_box rfl rfl ?_; intro W6 hW6 hbe6 hs6) | ((with_reducible refine gate_store (t := 44) (p := 6) rfl ?_); refine wpList_store_box rfl (.tmp 6) (.tmp 75) rfl w5.heap.size hW6 fr0_wf en0 fr0_wf rfl rfl ?_; intro W7 hW7 ho7))
        have hs5 := hb5.size
        have HN7 : Hid (Nx w g W7 (rdC A c b n r)) := Lib.hid (((HNq.out.below hb5).below hbe6).only ho7 (by omega) hgw)
        have HB27 : Hid (W7.heap[w.heap.size]? = some (.cells (enC en0).toArray 44 (0, 0))) := Lib.hid ((ho7.block _ (by omega)).trans (blk_below (blk_below HB2q.out hb5) hbe6))
        have HB57 : Hid (Rng W7 ⟨w.heap.size + 1, 0, none⟩ (enC en0)) := Lib.hid (ho7.rng (by omega) ((HB5q.out.below hb5).below hbe6))
        clear HNq HB2q HB5q hW6 hbe6 hs6 hW7 ho7 hb5 HC HE HBq k3q
        go_wp2_with (first | ((with_reducible refine gate_store (t := 3) (p := 85) rfl ?_); refine wpList_store_rd rfl 3 (.tmp 85) (.tmp 82) rfl HN7.out 5 (by simp [rdC]) (.int .i64 x.1) rfl rfl rfl (by kernel_rfl) rfl ?_; intro W8 hW8 ho8) | ((with_reducible refine gate_store (t := 26) (p := 87) rfl ?_); refine wpList_store_rd rfl 26 (.tmp 87) (.tmp 83) rfl hW8 6 (by simp [rdC]) (.int .i64 x.2) rfl rfl rfl (by kernel_rfl) rfl ?_; intro Wa hWa hoa) | ((with_reducible refine gate_dst (N := 88) rfl ?_); refine wpList_load_any rfl 44 (.tmp 5) rfl ⟨w.heap.size + 1, 0, none⟩ rfl (enC en0) _ (hoa.rng (by omega) (ho8.rng (by omega) HB57.out)) Try.underlying44 rfl (by rw [enC_len fr0_wf]; kernel_rfl) ?_) | ((with_reducible refine gate_store (t := 44) (p := 2) rfl ?_); refine wpList_store_box rfl (.tmp 2) (.tmp 88) rfl w.heap.size ((hoa.block _ (by omega)).trans ((ho8.block _ (by omega)).trans HB27.out)) fr0_wf en0 fr0_wf rfl rfl ?_; intro W9 hb9 ho9))
        refine bodyPost_ret (ret_box3 rfl _ w.heap.size hb9 fr0_wf rfl) rfl ?_
        exact nx_post HR.out rfl (hWa.only ho9 (Nat.le_refl _) hgw)
      | inr x =>
        have hwf := (oneS_next b (gB b 3) r.at_ r.last x.1 x.2 (gB_range b HBq.out.y.y 3).1 HBq.out.y.y ho).2.2
        have hx2 := (oneS_next b (gB b 3) r.at_ r.last x.1 x.2 (gB_range b HBq.out.y.y 3).1 HBq.out.y.y ho).2.1
        have HR := Lib.hid (nextS_inr HE0.out HC1.out ho)
        have HE : Hid (∀ e w', EtPost b r W4 e w' → e = .returned (.tuple #[.agg (enC x.1).toArray, .int .i64 (x.2 : Int), .int .i64 0]) ∧ Below W4.heap.size W4 w') := Lib.hid (fun e w' he => by
          unfold EtPost at he
          rw [ho] at he
          exact he)
        have HC := Lib.hid (entry_c g A c b n r W4 HBq.out)
        have HWF := Lib.hid hwf
        obtain ⟨x, q⟩ := x
        clear ho hwf
        go_upto_region 12 with (first | (go_at_call 40; refine HC.out.mono ?_; intro e w5 he; obtain ⟨rfl, hb5⟩ := HE.out e w5 he; clear he) | ((with_reducible refine gate_dst (N := 6) rfl ?_); refine wpList_alloc_box rfl rfl ?_; intro W6 hW6 hbe6 hs6) | ((with_reducible refine gate_store (t := 44) (p := 6) rfl ?_); refine wpList_store_box rfl (.tmp 6) (.tmp 75) rfl w5.heap.size hW6 fr0_wf x HWF.out rfl rfl ?_; intro W7 hW7 ho7))
        have hs5 := hb5.size
        have HN7 : Hid (Nx w g W7 (rdC A c b n r)) := Lib.hid (((HNq.out.below hb5).below hbe6).only ho7 (by omega) hgw)
        have HB27 : Hid (W7.heap[w.heap.size]? = some (.cells (enC en0).toArray 44 (0, 0))) := Lib.hid ((ho7.block _ (by omega)).trans (blk_below (blk_below HB2q.out hb5) hbe6))
        obtain ⟨k6, hk6⟩ : ∃ k6, k6 = w5.heap.size := ⟨_, rfl⟩
        rw [← hk6] at hW7 ⊢
        have hk6w : w.heap.size < k6 := by omega
        have HB67 := Lib.hid hW7
        have c6 : W7.cell? ⟨k6, 0, none⟩ = some (.int .i64 x.at_) := blk_cell hW7 0
        clear HNq HB2q HB5q hW6 hbe6 hs6 hW7 ho7 hb5 HC HE HBq k3q hk6 hs5 hszq
        go_upto_region 15 with fail
        refine start_ (n := 11) (S := fun W => W.cell? ⟨k6, 0, none⟩ = some (.int .i64 x.at_)) (ds := []) #[false, false, false, false, false, false, false, false, false, false, false] (by kernel_rfl) rfl rfl c6 (fun hHeld => ?_)
        refine pure_ (i := 0) (N := some 90) (v := ?_) (a' := ?_) #[true, false, false, false, false, false, false, false, false, false, false] rfl rfl (by kernel_rfl) (fun _ _ _ h => h) (Or.inl ⟨by rfl, ?_⟩) ?_ ?_
        rotate_left
        · intro w_
          go_simp
          with_reducible rfl
        rotate_left
        · simp only [Act.put, List.setIfInBounds_toArray, List.set_cons_zero, List.set_cons_succ]
          rfl
        refine pure_ (i := 1) (N := some 91) (v := ?_) (a' := ?_) #[true, true, false, false, false, false, false, false, false, false, false] rfl rfl (by kernel_rfl) (fun _ _ _ h => h) (Or.inl ⟨by rfl, ?_⟩) ?_ ?_
        rotate_left
        · intro w_
          go_simp
          with_reducible rfl
        rotate_left
        · simp only [Act.put, List.setIfInBounds_toArray, List.set_cons_zero, List.set_cons_succ]
          rfl
        refine pure_ (i := 2) (N := some 92) (v := ?_) (a' := ?_) #[true, true, true, false, false, false, false, false, false, false, false] rfl rfl (by kernel_rfl) (fun _ _ _ h => h) (Or.inl ⟨by rfl, ?_⟩) ?_ ?_
        rotate_left
        · intro w_
          go_simp
          with_reducible rfl
        rotate_left
        · simp only [Act.put, List.setIfInBounds_toArray, List.set_cons_zero, List.set_cons_succ]
          rfl
        refine pure_ (i := 3) (N := some 93) (v := ?_) (a' := ?_) #[true, true, true, true, false, false, false, false, false, false, false] rfl rfl (by kernel_rfl) (fun _ _ _ h => h) (Or.inl ⟨by rfl, ?_⟩) ?_ ?_
        rotate_left
        · intro w_
          go_simp
          with_reducible rfl
        rotate_left
        · simp only [Act.put, List.setIfInBounds_toArray, List.set_cons_zero, List.set_cons_succ]
          rfl
        refine pure_ (i := 5) (N := some 95) (v := ?_) (a' := ?_) #[true, true, true, true, false, true, false, false, false, false, false] rfl rfl (by kernel_rfl) (fun _ _ _ h => h) (Or.inl ⟨by rfl, ?_⟩) ?_ ?_
        rotate_left
        · intro w_
          go_simp
          with_reducible rfl
        rotate_left
        · simp only [Act.put, List.setIfInBounds_toArray, List.set_cons_zero, List.set_cons_succ]
          rfl
        refine pure_ (i := 6) (N := some 96) (v := ?_) (a' := ?_) #[true, true, true, true, false, true, true, false, false, false, false] rfl rfl (by kernel_rfl) (fun _ _ _ h => h) (Or.inl ⟨by rfl, ?_⟩) ?_ ?_
        rotate_left
        · intro w_
          go_simp
          with_reducible rfl
        rotate_left
        · simp only [Act.put, List.setIfInBounds_toArray, List.set_cons_zero, List.set_cons_succ]
          rfl
        refine take_ (i := 4) (N := some 94) (v := ?_) (a' := ?_) #[true, true, true, true, true, true, true, false, false, false, false] rfl rfl (by kernel_rfl) (fun _ _ _ h => h) (Or.inl ⟨by rfl, ?_⟩) hHeld ?_ ?_
        rotate_left
        · intro w_ hS_
          have s0 := hS_
          go_simp
          with_reducible rfl
        rotate_left
        · simp only [Act.put, List.setIfInBounds_toArray, List.set_cons_zero, List.set_cons_succ]
          rfl
        refine one_ (i := 7) (N := none) #[true, true, true, true, true, true, true, true, false, false, false] rfl rfl (by kernel_rfl) (by decide) (fun K hK => ?_)
        refine skip_step (by rfl) (exec_put_rd (t := 3) (p := .tmp 96) (q := .tmp 92) rfl (HN7.out.drewN 1).a 1 (by simp [rdC]) (.int .i64 (q : Int)) rfl rfl rfl (by kernel_rfl) rfl) ?_
        refine hK.out _ _ ((set_only _ g 1 _).cell (by show k6 ≠ g; omega) hHeld) (fun hHeld => ?_)
        clear hK K
        refine norm_ (a' := ?_) ?_ ?_
        rotate_left
        · show Act.put _ (none) _ = _
          simp only [Act.put, List.setIfInBounds_toArray, List.set_cons_zero, List.set_cons_succ]
          rfl
        refine pure_ (i := 8) (N := some 97) (v := ?_) (a' := ?_) #[true, true, true, true, true, true, true, true, true, false, false] rfl rfl (by kernel_rfl) (fun _ _ _ h => h) (Or.inl ⟨by rfl, ?_⟩) ?_ ?_
        rotate_left
        · intro w_
          go_simp
          with_reducible rfl
        rotate_left
        · simp only [Act.put, List.setIfInBounds_toArray, List.set_cons_zero, List.set_cons_succ]
          rfl
        refine pure_ (i := 9) (N := some 98) (v := ?_) (a' := ?_) #[true, true, true, true, true, true, true, true, true, true, false] rfl rfl (by kernel_rfl) (fun _ _ _ h => h) (Or.inl ⟨by rfl, ?_⟩) ?_ ?_
        rotate_left
        · intro w_
          go_simp
          with_reducible rfl
        rotate_left
        · simp only [Act.put, List.setIfInBounds_toArray, List.set_cons_zero, List.set_cons_succ]
          rfl
        refine one_ (i := 10) (N := none) #[true, true, true, true, true, true, true, true, true, true, true] rfl rfl (by kernel_rfl) (by decide) (fun K hK => ?_)
        refine skip_step (by rfl) (exec_put_rd (t := 3) (p := .tmp 98) (q := .tmp 94) rfl ((HN7.out.drewN 1).put 1 (.int .i64 (q : Int))).a 2 (by simp [rdC]) (.int .i64 x.at_) rfl rfl rfl (by kernel_rfl) rfl) ?_
        refine hK.out _ _ ((set_only _ g 2 _).cell (by show k6 ≠ g; omega) hHeld) (fun hHeld => ?_)
        clear hK K
        refine norm_ (a' := ?_) ?_ ?_
        rotate_left
        · show Act.put _ (none) _ = _
          simp only [Act.put, List.setIfInBounds_toArray, List.set_cons_zero, List.set_cons_succ]
          rfl
        refine done_ (by kernel_rfl) ?_
        have HN8 : Nx w g (((W7.drewN 1).setCell ⟨g, 1, none⟩ (.int .i64 (q : Int))).setCell ⟨g, 2, none⟩ (.int .i64 x.at_)) (((rdC A c b n r).setIfInBounds 1 (.int .i64 (q : Int))).setIfInBounds 2 (.int .i64 x.at_)) := ((HN7.out.drewN 1).put 1 _).put 2 _
        have o1 := set_only (W7.drewN 1) g 1 (.int .i64 (q : Int))
        have o2 := set_only ((W7.drewN 1).setCell ⟨g, 1, none⟩ (.int .i64 (q : Int))) g 2 (.int .i64 x.at_)
        have HB28 : (((W7.drewN 1).setCell ⟨g, 1, none⟩ (.int .i64 (q : Int))).setCell ⟨g, 2, none⟩ (.int .i64 x.at_)).heap[w.heap.size]? = some (.cells (enC en0).toArray 44 (0, 0)) := (o2.block _ (by omega)).trans ((o1.block _ (by omega)).trans HB27.out)
        have HB68 : (((W7.drewN 1).setCell ⟨g, 1, none⟩ (.int .i64 (q : Int))).setCell ⟨g, 2, none⟩ (.int .i64 x.at_)).heap[k6]? = some (.cells (enC x).toArray 44 (0, 0)) := (o2.block _ (by omega)).trans ((o1.block _ (by omega)).trans HB67.out)
        clear o1 o2 hHeld
        generalize ((W7.drewN 1).setCell ⟨g, 1, none⟩ (.int .i64 (q : Int))).setCell ⟨g, 2, none⟩ (.int .i64 x.at_) = W8 at HN8 HB28 HB68 ⊢
        have k3 : W8.cell? ⟨g, 3, none⟩ = some (.int .i64 lf) := by
          rw [HLF.out]
          exact blk_cell HN8.a 3
        have HN8 := Lib.hid HN8
        have HB28 := Lib.hid HB28
        have HB68 := Lib.hid HB68
        go_wp2_with (first | ((with_reducible refine gate_store (t := 3) (p := 105) rfl ?_); refine wpList_store_rd rfl 3 (.tmp 105) (.tmp 103) rfl HN8.out 3 (by simp [rdC]) (.int .i64 (lm : Int)) rfl rfl rfl (by kernel_rfl) rfl ?_; intro Wa hWa hoa) | ((with_reducible refine gate_dst (N := 106) rfl ?_); refine wpList_load_any rfl 44 (.tmp 6) rfl ⟨k6, 0, none⟩ rfl (enC x) _ (rng_of (range_blk ((hoa.block _ (by omega)).trans HB68.out))) Try.underlying44 rfl (by rw [enC_len HWF.out]; kernel_rfl) ?_) | ((with_reducible refine gate_store (t := 44) (p := 2) rfl ?_); refine wpList_store_box rfl (.tmp 2) (.tmp 106) rfl w.heap.size ((hoa.block _ (by omega)).trans HB28.out) fr0_wf x HWF.out rfl rfl ?_; intro W9 hb9 ho9))
        refine bodyPost_ret (ret_box3 rfl _ w.heap.size hb9 HWF.out rfl) rfl ?_
        rw [HLM.out] at hWa
        exact nx_post HR.out rfl (hWa.only ho9 (Nat.le_refl _) hgw)
end Go.Proofs.Ytfbdnfokoakfaaa.Ct
