/- The reader's entry: its walk. -/
import Derived.Test.YtfbdnfokoakfaaaEntA
import Derived.Test.YtfbdnfokoakfaaaREncC
namespace Go.Proofs.Ytfbdnfokoakfaaa.Ct
open Go.RowKit Go.Proofs.YtfbdnfokoakfaaaW.PrintWords Go.Proofs.YtfbdnfokoakfaaaW.PrintLast Go.Proofs.YtfbdnfokoakfaaaW.PrintMore
set_option linter.unusedVariables false
set_option linter.unusedSimpArgs false

theorem pad_wf {L H : Int} {s : List Int} (h : s.length ≤ 24) (hr : ∀ x, x ∈ s → 0 ≤ x ∧ x ≤ 255) : (⟨L, H, padS s⟩ : Fr).wf := by
  refine ⟨?_, fun t ht => ?_⟩
  · show (padS s).length = 24
    unfold padS
    rw [List.length_append, List.length_replicate]
    omega
  · have ht' : t ∈ padS s := ht
    unfold padS at ht'
    rcases List.mem_append.1 ht' with h1 | h1
    · exact hr t h1
    · have := List.eq_of_mem_replicate h1
      omega
theorem pad_set (t : List Int) (j : Nat) (hj : j < 24) (hl : j < t.length) : padS (t.take (j + 1)) = (padS (t.take j)).set j (gB t j) := by
  have hlt : (t.take j).length = j := by rw [List.length_take]; omega
  have hg : gB t j = t[j] := by unfold gB; rw [List.getD_eq_getElem?_getD, List.getElem?_eq_getElem hl]; rfl
  unfold padS
  rw [hg, List.take_succ_eq_append_getElem hl, List.length_append, hlt, List.length_singleton, List.set_append_right _ _ (by omega), hlt, Nat.sub_self, show 24 - j = (24 - (j + 1)) + 1 by omega, List.replicate_succ, List.set_cons_zero, List.append_assoc]
  rfl
theorem slot_put (v : Int) (d : Bool) (L H : Int) (t : List Int) (j : Nat) (hj : j < 24) (hl : j < t.length) : enC ⟨v, d, ⟨L, H, padS (t.take (j + 1))⟩⟩ = (enC ⟨v, d, ⟨L, H, padS (t.take j)⟩⟩).set (4 + j) (.int .u8 (gB t j)) := by
  rw [show 4 + j = j + 1 + 1 + 1 + 1 by omega]
  simp only [enC, frC, List.set_cons_succ]
  rw [pad_set t j hj hl]
  simp only [nums, List.map_set]

set_option maxHeartbeats 4000000 in
set_option maxRecDepth 100000 in
theorem entry_c (g : Nat) (A : Option Addr) (c : Nat) (b : List Int) (n : Nat) (r : RdS) (w : World) (h : RdB w g A c b n r) : Calls Try.prog 40 #[.pointer (some ⟨g, 0, none⟩)] w (EtPost b r w) := by
  have HB := Lib.hid h
  have hgw := blk_lt h.a
  have hpl := h.p
  have hl48 := h.y.l
  have hL16 := h.L
  have hsix := h.six
  clear h

  go_enter Try.func40, Try.ntmps40
  go_wp2
  refine gen_world (fun W => Bx w W [en0]) (Bx.alloc (l := []) ⟨fun i hi => absurd hi (Nat.not_lt_zero _), rfl, Below.refl _ _⟩ en0) ?_
  rintro W0 St00
  have hs1 : W0.drew.heap.size = w.heap.size + 1 := St00.sz
  refine start_ (n := 13) (S := fun W => Below w.heap.size w W) (ds := []) #[false, false, false, false, false, false, false, false, false, false, false, false, false] (by kernel_rfl) rfl rfl (St00.drewN 1).below (fun hHeld => ?_)
  refine pure_ (i := 0) (N := some 12) (v := ?_) (a' := ?_) #[true, false, false, false, false, false, false, false, false, false, false, false, false] rfl rfl (by kernel_rfl) (fun _ _ _ h => h) (Or.inl ⟨by rfl, ?_⟩) ?_ ?_
  rotate_left
  · intro w_
    go_simp
    with_reducible rfl
  rotate_left
  · simp only [Act.put, List.setIfInBounds_toArray, List.set_cons_zero, List.set_cons_succ]
    rfl
  refine pure_ (i := 1) (N := some 13) (v := ?_) (a' := ?_) #[true, true, false, false, false, false, false, false, false, false, false, false, false] rfl rfl (by kernel_rfl) (fun _ _ _ h => h) (Or.inl ⟨by rfl, ?_⟩) ?_ ?_
  rotate_left
  · intro w_
    go_simp
    with_reducible rfl
  rotate_left
  · simp only [Act.put, List.setIfInBounds_toArray, List.set_cons_zero, List.set_cons_succ]
    rfl
  refine pure_ (i := 2) (N := some 14) (v := ?_) (a' := ?_) #[true, true, true, false, false, false, false, false, false, false, false, false, false] rfl rfl (by kernel_rfl) (fun _ _ _ h => h) (Or.inl ⟨by rfl, ?_⟩) ?_ ?_
  rotate_left
  · intro w_
    go_simp
    with_reducible rfl
  rotate_left
  · simp only [Act.put, List.setIfInBounds_toArray, List.set_cons_zero, List.set_cons_succ]
    rfl
  refine pure_ (i := 3) (N := some 15) (v := ?_) (a' := ?_) #[true, true, true, true, false, false, false, false, false, false, false, false, false] rfl rfl (by kernel_rfl) (fun _ _ _ h => h) (Or.inl ⟨by rfl, ?_⟩) ?_ ?_
  rotate_left
  · intro w_
    go_simp
    with_reducible rfl
  rotate_left
  · simp only [Act.put, List.setIfInBounds_toArray, List.set_cons_zero, List.set_cons_succ]
    rfl
  refine pure_ (i := 5) (N := some 17) (v := ?_) (a' := ?_) #[true, true, true, true, false, true, false, false, false, false, false, false, false] rfl rfl (by kernel_rfl) (fun _ _ _ h => h) (Or.inl ⟨by rfl, ?_⟩) ?_ ?_
  rotate_left
  · intro w_
    go_simp
    with_reducible rfl
  rotate_left
  · simp only [Act.put, List.setIfInBounds_toArray, List.set_cons_zero, List.set_cons_succ]
    rfl
  refine pure_ (i := 6) (N := some 18) (v := ?_) (a' := ?_) #[true, true, true, true, false, true, true, false, false, false, false, false, false] rfl rfl (by kernel_rfl) (fun _ _ _ h => h) (Or.inl ⟨by rfl, ?_⟩) ?_ ?_
  rotate_left
  · intro w_
    go_simp
    with_reducible rfl
  rotate_left
  · simp only [Act.put, List.setIfInBounds_toArray, List.set_cons_zero, List.set_cons_succ]
    rfl
  refine pure_ (i := 7) (N := some 19) (v := ?_) (a' := ?_) #[true, true, true, true, false, true, true, true, false, false, false, false, false] rfl rfl (by kernel_rfl) (fun _ _ _ h => h) (Or.inl ⟨by rfl, ?_⟩) ?_ ?_
  rotate_left
  · intro w_
    go_simp
    with_reducible rfl
  rotate_left
  · simp only [Act.put, List.setIfInBounds_toArray, List.set_cons_zero, List.set_cons_succ]
    rfl
  refine take_ (i := 4) (N := some 16) (v := ?_) (a' := ?_) #[true, true, true, true, true, true, true, true, false, false, false, false, false] rfl rfl (by kernel_rfl) (fun _ _ _ h => h) (Or.inl ⟨by rfl, ?_⟩) hHeld ?_ ?_
  rotate_left
  · intro w_ hS_
    have s0 := (HB.out.cells hS_).1
    go_simp
    with_reducible rfl
  rotate_left
  · simp only [Act.put, List.setIfInBounds_toArray, List.set_cons_zero, List.set_cons_succ]
    rfl
  refine take_ (i := 8) (N := some 20) (v := ?_) (a' := ?_) #[true, true, true, true, true, true, true, true, true, false, false, false, false] rfl rfl (by kernel_rfl) (fun _ _ _ h => h) (Or.inl ⟨by rfl, ?_⟩) hHeld ?_ ?_
  rotate_left
  · intro w_ hS_
    have s0 := (HB.out.cells hS_).2.1
    go_simp
    with_reducible rfl
  rotate_left
  · simp only [Act.put, List.setIfInBounds_toArray, List.set_cons_zero, List.set_cons_succ]
    rfl
  refine one_ (i := 9) (N := some 5) #[true, true, true, true, true, true, true, true, true, true, false, false, false] rfl rfl (by kernel_rfl) (by decide) (fun K hK => ?_)
  refine event_step (by rfl) (exec_alloc44 rfl _) ?_
  refine hK.out _ _ (below_alloc hHeld _) (fun hHeld => ?_)
  clear hK K
  refine norm_ (a' := ?_) ?_ ?_
  rotate_left
  · show Act.put _ (some 5) _ = _
    simp only [Act.put, List.setIfInBounds_toArray, List.set_cons_zero, List.set_cons_succ]
    rfl
  refine one_ (i := 10) (N := none) #[true, true, true, true, true, true, true, true, true, true, true, false, false] rfl rfl (by kernel_rfl) (by decide) (fun K hK => ?_)
  refine skip_step (by rfl) (exec_store44_new (p := .tmp 5) (q := .tmp 12) (x := en0) (y := en0) rfl rfl rfl fr0_wf fr0_wf) ?_
  refine hK.out _ _ hHeld (fun hHeld => ?_)
  clear hK K
  refine norm_ (a' := ?_) ?_ ?_
  rotate_left
  · show Act.put _ (none) _ = _
    simp only [Act.put, List.setIfInBounds_toArray, List.set_cons_zero, List.set_cons_succ]
    rfl
  refine pure_ (i := 11) (N := some 6) (v := ?_) (a' := ?_) #[true, true, true, true, true, true, true, true, true, true, true, true, false] rfl rfl (by kernel_rfl) (fun _ _ _ h => h) (Or.inl ⟨by rfl, ?_⟩) ?_ ?_
  rotate_left
  · intro w_
    go_simp
    with_reducible rfl
  rotate_left
  · simp only [Act.put, List.setIfInBounds_toArray, List.set_cons_zero, List.set_cons_succ]
    rfl
  refine pure_ (i := 12) (N := some 7) (v := ?_) (a' := ?_) #[true, true, true, true, true, true, true, true, true, true, true, true, true] rfl rfl (by kernel_rfl) (fun _ _ _ h => h) (Or.inl ⟨by rfl, ?_⟩) ?_ ?_
  rotate_left
  · intro w_
    go_simp
    with_reducible rfl
  rotate_left
  · simp only [Act.put, List.setIfInBounds_toArray, List.set_cons_zero, List.set_cons_succ]
    rfl
  refine done_ (by kernel_rfl) ?_
  have St0 : Bx w (W0.drew.alloc (.cells (enC en0).toArray 44)) [en0, en0] := Bx.alloc (l := [en0]) (St00.drewN 1) en0
  rw [hs1]
  generalize W0.drew.alloc (.cells (enC en0).toArray 44) = W1 at St0 ⊢
  clear hs1 St00 hHeld
  have HSt := Lib.hid St0
  obtain ⟨p, hp⟩ : ∃ p, p = r.at_ := ⟨_, rfl⟩
  rw [← hp] at hpl ⊢
  by_cases c1 : b.length < p + 2
  · have d1 : decide ((b.length : Int) - (p : Int) < 2) = true := decide_eq_true (by omega)
    have HV1 := Lib.hid (show oneS b (gB b 3) r.at_ r.last = .inl ((b.length : Int), 2) by rw [← hp]; unfold oneS; rw [if_pos c1])
    clear hp St0
    go_wp2_with (first | ((with_reducible refine gate_dst (N := 26) rfl ?_); refine wpList_load_any rfl 44 (.tmp 5) rfl ⟨w.heap.size + 1, 0, none⟩ rfl (enC en0) _ (HSt.out.rng 1 (by simp)) Try.underlying44 rfl (by rw [enC_len fr0_wf]; kernel_rfl) ?_) | ((with_reducible refine gate_store (t := 44) (p := 2) rfl ?_); refine wpList_store_blk rfl (.tmp 2) (.tmp 26) rfl HSt.out 0 (by simp) fr0_wf en0 fr0_wf rfl rfl ?_; intro W9 hW9))
    refine bodyPost_ret (ret_cell3 rfl _ hW9 0 (by simp) fr0_wf rfl) rfl ?_
    exact et_inl HV1.out rfl hW9.below
  · have d1 : decide ((b.length : Int) - (p : Int) < 2) = false := decide_eq_false (by omega)
    obtain ⟨A', c', hcut, hY⟩ := HB.out.y.tail p (by omega)
    have hl2 : (b.drop p).length = b.length - p := List.length_drop
    have hgp : gB (b.drop p) 0 = gB b p ∧ gB (b.drop p) 1 = gB b (p + 1) := by
      unfold gB
      simp [List.getD_eq_getElem?_getD, List.getElem?_drop]
    obtain ⟨t, ht⟩ : ∃ t, t = b.drop p := ⟨_, rfl⟩
    rw [← ht] at hcut hY hl2 hgp
    have HWd := Lib.hid (fun W hW => word_c A' c' t W (hY W hW) (by omega))
    rw [hgp.1, hgp.2] at HWd
    obtain ⟨v, hv⟩ : ∃ v, v = gB b p * 256 + gB b (p + 1) := ⟨_, rfl⟩
    rw [← hv] at HWd
    have HP := Lib.hid (And.intro hp hv)
    clear hl2 hgp ht St0 hp hv
    go_wp2_with fail
    refine (HWd.out _ HSt.out.below).mono ?_
    rintro e w1 ⟨rfl, ⟨⟨n1, rfl⟩⟩⟩
    go_upto_region 5 with (first | ((with_reducible refine gate_dst (N := 8) rfl ?_); refine wpList_alloc_blk rfl rfl (HSt.out.drewN _) ?_; intro W2 hW2) | ((with_reducible refine gate_store (t := 44) (p := 8) rfl ?_); refine wpList_store_blk rfl (.tmp 8) (.tmp 33) rfl hW2 2 (by simp) fr0_wf ⟨v, false, fr0⟩ fr0_wf rfl rfl ?_; intro W3 hW3))
    have HS3 : Hid (Bx w W3 [en0, en0, ⟨v, false, fr0⟩]) := Lib.hid hW3
    clear hW3 HSt hW2
    obtain ⟨R, hR⟩ : ∃ R, R = oneS b (gB b 3) r.at_ r.last := ⟨_, rfl⟩
    have HR := Lib.hid hR.symm
    rw [← HP.out.1] at hR
    unfold oneS at hR
    rw [if_neg c1, ← HP.out.2] at hR
    obtain ⟨z, hz⟩ : ∃ z, z = risesS r.last v := ⟨_, rfl⟩
    rw [← hz] at hR
    have HRs := Lib.hid (fun W => rises_c r.last v W)
    rw [← hz] at HRs
    have HV := Lib.hid hR
    clear hz hR
    have k2 := (HB.out.cells HS3.out.below).2.2.1
    have k8 : W3.cell? ⟨w.heap.size + 2, 0, none⟩ = some (.int .i64 v) := (HS3.out.rng 2 (by simp)).at_
    obtain ⟨last, hlast⟩ : ∃ last, last = r.last := ⟨_, rfl⟩
    rw [← hlast] at k2 HRs
    clear hlast

    go_quiet (first | (go_at_call 36; refine Calls.quiet_of ((HRs.out _).mono (by rintro e w1 ⟨rfl, ⟨⟨m, h⟩⟩⟩; exact ⟨rfl, m, h⟩))))
    clear k2 k8
    have HS := Lib.hid (HS3.out.drewN nq)
    generalize W3.drewN nq = W4 at HS ⊢
    clear HS3
    by_cases c2 : z ≠ 0
    · have d2 : (z != 0) = true := by simpa using c2
      have hv := HV.out
      rw [if_pos c2] at hv
      have HV1 := Lib.hid (HR.out.trans hv)
      clear hv c2
      go_wp2_with (first | ((with_reducible refine gate_dst (N := 43) rfl ?_); refine wpList_load_any rfl 44 (.tmp 5) rfl ⟨w.heap.size + 1, 0, none⟩ rfl (enC en0) _ (HS.out.rng 1 (by simp)) Try.underlying44 rfl (by rw [enC_len fr0_wf]; kernel_rfl) ?_) | ((with_reducible refine gate_store (t := 44) (p := 2) rfl ?_); refine wpList_store_blk rfl (.tmp 2) (.tmp 43) rfl HS.out 0 (by simp) fr0_wf en0 fr0_wf rfl rfl ?_; intro W9 hW9))
      refine bodyPost_ret (ret_cell3 rfl _ hW9 0 (by simp) fr0_wf rfl) rfl ?_
      exact et_inl HV1.out rfl hW9.below
    · have d2 : (z != 0) = false := by simpa using c2
      have hv := HV.out
      rw [if_neg c2] at hv
      have HV := Lib.hid hv
      clear hv c2
      obtain ⟨p2, hp2⟩ : ∃ p2 : Nat, p2 = p + 2 := ⟨_, rfl⟩
      have e2 : (p : Int) + 2 = (p2 : Int) := by omega
      have HP2 := Lib.hid hp2
      have hb2 : p2 ≤ b.length := by omega
      by_cases c3 : p2 = b.length
      · have d3 : ((p2 : Int) == (b.length : Int)) = true := by rw [beq_iff_eq]; omega
        have HV1 := Lib.hid (show oneS b (gB b 3) r.at_ r.last = .inl ((p2 : Int), 2) by
          have hv := HV.out
          rw [if_pos (by omega)] at hv
          rw [HR.out, hv, c3])
        clear c3 hp2
        go_wp2_with (first | ((with_reducible refine gate_dst (N := 52) rfl ?_); refine wpList_load_any rfl 44 (.tmp 5) rfl ⟨w.heap.size + 1, 0, none⟩ rfl (enC en0) _ (HS.out.rng 1 (by simp)) Try.underlying44 rfl (by rw [enC_len fr0_wf]; kernel_rfl) ?_) | ((with_reducible refine gate_store (t := 44) (p := 2) rfl ?_); refine wpList_store_blk rfl (.tmp 2) (.tmp 52) rfl HS.out 0 (by simp) fr0_wf en0 fr0_wf rfl rfl ?_; intro W9 hW9))
        refine bodyPost_ret (ret_cell3 rfl _ hW9 0 (by simp) fr0_wf rfl) rfl ?_
        exact et_inl HV1.out rfl hW9.below
      · have d3 : ((p2 : Int) == (b.length : Int)) = false := by rw [beq_eq_false_iff_ne]; omega
        have hv := HV.out
        rw [if_neg (by omega), ← hp2] at hv
        have d4 : decide ((p2 : Int) < (b.length : Int)) = true := decide_eq_true (by omega)
        obtain ⟨ad, rfl, hx2⟩ := (HB.out.y.next HS.out.below).cell p2 (by omega)
        have r2 := gB_range b HB.out.y.y p2
        obtain ⟨x2, hxx2⟩ : ∃ x2, x2 = gB b p2 := ⟨_, rfl⟩
        rw [← hxx2] at hv hx2 r2
        have HV := Lib.hid hv
        clear hv hxx2 hp2
        by_cases c4 : 1 < x2
        · have d5 : decide (1 < x2) = true := decide_eq_true c4
          have HV1 := Lib.hid (show oneS b (gB b 3) r.at_ r.last = .inl ((p2 : Int), 63) by
            have hv := HV.out
            rw [if_pos c4, e2] at hv
            exact HR.out.trans hv)
          clear c4
          go_wp2_with (first | ((with_reducible refine gate_dst (N := 59) rfl ?_); refine wpList_load_any rfl 44 (.tmp 5) rfl ⟨w.heap.size + 1, 0, none⟩ rfl (enC en0) _ (HS.out.rng 1 (by simp)) Try.underlying44 rfl (by rw [enC_len fr0_wf]; kernel_rfl) ?_) | ((with_reducible refine gate_store (t := 44) (p := 2) rfl ?_); refine wpList_store_blk rfl (.tmp 2) (.tmp 59) rfl HS.out 0 (by simp) fr0_wf en0 fr0_wf rfl rfl ?_; intro W9 hW9))
          refine bodyPost_ret (ret_cell3 rfl _ hW9 0 (by simp) fr0_wf rfl) rfl ?_
          exact et_inl HV1.out rfl hW9.below
        · have d5 : decide (1 < x2) = false := decide_eq_false c4
          have hv := HV.out
          rw [if_neg c4] at hv
          have HV := Lib.hid hv
          clear hv c4
          by_cases c5 : x2 = 0
          · have d6 : (x2 == 0) = true := by simpa using c5
            have HV1 := Lib.hid (show oneS b (gB b 3) r.at_ r.last = .inr (⟨v, true, fr0⟩, p2 + 1) by
              have hv := HV.out
              rw [if_pos c5] at hv
              rw [HR.out, hv, HP2.out])
            clear c5
            go_wp2_with (first | ((with_reducible refine gate_store (t := 4) (p := 66) rfl ?_); refine wpList_store_put rfl 4 (.tmp 66) (.const (.bool true)) rfl HS.out 2 (by simp) fr0_wf 1 (by omega) (.bool true) ⟨v, true, fr0⟩ rfl rfl rfl (by kernel_rfl) rfl rfl ?_; intro W5 hW5) | ((with_reducible refine gate_dst (N := 67) rfl ?_); refine wpList_load_any rfl 44 (.tmp 8) rfl ⟨w.heap.size + 2, 0, none⟩ rfl (enC ⟨v, true, fr0⟩) _ (hW5.rng 2 (by simp)) Try.underlying44 rfl (by rw [enC_len (x := ⟨v, true, fr0⟩) fr0_wf]; kernel_rfl) ?_) | ((with_reducible refine gate_store (t := 44) (p := 2) rfl ?_); refine wpList_store_blk rfl (.tmp 2) (.tmp 67) rfl hW5 0 (by simp) fr0_wf ⟨v, true, fr0⟩ fr0_wf rfl rfl ?_; intro W9 hW9))
            refine bodyPost_ret (ret_cell3 rfl _ hW9 0 (by simp) fr0_wf rfl) rfl ?_
            exact et_inr HV1.out rfl hW9.below
          · have d6 : (x2 == 0) = false := by simpa using c5
            have hv := HV.out
            rw [if_neg c5] at hv
            have HV := Lib.hid hv
            clear hv c5
            obtain ⟨p3, hp3⟩ : ∃ p3 : Nat, p3 = p2 + 1 := ⟨_, rfl⟩
            have e3 : (p2 : Int) + 1 = (p3 : Int) := by omega
            have HP3 := Lib.hid hp3
            have hb3 : p3 ≤ b.length := by omega
            have h33 : p + 3 = p3 := by have := HP2.out; omega
            by_cases c6 : p3 = b.length
            · have d7 : ((p3 : Int) == (b.length : Int)) = true := by rw [beq_iff_eq]; omega
              have HV1 := Lib.hid (show oneS b (gB b 3) r.at_ r.last = .inl ((p3 : Int), 2) by
                have hv := HV.out
                rw [if_pos (by omega)] at hv
                rw [HR.out, hv, c6])
              clear c6 hp3 h33
              go_wp2_with (first | ((with_reducible refine gate_dst (N := 76) rfl ?_); refine wpList_load_any rfl 44 (.tmp 5) rfl ⟨w.heap.size + 1, 0, none⟩ rfl (enC en0) _ (HS.out.rng 1 (by simp)) Try.underlying44 rfl (by rw [enC_len fr0_wf]; kernel_rfl) ?_) | ((with_reducible refine gate_store (t := 44) (p := 2) rfl ?_); refine wpList_store_blk rfl (.tmp 2) (.tmp 76) rfl HS.out 0 (by simp) fr0_wf en0 fr0_wf rfl rfl ?_; intro W9 hW9))
              refine bodyPost_ret (ret_cell3 rfl _ hW9 0 (by simp) fr0_wf rfl) rfl ?_
              exact et_inl HV1.out rfl hW9.below
            · have d7 : ((p3 : Int) == (b.length : Int)) = false := by rw [beq_eq_false_iff_ne]; omega
              have hv := HV.out
              rw [if_neg (by omega), h33, show (p : Int) + 3 = (p3 : Int) by omega, show p + 4 = p3 + 1 by omega] at hv
              have d8 : decide ((p3 : Int) < (b.length : Int)) = true := decide_eq_true (by omega)
              have d9 : decide ((3 : Int) < (b.length : Int)) = true := decide_eq_true (by omega)
              have HX3 : Hid (∀ W, Below w.heap.size w W → W.cell? (ad.add p3) = some (.int .u8 (gB b p3))) := Lib.hid (fun W hW => by
                obtain ⟨ad', e', h'⟩ := (HB.out.y.next hW).cell p3 (by omega)
                cases e'
                exact h')
              have HXL : Hid (∀ W, Below w.heap.size w W → W.cell? (ad.add 3) = some (.int .u8 (gB b 3))) := Lib.hid (fun W hW => by
                obtain ⟨ad', e', h'⟩ := (HB.out.y.next hW).cell 3 (by omega)
                cases e'
                exact h')
              have r3 := gB_range b HB.out.y.y p3
              have rL := gB_range b HB.out.y.y 3
              obtain ⟨x3, hxx3⟩ : ∃ x3, x3 = gB b p3 := ⟨_, rfl⟩
              obtain ⟨L, hLL⟩ : ∃ L, L = gB b 3 := ⟨_, rfl⟩
              rw [← hxx3] at hv r3 HX3
              rw [← hLL] at hv rL HXL hL16
              rw [← hLL] at HR
              have HLL := Lib.hid hLL
              obtain ⟨m, hm⟩ : ∃ m : Nat, m = (L + x3).toNat := ⟨_, rfl⟩
              have e4 : L + x3 = (m : Int) := by omega
              rw [← hm, e4] at hv
              have HV := Lib.hid hv
              clear hv hxx3 hLL hp3 hm h33
              go_upto_region 19 with fail
              have l9 : (3 : Int) < (b.length : Int) := by omega
              have l8 : p3 < b.length := by omega
              have w1 : IntKind.i64.wrap L = L := by rw [IntKind.wrap_i64]; omega
              have w2 : IntKind.i64.wrap x3 = x3 := by rw [IntKind.wrap_i64]; omega
              refine start_ (n := 15) (S := fun W => Below w.heap.size w W) (ds := []) #[false, false, false, false, false, false, false, false, false, false, false, false, false, false, false] (by kernel_rfl) rfl rfl (HS.out.drewN 1).below (fun hHeld => ?_)
              refine pure_ (i := 0) (N := some 78) (v := ?_) (a' := ?_) #[true, false, false, false, false, false, false, false, false, false, false, false, false, false, false] rfl rfl (by kernel_rfl) (fun _ _ _ h => h) (Or.inl ⟨by rfl, ?_⟩) ?_ ?_
              rotate_left
              · intro w_
                go_simp
                with_reducible rfl
              rotate_left
              · simp only [Act.put, List.setIfInBounds_toArray, List.set_cons_zero, List.set_cons_succ]
                rfl
              refine pure_ (i := 1) (N := some 79) (v := ?_) (a' := ?_) #[true, true, false, false, false, false, false, false, false, false, false, false, false, false, false] rfl rfl (by kernel_rfl) (fun _ _ _ h => h) (Or.inl ⟨by rfl, ?_⟩) ?_ ?_
              rotate_left
              · intro w_
                go_simp
                with_reducible rfl
              rotate_left
              · simp only [Act.put, List.setIfInBounds_toArray, List.set_cons_zero, List.set_cons_succ]
                rfl
              refine pure_ (i := 4) (N := some 82) (v := ?_) (a' := ?_) #[true, true, false, false, true, false, false, false, false, false, false, false, false, false, false] rfl rfl (by kernel_rfl) (fun _ _ _ h => h) (Or.inl ⟨by rfl, ?_⟩) ?_ ?_
              rotate_left
              · intro w_
                go_simp
                with_reducible rfl
              rotate_left
              · simp only [Act.put, List.setIfInBounds_toArray, List.set_cons_zero, List.set_cons_succ]
                rfl
              refine pure_ (i := 5) (N := some 83) (v := ?_) (a' := ?_) #[true, true, false, false, true, true, false, false, false, false, false, false, false, false, false] rfl rfl (by kernel_rfl) (fun _ _ _ h => h) (Or.inl ⟨by rfl, ?_⟩) ?_ ?_
              rotate_left
              · intro w_
                go_simp
                with_reducible rfl
              rotate_left
              · simp only [Act.put, List.setIfInBounds_toArray, List.set_cons_zero, List.set_cons_succ]
                rfl
              refine pure_ (i := 6) (N := some 84) (v := ?_) (a' := ?_) #[true, true, false, false, true, true, true, false, false, false, false, false, false, false, false] rfl rfl (by kernel_rfl) (fun _ _ _ h => h) (Or.inl ⟨by rfl, ?_⟩) ?_ ?_
              rotate_left
              · intro w_
                go_simp
                with_reducible rfl
              rotate_left
              · simp only [Act.put, List.setIfInBounds_toArray, List.set_cons_zero, List.set_cons_succ]
                rfl
              refine take_ (i := 2) (N := some 80) (v := ?_) (a' := ?_) #[true, true, true, false, true, true, true, false, false, false, false, false, false, false, false] rfl rfl (by kernel_rfl) (fun _ _ _ h => h) (Or.inl ⟨by rfl, ?_⟩) hHeld ?_ ?_
              rotate_left
              · intro w_ hS_
                have s0 := HXL.out _ hS_
                simp only [Addr.add, show ¬ (3 : Nat) = 0 by decide, if_false] at s0
                go_simp
                with_reducible rfl
              rotate_left
              · simp only [Act.put, List.setIfInBounds_toArray, List.set_cons_zero, List.set_cons_succ]
                rfl
              refine pure_ (i := 3) (N := some 81) (v := ?_) (a' := ?_) #[true, true, true, true, true, true, true, false, false, false, false, false, false, false, false] rfl rfl (by kernel_rfl) (fun _ _ _ h => h) (Or.inl ⟨by rfl, ?_⟩) ?_ ?_
              rotate_left
              · intro w_
                go_simp
                with_reducible rfl
              rotate_left
              · simp only [Act.put, List.setIfInBounds_toArray, List.set_cons_zero, List.set_cons_succ]
                rfl
              refine pure_ (i := 9) (N := some 87) (v := ?_) (a' := ?_) #[true, true, true, true, true, true, true, false, false, true, false, false, false, false, false] rfl rfl (by kernel_rfl) (fun _ _ _ h => h) (Or.inl ⟨by rfl, ?_⟩) ?_ ?_
              rotate_left
              · intro w_
                go_simp
                with_reducible rfl
              rotate_left
              · simp only [Act.put, List.setIfInBounds_toArray, List.set_cons_zero, List.set_cons_succ]
                rfl
              refine pure_ (i := 10) (N := some 88) (v := ?_) (a' := ?_) #[true, true, true, true, true, true, true, false, false, true, true, false, false, false, false] rfl rfl (by kernel_rfl) (fun _ _ _ h => h) (Or.inl ⟨by rfl, ?_⟩) ?_ ?_
              rotate_left
              · intro w_
                go_simp
                with_reducible rfl
              rotate_left
              · simp only [Act.put, List.setIfInBounds_toArray, List.set_cons_zero, List.set_cons_succ]
                rfl
              refine take_ (i := 7) (N := some 85) (v := ?_) (a' := ?_) #[true, true, true, true, true, true, true, true, false, true, true, false, false, false, false] rfl rfl (by kernel_rfl) (fun _ _ _ h => h) (Or.inl ⟨by rfl, ?_⟩) hHeld ?_ ?_
              rotate_left
              · intro w_ hS_
                have s0 := HX3.out _ hS_
                go_simp
                with_reducible rfl
              rotate_left
              · simp only [Act.put, List.setIfInBounds_toArray, List.set_cons_zero, List.set_cons_succ]
                rfl
              refine pure_ (i := 8) (N := some 86) (v := ?_) (a' := ?_) #[true, true, true, true, true, true, true, true, true, true, true, false, false, false, false] rfl rfl (by kernel_rfl) (fun _ _ _ h => h) (Or.inl ⟨by rfl, ?_⟩) ?_ ?_
              rotate_left
              · intro w_
                go_simp
                with_reducible rfl
              rotate_left
              · simp only [Act.put, List.setIfInBounds_toArray, List.set_cons_zero, List.set_cons_succ]
                rfl
              refine one_ (i := 11) (N := none) #[true, true, true, true, true, true, true, true, true, true, true, true, false, false, false] rfl rfl (by kernel_rfl) (by decide) (fun K hK => ?_)
              refine skip_step (by rfl) (exec_put (t := 3) (p := .tmp 88) (q := .tmp 81) rfl (HS.out.drewN 1) 2 (by simp) fr0_wf 2 (by omega) (.int .i64 L) rfl rfl rfl (by kernel_rfl) rfl) ?_
              refine hK.out _ _ ((HS.out.drewN 1).put 2 (by simp) 2 (.int .i64 L) ⟨v, false, ⟨L, 0, List.replicate 24 0⟩⟩ rfl).below (fun hHeld => ?_)
              clear hK K
              refine norm_ (a' := ?_) ?_ ?_
              rotate_left
              · show Act.put _ (none) _ = _
                simp only [Act.put, List.setIfInBounds_toArray, List.set_cons_zero, List.set_cons_succ]
                rfl
              refine pure_ (i := 12) (N := some 89) (v := ?_) (a' := ?_) #[true, true, true, true, true, true, true, true, true, true, true, true, true, false, false] rfl rfl (by kernel_rfl) (fun _ _ _ h => h) (Or.inl ⟨by rfl, ?_⟩) ?_ ?_
              rotate_left
              · intro w_
                go_simp
                with_reducible rfl
              rotate_left
              · simp only [Act.put, List.setIfInBounds_toArray, List.set_cons_zero, List.set_cons_succ]
                rfl
              refine pure_ (i := 13) (N := some 90) (v := ?_) (a' := ?_) #[true, true, true, true, true, true, true, true, true, true, true, true, true, true, false] rfl rfl (by kernel_rfl) (fun _ _ _ h => h) (Or.inl ⟨by rfl, ?_⟩) ?_ ?_
              rotate_left
              · intro w_
                go_simp
                with_reducible rfl
              rotate_left
              · simp only [Act.put, List.setIfInBounds_toArray, List.set_cons_zero, List.set_cons_succ]
                rfl
              refine one_ (i := 14) (N := none) #[true, true, true, true, true, true, true, true, true, true, true, true, true, true, true] rfl rfl (by kernel_rfl) (by decide) (fun K hK => ?_)
              refine skip_step (by rfl) (exec_put (t := 3) (p := .tmp 90) (q := .tmp 86) rfl ((HS.out.drewN 1).put 2 (by simp) 2 (.int .i64 L) ⟨v, false, ⟨L, 0, List.replicate 24 0⟩⟩ rfl) 2 (by simp) (fr0_wf : (⟨L, 0, List.replicate 24 0⟩ : Fr).wf) 3 (by omega) (.int .i64 x3) rfl rfl rfl (by kernel_rfl) rfl) ?_
              refine hK.out _ _ (((HS.out.drewN 1).put 2 (by simp) 2 (.int .i64 L) ⟨v, false, ⟨L, 0, List.replicate 24 0⟩⟩ rfl).put 2 (by simp) 3 (.int .i64 x3) ⟨v, false, ⟨L, x3, List.replicate 24 0⟩⟩ rfl).below (fun hHeld => ?_)
              clear hK K
              refine norm_ (a' := ?_) ?_ ?_
              rotate_left
              · show Act.put _ (none) _ = _
                simp only [Act.put, List.setIfInBounds_toArray, List.set_cons_zero, List.set_cons_succ]
                rfl
              refine done_ (by kernel_rfl) ?_
              have HT : Bx w (((W4.drewN 1).setCell ⟨w.heap.size + 2, 2, none⟩ (.int .i64 L)).setCell ⟨w.heap.size + 2, 3, none⟩ (.int .i64 x3)) [en0, en0, ⟨v, false, ⟨L, x3, padS []⟩⟩] :=
                ((HS.out.drewN 1).put 2 (by simp) 2 (.int .i64 L) ⟨v, false, ⟨L, 0, List.replicate 24 0⟩⟩ rfl).put 2 (by simp) 3 (.int .i64 x3) ⟨v, false, ⟨L, x3, padS []⟩⟩ rfl
              generalize ((W4.drewN 1).setCell ⟨w.heap.size + 2, 2, none⟩ (.int .i64 L)).setCell ⟨w.heap.size + 2, 3, none⟩ (.int .i64 x3) = W5 at HT ⊢
              have HT5 := Lib.hid HT
              have f0 : W5.cell? ⟨w.heap.size + 2, 2, none⟩ = some (.int .i64 L) := blk_cell (HT.bx 2 (by simp)) 2
              have f1 : W5.cell? ⟨w.heap.size + 2, 3, none⟩ = some (.int .i64 x3) := blk_cell (HT.bx 2 (by simp)) 3
              have hm : m ≤ 271 := by omega
              clear HT hHeld l9 l8 w1 w2
              by_cases c7 : 24 < m
              · have d10 : decide (24 < (m : Int)) = true := decide_eq_true (by omega)
                have HV1 := Lib.hid (show oneS b (gB b 3) r.at_ r.last = .inl ((p3 : Int), 65) by
                  have hv := HV.out
                  rw [if_pos (by omega)] at hv
                  rw [← HLL.out]
                  exact HR.out.trans hv)
                clear c7
                go_wp2_with (first | ((with_reducible refine gate_dst (N := 100) rfl ?_); refine wpList_load_any rfl 44 (.tmp 5) rfl ⟨w.heap.size + 1, 0, none⟩ rfl (enC en0) _ (HT5.out.rng 1 (by simp)) Try.underlying44 rfl (by rw [enC_len fr0_wf]; kernel_rfl) ?_) | ((with_reducible refine gate_store (t := 44) (p := 2) rfl ?_); refine wpList_store_blk rfl (.tmp 2) (.tmp 100) rfl HT5.out 0 (by simp) fr0_wf en0 fr0_wf rfl rfl ?_; intro W9 hW9))
                refine bodyPost_ret (ret_cell3 rfl _ hW9 0 (by simp) fr0_wf rfl) rfl ?_
                exact et_inl HV1.out rfl hW9.below
              · have d10 : decide (24 < (m : Int)) = false := decide_eq_false (by omega)
                have hv := HV.out
                rw [if_neg (by omega)] at hv
                obtain ⟨p4, hp4⟩ : ∃ p4 : Nat, p4 = p3 + 1 := ⟨_, rfl⟩
                have e5 : (p3 : Int) + 1 = (p4 : Int) := by omega
                have hb4 : p4 ≤ b.length := by omega
                rw [← hp4] at hv
                have HV := Lib.hid hv
                have hm24 : m ≤ 24 := by omega
                clear hv c7 hp4
                go_wp2
                clear f0 f1 hx2
                go_loopg [7, 105] (m + 1) (fun k v7 v105 W => ∃ j q : Nat, v7 = .int .i64 (q : Int) ∧ v105 = .int .i64 (j : Int) ∧ j + k = m + 1 ∧ j ≤ m ∧ q ≤ b.length ∧ Bx w W [en0, en0, ⟨v, false, ⟨L, x3, padS ((b.drop p4).take j)⟩⟩] ∧ Hid (q = p4 + j ∧ slotsS b m p4 = slotsS b (m - j) q))
                case atStart => exact ⟨0, p4, rfl, rfl, by omega, Nat.zero_le _, hb4, HT5.out, Lib.hid ⟨rfl, rfl⟩⟩
                case round =>
                  obtain ⟨j, q, rfl, rfl, hj, hjm, hql, St, HJ⟩ := hrel
                  have HSt := Lib.hid St
                  have HW : Hid (⟨L, x3, padS ((b.drop p4).take j)⟩ : Fr).wf := Lib.hid (pad_wf (by rw [List.length_take]; omega) (fun x hx => HB.out.y.y x (List.mem_of_mem_drop (List.mem_of_mem_take hx))))
                  by_cases hjl : j < m
                  · have g1 : decide ((j : Int) < (m : Int)) = true := decide_eq_true (by exact_mod_cast hjl)
                    have hs := HJ.out.2
                    rw [show m - j = (m - j - 1) + 1 by omega, slotsS] at hs
                    by_cases c8 : q = b.length
                    · have g2 : ((q : Int) == (b.length : Int)) = true := by rw [beq_iff_eq]; omega
                      have HV1 := Lib.hid (show oneS b (gB b 3) r.at_ r.last = .inl ((q : Int), 2) by
                        rw [if_pos c8] at hs
                        have hv := HV.out
                        rw [hs] at hv
                        rw [← HLL.out]
                        exact HR.out.trans hv)
                      clear c8 hs St
                      go_wp2_with (first | ((with_reducible refine gate_dst (N := 112) rfl ?_); refine wpList_load_any rfl 44 (.tmp 5) rfl ⟨w.heap.size + 1, 0, none⟩ rfl (enC en0) _ (HSt.out.rng 1 (by simp)) Try.underlying44 rfl (by rw [enC_len fr0_wf]; kernel_rfl) ?_) | ((with_reducible refine gate_store (t := 44) (p := 2) rfl ?_); refine wpList_store_blk rfl (.tmp 2) (.tmp 112) rfl HSt.out 0 (by simp) fr0_wf en0 fr0_wf rfl rfl ?_; intro W9 hW9))
                      refine bodyPost_ret (ret_cell3 rfl _ hW9 0 (by simp) fr0_wf rfl) rfl ?_
                      exact et_inl HV1.out rfl hW9.below
                    · have g2 : ((q : Int) == (b.length : Int)) = false := by rw [beq_eq_false_iff_ne]; omega
                      rw [if_neg c8] at hs
                      have g3 : decide ((q : Int) < (b.length : Int)) = true := decide_eq_true (by omega)
                      obtain ⟨ad', ead, hx⟩ := (HB.out.y.next St.below).cell q (by omega)
                      obtain rfl : ad = ad' := by injection ead
                      have rq := gB_range b HB.out.y.y q
                      have hE := slot_put v false L x3 (b.drop p4) j (by omega) (by rw [List.length_drop]; have := HJ.out.1; omega)
                      rw [show gB (b.drop p4) j = gB b q by rw [HJ.out.1]; unfold gB; simp [List.getD_eq_getElem?_getD, List.getElem?_drop]] at hE
                      obtain ⟨xq, hxq⟩ : ∃ xq, xq = gB b q := ⟨_, rfl⟩
                      rw [← hxq] at hs hx rq hE
                      have HE := Lib.hid hE
                      have HKn := Lib.hid (fun W => known_c xq W)
                      obtain ⟨kb, hkb⟩ : ∃ kb, kb = knownB xq := ⟨_, rfl⟩
                      rw [← hkb] at hs HKn
                      have HS8 := Lib.hid hs
                      have hq1 : q + 1 ≤ b.length := by omega
                      clear hkb hxq c8 hs hE ead St
                      cases kb with
                      | false =>
                        have HV1 := Lib.hid (show oneS b (gB b 3) r.at_ r.last = .inl ((q : Int), 62) by
                          have hs := HS8.out
                          rw [if_neg (by decide)] at hs
                          have hv := HV.out
                          rw [hs] at hv
                          rw [← HLL.out]
                          exact HR.out.trans hv)
                        go_wp2_with (first | (go_at_call 45; refine (HKn.out _).mono ?_; rintro e w1 ⟨rfl, ⟨⟨n9, rfl⟩⟩⟩) | ((with_reducible refine gate_dst (N := 120) rfl ?_); refine wpList_load_any rfl 44 (.tmp 5) rfl ⟨w.heap.size + 1, 0, none⟩ rfl (enC en0) _ ((HSt.out.drewN _).rng 1 (by simp)) Try.underlying44 rfl (by rw [enC_len fr0_wf]; kernel_rfl) ?_) | ((with_reducible refine gate_store (t := 44) (p := 2) rfl ?_); refine wpList_store_blk rfl (.tmp 2) (.tmp 120) rfl (HSt.out.drewN _) 0 (by simp) fr0_wf en0 fr0_wf rfl rfl ?_; intro W9 hW9))
                        refine bodyPost_ret (ret_cell3 rfl _ hW9 0 (by simp) fr0_wf rfl) rfl ?_
                        exact et_inl HV1.out rfl hW9.below
                      | true =>
                        have hix := ixO (w.heap.size + 2) 4 j (by omega)
                        obtain ⟨k, rfl⟩ : ∃ k, gk = k + 1 := ⟨gk - 1, by omega⟩
                        go_wp2_with (first | (go_at_call 45; refine (HKn.out _).mono ?_; rintro e w1 ⟨rfl, ⟨⟨n9, rfl⟩⟩⟩) | ((with_reducible refine gate_store (t := 39) (p := 129) rfl ?_); refine wpList_store_put rfl 39 (.tmp 129) (.tmp 126) rfl (HSt.out.drewN _) 2 (by simp) HW.out (4 + j) (by omega) (.int .u8 xq) ⟨v, false, ⟨L, x3, padS ((b.drop p4).take (j + 1))⟩⟩ rfl rfl rfl (by kernel_rfl) rfl HE.out ?_; intro W6 hW6))
                        go_roundg k
                        case measure => omega
                        case rel => exact ⟨j + 1, q + 1, by simp, by simp, by omega, by omega, by omega, hW6, Lib.hid ⟨by have := HJ.out.1; omega, by
                          have hs := HS8.out
                          rw [if_pos trivial] at hs
                          rw [hs]
                          congr 1⟩⟩
                  · have g1 : decide ((j : Int) < (m : Int)) = false := decide_eq_false (by omega)
                    have HV1 := Lib.hid (show oneS b (gB b 3) r.at_ r.last = .inr (⟨v, false, ⟨L, x3, padS ((b.drop p4).take j)⟩⟩, q) by
                      have hjm' : j = m := by omega
                      have hs := HJ.out.2
                      rw [hjm', Nat.sub_self, slotsS] at hs
                      have hv := HV.out
                      rw [hs] at hv
                      rw [← HLL.out, HR.out, hv, hjm', HJ.out.1, hjm'])
                    clear St
                    go_wp2_with (first | ((with_reducible refine gate_dst (N := 133) rfl ?_); refine wpList_load_any rfl 44 (.tmp 8) rfl ⟨w.heap.size + 2, 0, none⟩ rfl (enC ⟨v, false, ⟨L, x3, padS ((b.drop p4).take j)⟩⟩) _ (HSt.out.rng 2 (by simp)) Try.underlying44 rfl (by rw [enC_len HW.out]; kernel_rfl) ?_) | ((with_reducible refine gate_store (t := 44) (p := 2) rfl ?_); refine wpList_store_blk rfl (.tmp 2) (.tmp 133) rfl HSt.out 0 (by simp) fr0_wf ⟨v, false, ⟨L, x3, padS ((b.drop p4).take j)⟩⟩ HW.out rfl rfl ?_; intro W9 hW9))
                    refine bodyPost_ret (ret_cell3 rfl _ hW9 0 (by simp) HW.out rfl) rfl ?_
                    exact et_inr HV1.out rfl hW9.below
end Go.Proofs.Ytfbdnfokoakfaaa.Ct
