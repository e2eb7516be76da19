/- code.Patch and the reference's Patch: their walks. -/
import Derived.Test.YtcfpiamdkdedlaaPatchC
namespace Go.Proofs.Ytcfpiamdkdedlaa.DecodeC
open Go.RowKit Go.Proofs.YtcfpiamdkdedlaaW.PrintWords Go.Proofs.YtcfpiamdkdedlaaW.PrintLast Go.Proofs.YtcfpiamdkdedlaaW.PrintMore Go.Proofs.Ytcfpiamdkdedlaa.PCodePatches Go.Proofs.Ytcfpiamdkdedlaa.Spec Go.Proofs.Ytcfpiamdkdedlaa.CloneC
set_option linter.unusedVariables false
set_option linter.unusedSimpArgs false
attribute [local go_sem] drewN_set drewN_new

theorem copy_step {ops : Array Oper} {oi : Oper} {N : Option Tmp} {a : Act} {W w1 : World} {K : Act → World → Prop} {Q : Exit → Act → World → Prop} {s x : Operand} {v v2 u : Value} (hw : Region.wanted oi (yielded ops a.tmps) = true) (hN : oi.dst = N) (hop : oi.op = .call { callee := .builtin .copy, args := #[s, x], argTypes := #[30, 30] })
    (hs : a.eval s = v) (hx : a.eval x = v2) (hrun : (Builtin.copy_ #[30, 30] oi.type #[v, v2]).run Try.prog W = .ok u w1) (h : K (a.put N u) w1) : if Region.wanted oi (yielded ops a.tmps) = true then Oper.wp Try.prog oi a W K Q else K (a.put N undef) W := by
  rw [if_pos hw]
  subst hN
  unfold Oper.wp execOp
  simp only [hop, resolve, invoke, builtin, Sem.run_bind, Sem.run_pure, Result.andThen_ok, List.map_toArray, List.map_cons, List.map_nil, hs, hx, hrun]
  exact h

theorem R_lt8 {W : World} {base : Nat} {v : Value} {xs : List Int} (h : Kd.R (Kd.int .u8) 5 W base (fun _ => True) v xs) : ∀ k, v.ownBlock = some k → base ≤ k ∧ k < W.heap.size := fun k hk => by
  have := (Kd.R_bound h).1 k hk
  exact ⟨this.2.1, this.2.2.1⟩

/-- A byte stored into a row of the call's own. -/
theorem store8 {ops : Array Oper} {rest : List Oper} {o : Oper} {a : Act} {Q : Exit → Act → World → Prop} {w0 W : World} (p x : Operand) (hN : o.dst = none) (hgd : o.guard = none) (ho : o.op = .store 5 p x) {g cap j n : Nat} {y : Int} {xs : List Int} (hn : xs.length = n)
    (hp : a.eval p = .pointer (some ⟨g, j, none⟩)) (hx : a.eval x = .int .u8 y) (HO : Kd.R (Kd.int .u8) 5 W w0.heap.size (fun _ => True) (.slice (some ⟨g, 0, none⟩) n cap) xs) (hj : j < n) (HB : Below w0.heap.size w0 W)
    (h : ∀ w1, Kd.R (Kd.int .u8) 5 w1 w0.heap.size (fun _ => True) (.slice (some ⟨g, 0, none⟩) n cap) (xs.set j y) → Below w0.heap.size w0 w1 → W.grownBy w1 (some g) → wpList Try.prog ops Q rest a w1) : wpList Try.prog ops Q (o :: rest) a W := by
  subst hn
  obtain ⟨ad, cs, e, hcl, hK, hcc⟩ := Kd.C_get (Kd.R_reads' HO).2.2 (0 : Int) (j : Int) (by omega) (by omega)
  injection e with e
  subst e
  refine Kd.R_store (Kd.int .u8) (w0 := w0) w0.heap.size hN hgd 5 p x ho 5 (g := g) (n := xs.length) (cap := cap) (o' := j) (j : Int) 0 xs y (.int .u8 y) [.int .u8 y] cs (fun _ => True) (fun k => k ≠ g) hp (by rw [Int.toNat_natCast]; exact (Nat.mul_one j).symm) hx rfl (by kernel_rfl) (fun q hq => by rw [List.mem_singleton.1 hq]; rfl) HO (by omega) (by omega) hcl ?_ (Nat.le_refl _) ?_ (fun k hk => ⟨trivial, hk⟩) HB ?_
  · intro i u hu
    have h0 := hcc i u hu
    rwa [Addr.add_mid, Nat.zero_add] at h0
  · rw [List.take_zero, List.nil_append, List.drop_eq_nil_of_le (by rw [hcl]; exact Nat.le_refl _), List.append_nil]
    rfl
  · intro w1 h1 h2 h3
    rw [Int.toNat_natCast] at h1
    exact h w1 h1 h2 h3

set_option maxHeartbeats 8000000 in
set_option maxRecDepth 100000 in
theorem patch_c (A : Option Addr) (c : Nat) (l : List Int) (a t : Int) (w : World) (hl : l.length ≤ 140737488351232) (hc : l.length ≤ c) (hr : Kd.C (Kd.int .u8) w A l.length l) (hb : ∀ x ∈ l, 0 ≤ x ∧ x ≤ 255) :
    Calls Try.prog 34 #[.slice A l.length c, .int .i64 a, .int .i64 t] w (PtPost l a t w) := by
  have HR := Lib.hid hr
  have HD := Lib.hid (decode_any A c l a w (by omega) hc hr hb)
  have hop := dec_op l a hb
  have HCl := Lib.hid (fun W (h : Below w.heap.size w W) => clone_any A c l W (Kd.C_below hr h) hc (by omega))
  by_cases c1 : 4096 < l.length
  · have e0 : patchS l a t = ([], 4) := by unfold patchS; rw [if_pos c1]
    have HE := Lib.hid e0
    have d1 : decide (4096 < (l.length : Int)) = true := decide_eq_true (by omega)
    clear hr hb e0 hop
    go_enter Try.func34, Try.ntmps34
    go_wp2
    go_ret2
    exact pt_post HE.out _ rfl (Kd.R_nil _ _ _ _ _) (Below.refl _ _)
  have d1 : decide (4096 < (l.length : Int)) = false := decide_eq_false (by omega)
  have HOk := Lib.hid (dec_ok l a)
  obtain ⟨⟨⟨i0, op, i2, i3⟩, er⟩, hD⟩ : ∃ D, D = decodeS l a := ⟨_, rfl⟩
  unfold DecPost at HD
  rw [← hD] at HD hop HOk
  have HEq : Hid (patchS l a t = if er ≠ 0 then ([], er) else if isJ op = false then ([], 1) else if fitT t = false then ([], 5) else (putS l a.toNat t, 0)) := Lib.hid (by unfold patchS; rw [if_neg c1, ← hD])
  have HJ := Lib.hid (fun W => jumps_c op hop.1 hop.2 W)
  have HF := Lib.hid (fun W => fits_c op t W)
  clear hr hb hD
  by_cases c2 : er ≠ 0
  · have HE := Lib.hid (HEq.out.trans (if_pos c2))
    have d2 : (er != 0) = true := by simpa using c2
    clear HEq c2
    go_enter Try.func34, Try.ntmps34
    go_wp2_with (first | (go_at_call 25; refine HD.out.mono ?_; rintro e w1 ⟨rfl, hb1⟩))
    go_ret2
    exact pt_post HE.out _ rfl (Kd.R_nil _ _ _ _ _) (below_alloc hb1 _)
  have HEq2 := Lib.hid (HEq.out.trans (if_neg c2))
  have d2 : (er != 0) = false := by simpa using c2
  have hz : er = 0 := by simpa using c2
  have HZ := Lib.hid hz
  clear HEq c2 hz
  cases hj : isJ op with
  | false =>
    have HE := Lib.hid (HEq2.out.trans (if_pos hj))
    rw [hj] at HJ
    clear HEq2 hj
    go_enter Try.func34, Try.ntmps34
    go_wp2_with (first | (go_at_call 25; refine HD.out.mono ?_; rintro e w1 ⟨rfl, hb1⟩) | (go_at_call 17; refine (HJ.out _).mono ?_; rintro e w2 ⟨rfl, ⟨⟨n2, rfl⟩⟩⟩))
    go_ret2
    exact pt_post HE.out _ rfl (Kd.R_nil _ _ _ _ _) (pw_below_drewN (below_alloc hb1 _) _)
  | true =>
  have HEq3 := Lib.hid (HEq2.out.trans (if_neg (by rw [hj]; decide)))
  obtain ⟨k, rfl, hk3⟩ := HOk.out HZ.out hj
  rw [hj] at HJ
  clear HEq2 hj HOk
  cases hf : fitT t with
  | false =>
    have HE := Lib.hid (HEq3.out.trans (if_pos hf))
    rw [hf] at HF
    clear HEq3 hf
    go_enter Try.func34, Try.ntmps34
    go_wp2_with (first | (go_at_call 25; refine HD.out.mono ?_; rintro e w1 ⟨rfl, hb1⟩) | (go_at_call 17; refine (HJ.out _).mono ?_; rintro e w2 ⟨rfl, ⟨⟨n2, rfl⟩⟩⟩) | (go_at_call 42; refine (HF.out _).mono ?_; rintro e w3 ⟨rfl, ⟨⟨n3, rfl⟩⟩⟩))
    go_ret2
    exact pt_post HE.out _ rfl (Kd.R_nil _ _ _ _ _) (pw_below_drewN (below_alloc hb1 _) _)
  | true =>
    have HE := Lib.hid (HEq3.out.trans (if_neg (by rw [hf]; decide)))
    have ht : 0 ≤ t ∧ t ≤ 65535 := by
      unfold fitT at hf
      rw [Bool.and_eq_true] at hf
      exact ⟨of_decide_eq_true hf.1, of_decide_eq_true hf.2⟩
    have HPut := Lib.hid (put2 t ht.1 ht.2)
    rw [hf] at HF
    clear HEq3 hf
    go_enter Try.func34, Try.ntmps34
    go_upto_region 11 with (first | (go_at_call 25; refine HD.out.mono ?_; rintro e w1 ⟨rfl, hb1⟩; have HB1 := Lib.hid hb1; clear hb1) | (go_at_call 17; refine (HJ.out _).mono ?_; rintro e w2 ⟨rfl, ⟨⟨n2, rfl⟩⟩⟩) | (go_at_call 42; refine (HF.out _).mono ?_; rintro e w3 ⟨rfl, ⟨⟨n3, rfl⟩⟩⟩) | (go_at_call 33; refine (HCl.out _ (pw_below_drewN (below_alloc HB1.out _) _)).mono ?_; rintro e w5 ⟨v10, rfl, hr5, hb5⟩))
    obtain ⟨g, cap, rfl, _, _, _⟩ := Kd.R_form hr5 (by omega)
    have hbz := pw_below_drewN (below_alloc HB1.out (.cells #[.int .i64 i0, .int .u8 op, .int .i64 i2, .int .i64 i3] 29)) (n2 + n3)
    have HB5 := Lib.hid (below_then hbz hbz.size hb5)
    have HR6 := Lib.hid (Kd.R_lower (Kd.R_drew hr5) hbz.size)
    have hcap := (Kd.R_reads' hr5).2.1
    clear hbz hr5 hb5 HB1
    have hwr : IntKind.i64.wrap ((k : Int) + 1) = (k : Int) + 1 := by rw [IntKind.wrap_i64]; omega
    have hcut : ∀ W, (Instr.slice 30 (.slice (some ⟨g, 0, none⟩) l.length cap) (some (.int .i64 ((k : Int) + 1))) none none).run Try.prog W = .ok (.slice (some ⟨g, k + 1, none⟩) (l.length - (k + 1)) (cap - (k + 1))) W := fun W => by
      have h1 := cut_from (P := Try.prog) 30 5 .i64 Try.underlying30 (i := (Try.prog.info? 5).get!) rfl 1 rfl (some ⟨g, 0, none⟩) l.length cap ((k : Int) + 1) (by omega) (by omega) W
      rw [h1]
      have e1 : ((k : Int) + 1).toNat = k + 1 := by omega
      have e2 : ¬ cap = k + 1 := by omega
      simp [e1, e2, Addr.add]
    refine start_ (n := 7) (S := fun _ => True) (ds := []) #[false, false, false, false, false, false, false] (by kernel_rfl) rfl rfl trivial (fun hHeld => ?_)
    refine pure_ (i := 0) (N := some 37) (v := ?_) (a' := ?_) #[true, false, false, false, false, false, false] rfl rfl (by kernel_rfl) (fun _ _ _ h => h) (Or.inl ⟨by rfl, ?_⟩) ?_ ?_
    rotate_left
    · intro w_
      go_simp
      with_reducible rfl
    rotate_left
    · simp only [Act.put, List.setIfInBounds_toArray, List.set_cons_zero, List.set_cons_succ]
      rfl
    refine pure_ (i := 1) (N := some 38) (v := ?_) (a' := ?_) #[true, true, false, false, false, false, false] rfl rfl (by kernel_rfl) (fun _ _ _ h => h) (Or.inl ⟨by rfl, ?_⟩) ?_ ?_
    rotate_left
    · intro w_
      go_simp
      with_reducible rfl
    rotate_left
    · simp only [Act.put, List.setIfInBounds_toArray, List.set_cons_zero, List.set_cons_succ]
      rfl
    refine pure_ (i := 2) (N := some 39) (v := ?_) (a' := ?_) #[true, true, true, false, false, false, false] rfl rfl (by kernel_rfl) (fun _ _ _ h => h) (Or.inl ⟨by rfl, ?_⟩) ?_ ?_
    rotate_left
    · intro w_
      go_simp
      with_reducible rfl
    rotate_left
    · simp only [Act.put, List.setIfInBounds_toArray, List.set_cons_zero, List.set_cons_succ]
      rfl
    refine pure_ (i := 3) (N := some 40) (v := ?_) (a' := ?_) #[true, true, true, true, false, false, false] rfl rfl (by kernel_rfl) (fun _ _ _ h => h) (Or.inl ⟨by rfl, ?_⟩) ?_ ?_
    rotate_left
    · intro w_
      go_simp
      with_reducible rfl
    rotate_left
    · simp only [Act.put, List.setIfInBounds_toArray, List.set_cons_zero, List.set_cons_succ]
      rfl
    refine pure_ (i := 4) (N := some 41) (v := ?_) (a' := ?_) #[true, true, true, true, true, false, false] rfl rfl (by kernel_rfl) (fun _ _ _ h => h) (Or.inl ⟨by rfl, ?_⟩) ?_ ?_
    rotate_left
    · intro w_
      go_simp
      with_reducible rfl
    rotate_left
    · simp only [Act.put, List.setIfInBounds_toArray, List.set_cons_zero, List.set_cons_succ]
      rfl
    refine one_ (i := 5) (N := some 42) #[true, true, true, true, true, true, false] rfl rfl (by kernel_rfl) (by decide) (fun K hK => ?_)
    refine goes_ Try.func43 (by kernel_rfl) rfl #[.slice none 0 0, .int .i64 t, .int .i64 2] (by rfl) rfl rfl (by simp only [List.map_toArray, List.map_cons, List.map_nil]; rfl) ?_
    refine (code_put.calls 4 (fun _ => False) (.slice none 0 0) [] t 2 _ _ _ (Below.refl _ _) (Kd.R_nil _ _ _ _ _) HPut.out).mono ?_
    rintro e w7 ⟨v2, rfl, hr2, hb2, _⟩
    refine ⟨_, rfl, ?_⟩
    have HR2 := Lib.hid hr2
    have HB7 := Lib.hid hb2
    clear hr2 hb2
    refine hK.out _ _ trivial (fun _ => ?_)
    clear hK K
    refine norm_ (a' := ?_) ?_ ?_
    rotate_left
    · show Act.put _ (some 42) _ = _
      simp only [Act.put, List.setIfInBounds_toArray, List.set_cons_zero, List.set_cons_succ]
      rfl
    refine one_ (i := 6) (N := some 43) #[true, true, true, true, true, true, true] rfl rfl (by kernel_rfl) (by decide) (fun K hK => ?_)
    obtain ⟨w8, hrun, hr8, hg8⟩ := run_copy2 (x := t / 256) (y := t % 256) 3 (k := k) hk3 (Kd.R_below HR6.out HB7.out) HR2.out
    have HR8 := Lib.hid hr8
    have HG8 := Lib.hid hg8
    refine copy_step (by rfl) rfl rfl rfl rfl hrun ?_
    clear hrun hr8 hg8
    refine hK.out _ _ trivial (fun _ => ?_)
    clear hK K
    refine norm_ (a' := ?_) ?_ ?_
    rotate_left
    · show Act.put _ (some 43) _ = _
      simp only [Act.put, List.setIfInBounds_toArray, List.set_cons_zero, List.set_cons_succ]
      rfl
    refine done_ (by kernel_rfl) ?_
    go_wp2
    go_ret2
    have hb7 := below_then (below_drew HB5.out) HB5.out.size HB7.out
    refine pt_post HE.out _ rfl ?_ (hb7.grown HG8.out hb7.size (fun q e => by injection e with e; have := (R_lt8 HR6.out g rfl).1; omega))
    rw [Int.toNat_natCast]
    exact HR8.out

set_option maxHeartbeats 8000000 in
set_option maxRecDepth 100000 in
theorem rpatch_c (A : Option Addr) (c : Nat) (l : List Int) (a t : Int) (w : World) (hl : l.length ≤ 140737488351232) (hc : l.length ≤ c) (hr : Kd.C (Kd.int .u8) w A l.length l) (hb : ∀ x ∈ l, 0 ≤ x ∧ x ≤ 255) :
    Calls Try.prog 35 #[.slice A l.length c, .int .i64 a, .int .i64 t] w (PtPost l a t w) := by
  have HR := Lib.hid hr
  have HD := Lib.hid (provisoref04_Decode.calls 10 A c l a _ _ _ _ _ w hr hc (rdecode_is l a (by omega) hb 10 (by omega)))
  have hop := dec_op l a hb
  by_cases c1 : 4096 < l.length
  · have e0 : patchS l a t = ([], 4) := by unfold patchS; rw [if_pos c1]
    have HE := Lib.hid e0
    have d1 : decide (4096 < (l.length : Int)) = true := decide_eq_true (by omega)
    clear hr hb e0 hop
    go_enter Try.func35, Try.ntmps35
    go_wp2
    go_ret2
    exact pt_post HE.out _ rfl (Kd.R_nil _ _ _ _ _) (Below.refl _ _)
  have d1 : decide (4096 < (l.length : Int)) = false := decide_eq_false (by omega)
  have HOk := Lib.hid (dec_ok l a)
  obtain ⟨⟨⟨i0, op, i2, i3⟩, er⟩, hD⟩ : ∃ D, D = decodeS l a := ⟨_, rfl⟩
  rw [← hD] at HD hop HOk
  have HEq : Hid (patchS l a t = if er ≠ 0 then ([], er) else if isJ op = false then ([], 1) else if fitT t = false then ([], 5) else (putS l a.toNat t, 0)) := Lib.hid (by unfold patchS; rw [if_neg c1, ← hD])
  have HJ := Lib.hid (fun W => rjumps_c op hop.1 hop.2 W)
  have HF := Lib.hid (fun W => rfits_c t W)
  clear hr hb hD
  by_cases c2 : er ≠ 0
  · have HE := Lib.hid (HEq.out.trans (if_pos c2))
    have d2 : (er != 0) = true := by simpa using c2
    clear HEq c2
    go_enter Try.func35, Try.ntmps35
    go_wp2_with (first | (go_at_call 26; refine HD.out.mono ?_; rintro e w1 ⟨rfl, hb1⟩))
    go_ret2
    exact pt_post HE.out _ rfl (Kd.R_nil _ _ _ _ _) (below_alloc hb1 _)
  have HEq2 := Lib.hid (HEq.out.trans (if_neg c2))
  have d2 : (er != 0) = false := by simpa using c2
  have hz : er = 0 := by simpa using c2
  have HZ := Lib.hid hz
  clear HEq c2 hz
  cases hj : isJ op with
  | false =>
    have HE := Lib.hid (HEq2.out.trans (if_pos hj))
    rw [hj] at HJ
    clear HEq2 hj
    go_enter Try.func35, Try.ntmps35
    go_wp2_with (first | (go_at_call 26; refine HD.out.mono ?_; rintro e w1 ⟨rfl, hb1⟩) | (go_at_call 18; refine (HJ.out _).mono ?_; rintro e w2 ⟨rfl, ⟨⟨n2, rfl⟩⟩⟩))
    go_ret2
    exact pt_post HE.out _ rfl (Kd.R_nil _ _ _ _ _) (pw_below_drewN (below_alloc hb1 _) _)
  | true =>
  have HEq3 := Lib.hid (HEq2.out.trans (if_neg (by rw [hj]; decide)))
  obtain ⟨k, rfl, hk3⟩ := HOk.out HZ.out hj
  rw [hj] at HJ
  clear HEq2 hj HOk
  cases hf : fitT t with
  | false =>
    have HE := Lib.hid (HEq3.out.trans (if_pos hf))
    rw [hf] at HF
    clear HEq3 hf
    go_enter Try.func35, Try.ntmps35
    go_wp2_with (first | (go_at_call 26; refine HD.out.mono ?_; rintro e w1 ⟨rfl, hb1⟩) | (go_at_call 18; refine (HJ.out _).mono ?_; rintro e w2 ⟨rfl, ⟨⟨n2, rfl⟩⟩⟩) | (go_at_call 44; refine (HF.out _).mono ?_; rintro e w3 ⟨rfl, ⟨⟨n3, rfl⟩⟩⟩))
    go_ret2
    exact pt_post HE.out _ rfl (Kd.R_nil _ _ _ _ _) (pw_below_drewN (below_alloc hb1 _) _)
  | true =>
    have HE := Lib.hid (HEq3.out.trans (if_neg (by rw [hf]; decide)))
    have ht : 0 ≤ t ∧ t ≤ 65535 := by
      unfold fitT at hf
      rw [Bool.and_eq_true] at hf
      exact ⟨of_decide_eq_true hf.1, of_decide_eq_true hf.2⟩
    obtain ⟨ht0, ht1⟩ := ht
    rw [hf] at HF
    clear HEq3 hf
    obtain ⟨ad, rfl, _⟩ := HR.out.2.2 (by omega)
    go_enter Try.func35, Try.ntmps35
    go_upto_region 11 with (first | (go_at_call 26; refine HD.out.mono ?_; rintro e w1 ⟨rfl, hb1⟩; have HB1 := Lib.hid hb1; clear hb1) | (go_at_call 18; refine (HJ.out _).mono ?_; rintro e w2 ⟨rfl, ⟨⟨n2, rfl⟩⟩⟩) | (go_at_call 44; refine (HF.out _).mono ?_; rintro e w3 ⟨rfl, ⟨⟨n3, rfl⟩⟩⟩) | ((with_reducible refine gate_dst (N := 31) rfl ?_); at_builtin; refine Kd.R_append_rows (Kd.int .u8) (w0 := w) w.heap.size rfl (.const (.slice none 0 0)) (.tmp 30) 30 5 (.int .u8 0) 1 rfl Try.underlying30 info5 rfl (by decide) (by omega) (.slice none 0 0) [] l (some ad) l.length c (fun _ => True) (fun _ => False) rfl rfl (Kd.R_nil _ _ _ _ _) (Kd.C_below HR.out (pw_below_drewN (below_alloc HB1.out _) _)) (fun _ _ h => h) (fun _ h => h.elim) (fun _ _ => trivial) (pw_below_drewN (below_alloc HB1.out _) _) (pw_below_drewN (below_alloc HB1.out (.cells #[.int .i64 i0, .int .u8 op, .int .i64 i2, .int .i64 i3] 29)) (n2 + n3)).size (by simp; omega) ?_; intro v1 w5 ho hb5 _ _))
    rw [List.nil_append] at ho
    obtain ⟨g, cap, rfl, _, _, _⟩ := Kd.R_form ho (by omega)
    have HO := Lib.hid ho
    have HB5 := Lib.hid hb5
    clear ho hb5
    go_wp2_with (first | ((with_reducible refine gate_store (t := 5) (p := 38) rfl ?_); refine store8 (w0 := w) (.tmp 38) (.tmp 37) rfl rfl rfl (g := g) (cap := cap) (j := k + 1) rfl rfl rfl HO.out (by omega) HB5.out ?_; intro W6 hr6 hb6 _; have HR6 := Lib.hid hr6; have HB6 := Lib.hid hb6; clear hr6 hb6) | ((with_reducible refine gate_store (t := 5) (p := 45) rfl ?_); refine store8 (w0 := w) (.tmp 45) (.tmp 44) rfl rfl rfl (g := g) (cap := cap) (j := k + 2) (List.length_set ..) rfl rfl HR6.out (by omega) HB6.out ?_; intro W7 hr7 hb7 _; have HR7 := Lib.hid hr7; have HB7 := Lib.hid hb7; clear hr7 hb7))
    go_ret2
    refine pt_post HE.out _ rfl ?_ HB7.out
    rw [Int.toNat_natCast]
    exact HR7.out
end Go.Proofs.Ytcfpiamdkdedlaa.DecodeC
