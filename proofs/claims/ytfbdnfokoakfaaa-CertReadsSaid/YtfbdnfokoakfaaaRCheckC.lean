/- The reference's Check. -/
import Derived.Test.YtfbdnfokoakfaaaCheckC
namespace Go.Proofs.Ytfbdnfokoakfaaa.Ct
open Go.RowKit Go.Proofs.YtfbdnfokoakfaaaW.PrintWords Go.Proofs.YtfbdnfokoakfaaaW.PrintLast Go.Proofs.YtfbdnfokoakfaaaW.PrintMore
set_option linter.unusedVariables false
set_option linter.unusedSimpArgs false

theorem exec_load_any {P : Program} {op : Oper} {a : Act} {w : World} {ty : TypeId} {x : Operand} {p : Addr} {cs : List Value} {d : TypeDesc} (ho : op.op = .load ty x) (hx : a.eval x = .pointer (some p)) (hc : Rng w p cs)
    (hu : P.underlying ty = some d) (hd : d.isRow = true) (hi : (P.info? ty).map (·.size) = some cs.length) : (execOp a.eval op).run P w = .ok (.value (.agg cs.toArray)) w := by
  have hl : (loadCells p cs.length).run P w = .ok cs.toArray w := run_loadCells_list (P := P) w p cs hc
  have hv : (loadVar ty p).run P w = .ok (.agg cs.toArray) w := by
    cases hq : P.info? ty with
    | none => simp [hq] at hi
    | some i =>
      have hs : i.size = cs.length := by simpa [hq] using hi
      have hagg : (isAgg ty).run P w = .ok true w := by
        unfold isAgg
        rw [Sem.run_bind, run_underlying hu w]
        cases d <;> simp_all
      simp [loadVar, Sem.run_bind, hagg, sizeOf, typeInfo, hq, hs, hl]
  unfold execOp
  simp only [ho, hx, Instr.loadAt, Instr.sureAddr, Sem.run_bind, Sem.run_pure, Result.andThen_ok, hv]
theorem Rng.below {w w1 : World} {a : Addr} {cs : List Value} (h : Rng w a cs) (b : Below w.heap.size w w1) : Rng w1 a cs := fun j v hj =>
  (b.cell (World.block_lt_of_cell? w _ (h j v hj))).trans (h j v hj)

set_option maxHeartbeats 2000000 in
set_option maxRecDepth 100000 in
theorem rcheck_c (L : Int) (A : Option Addr) (c : Nat) (l : List En) (w : World) (hr : Kd.C kEn w A l.length l) : Calls Try.prog 15 #[.agg #[.int .i64 L, .slice A l.length c]] w fun e w' => e = .returned (.tuple #[.int .i64 (checkS L l).1, .int .i64 (checkS L l).2]) ∧ Below w.heap.size w w' := by
  have HR := Lib.hid hr
  clear hr
  obtain ⟨r, hr⟩ : ∃ r, r = checkS L l := ⟨_, rfl⟩
  rw [← hr]
  have HRR := Lib.hid hr
  clear hr
  by_cases c1 : L < 0 ∨ 16 < L
  · have hv : r = (0, 5) := by rw [HRR.out]; unfold checkS; rw [if_pos c1]
    subst hv
    by_cases c2 : L < 0
    · have d1 : decide (L < 0) = true := by simp [c2]
      go_enter Try.func15, Try.ntmps15
      go_wp2
      go_ret2
      exact ⟨rfl, below_alloc (Below.refl _ _) _⟩
    · have d1 : decide (L < 0) = false := by simp; omega
      have d2 : decide (16 < L) = true := by simp; omega
      go_enter Try.func15, Try.ntmps15
      go_wp2
      go_ret2
      exact ⟨rfl, below_alloc (Below.refl _ _) _⟩
  · have d1 : decide (L < 0) = false := by simp; omega
    have d2 : decide (16 < L) = false := by simp; omega
    by_cases c2 : 4096 < l.length
    · have hv : r = (4096, 4) := by rw [HRR.out]; unfold checkS; rw [if_neg c1, if_pos c2]
      subst hv
      have d3 : decide (4096 < (l.length : Int)) = true := by simp; omega
      go_enter Try.func15, Try.ntmps15
      go_wp2
      go_ret2
      exact ⟨rfl, below_alloc (Below.refl _ _) _⟩
    · have HRK := Lib.hid (show checkF L l (l.length + 1) 0 (-1) = r by rw [HRR.out]; unfold checkS; rw [if_neg c1, if_neg c2])
      have d3 : decide (4096 < (l.length : Int)) = false := by simp; omega
      clear HRR
      go_enter Try.func15, Try.ntmps15
      go_wp2
      go_loopg [4, 5] (l.length + 1) (fun k v4 v5 W => ∃ (i : Nat) (last : Int), v4 = .int .i64 last ∧ v5 = .int .i64 (i : Int) ∧ i + k = l.length + 1 ∧ i ≤ l.length ∧ CkSt w W L A c l ∧ Hid (checkF L l k i last = r))
      case atStart => exact ⟨0, -1, rfl, rfl, by omega, Nat.zero_le _, ⟨blk_new w _, below_alloc (Below.refl _ _) _⟩, HRK⟩
      case round =>
        obtain ⟨i, last, rfl, rfl, hi, hil, St, HF⟩ := hrel
        clear HRK
        obtain ⟨k, rfl⟩ : ∃ k, gk = k + 1 := ⟨gk - 1, by omega⟩
        have k1' : wr.cell? ⟨w.heap.size, 1, none⟩ = some (.slice A l.length c) := blk_cell St.a 1
        by_cases hlt : i < l.length
        · have e1 : decide ((i : Int) < (l.length : Int)) = true := decide_eq_true (by exact_mod_cast hlt)
          obtain ⟨ad, rfl, hwf, hrg⟩ := at_en (Kd.C_below HR.out St.below) i hlt
          have hF := HF.out
          rw [checkF, if_pos hlt] at hF
          obtain ⟨x, hx⟩ : ∃ x, x = l.getD i en0 := ⟨_, rfl⟩
          rw [← hx] at hwf hrg hF
          clear hx HF
          have HRg := Lib.hid hrg
          have m0 := hrg.at_
          have HW := Lib.hid hwf
          have HFF := Lib.hid hF
          have HSt := Lib.hid St
          have HRs := Lib.hid (after_c x.at_ last)
          have k0 : wr.cell? ⟨w.heap.size, 0, none⟩ = some (.int .i64 L) := blk_cell St.a 0
          clear hwf hrg hF St
          obtain ⟨e, he⟩ : ∃ e, e = risesS last x.at_ := ⟨_, rfl⟩
          rw [← he] at HRs
          by_cases hz : e = 0
          · subst hz
            obtain ⟨q, hq⟩ : ∃ q, q = bodyS L x := ⟨_, rfl⟩
            have HBd := Lib.hid (fun W => body_c x L HW.out (by omega) (by omega) W)
            unfold enV at HBd
            rw [← hq] at HBd
            have HE0 := Lib.hid he
            have HQ := Lib.hid hq
            clear he hq
            go_wp2_with (first | (go_at_call 38; refine (HRs.out _).mono ?_; rintro e w1 ⟨rfl, ⟨⟨n1, rfl⟩⟩⟩))
            have HSt2 := Lib.hid (HSt.out.drewN n1)
            have HRg2 : Hid (Rng (wr.drewN n1).drew (ad.add (i * 28)) (enC x)) := Lib.hid (show Rng wr _ _ from HRg.out)
            refine start_ (n := 9) (S := fun W => W.cell? ⟨w.heap.size, 0, none⟩ = some (.int .i64 L) ∧ W.cell? ⟨w.heap.size, 1, none⟩ = some (.slice (some ad) l.length c) ∧ Rng W (ad.add (i * 28)) (enC x)) (ds := []) #[false, false, false, false, false, false, false, false, false] (by kernel_rfl) rfl rfl ⟨k0, k1', HRg2.out⟩ (fun hHeld => ?_)
            refine pure_ (i := 0) (N := some 36) (v := ?_) (a' := ?_) #[true, false, false, false, false, false, false, false, false] rfl rfl (by kernel_rfl) (fun _ _ _ h => h) (Or.inl ⟨by rfl, ?_⟩) ?_ ?_
            rotate_left
            · intro w_
              go_simp
              with_reducible rfl
            rotate_left
            · simp only [Act.put, List.setIfInBounds_toArray, List.set_cons_zero, List.set_cons_succ]
              rfl
            refine pure_ (i := 2) (N := some 38) (v := ?_) (a' := ?_) #[true, false, true, false, false, false, false, false, false] rfl rfl (by kernel_rfl) (fun _ _ _ h => h) (Or.inl ⟨by rfl, ?_⟩) ?_ ?_
            rotate_left
            · intro w_
              go_simp
              with_reducible rfl
            rotate_left
            · simp only [Act.put, List.setIfInBounds_toArray, List.set_cons_zero, List.set_cons_succ]
              rfl
            refine pure_ (i := 4) (N := some 40) (v := ?_) (a' := ?_) #[true, false, true, false, true, false, false, false, false] rfl rfl (by kernel_rfl) (fun _ _ _ h => h) (Or.inl ⟨by rfl, ?_⟩) ?_ ?_
            rotate_left
            · intro w_
              go_simp
              with_reducible rfl
            rotate_left
            · simp only [Act.put, List.setIfInBounds_toArray, List.set_cons_zero, List.set_cons_succ]
              rfl
            refine take_ (i := 1) (N := some 37) (v := ?_) (a' := ?_) #[true, true, true, false, true, false, false, false, false] rfl rfl (by kernel_rfl) (fun _ _ _ h => h) (Or.inl ⟨by rfl, ?_⟩) hHeld ?_ ?_
            rotate_left
            · intro w_ hS_
              obtain ⟨s0, s1, s2⟩ := hS_
              go_simp
              with_reducible rfl
            rotate_left
            · simp only [Act.put, List.setIfInBounds_toArray, List.set_cons_zero, List.set_cons_succ]
              rfl
            refine take_ (i := 3) (N := some 39) (v := ?_) (a' := ?_) #[true, true, true, true, true, false, false, false, false] rfl rfl (by kernel_rfl) (fun _ _ _ h => h) (Or.inl ⟨by rfl, ?_⟩) hHeld ?_ ?_
            rotate_left
            · intro w_ hS_
              obtain ⟨s0, s1, s2⟩ := hS_
              go_simp
              with_reducible rfl
            rotate_left
            · simp only [Act.put, List.setIfInBounds_toArray, List.set_cons_zero, List.set_cons_succ]
              rfl
            refine pure_ (i := 5) (N := some 41) (v := ?_) (a' := ?_) #[true, true, true, true, true, true, false, false, false] rfl rfl (by kernel_rfl) (fun _ _ _ h => h) (Or.inl ⟨by rfl, ?_⟩) ?_ ?_
            rotate_left
            · intro w_
              go_simp
              with_reducible rfl
            rotate_left
            · simp only [Act.put, List.setIfInBounds_toArray, List.set_cons_zero, List.set_cons_succ]
              rfl
            refine take_ (i := 6) (N := some 42) (v := ?_) (a' := ?_) #[true, true, true, true, true, true, true, false, false] rfl rfl (by kernel_rfl) (fun _ _ _ h => h) (Or.inl ⟨by rfl, ?_⟩) hHeld ?_ ?_
            rotate_left
            · intro w_ hS_
              obtain ⟨s0, s1, s2⟩ := hS_
              refine exec_load_any (ty := 44) (x := .tmp 41) (p := ad.add (i * 28)) (cs := enC x) ?_ ?_ s2 Try.underlying44 rfl (by rw [enC_len HW.out]; kernel_rfl)
              · rfl
              · rfl
            rotate_left
            · simp only [Act.put, List.setIfInBounds_toArray, List.set_cons_zero, List.set_cons_succ]
              rfl
            refine one_ (i := 7) (N := some 43) #[true, true, true, true, true, true, true, true, false] rfl rfl (by kernel_rfl) (by decide) (fun K hK => ?_)
            refine goes_ Try.func39 (by kernel_rfl) rfl #[.int .i64 L, .agg (enC x).toArray] (by rfl) rfl rfl (by simp only [List.map_toArray, List.map_cons, List.map_nil]; rfl) ?_
            refine (HBd.out _).mono ?_
            rintro e3 w3 ⟨rfl, b3⟩
            refine ⟨_, rfl, ?_⟩
            have St3 := (HSt2.out.drewN 1).next b3
            have hrg3 := (HRg2.out.below b3)
            refine hK.out _ _ ⟨blk_cell St3.a 0, blk_cell St3.a 1, hrg3⟩ (fun hHeld => ?_)
            clear hK K
            refine norm_ (a' := ?_) ?_ ?_
            rotate_left
            · show Act.put _ (some 43) _ = _
              simp only [Act.put, List.setIfInBounds_toArray, List.set_cons_zero, List.set_cons_succ]
              rfl
            refine pure_ (i := 8) (N := some 6) (v := ?_) (a' := ?_) #[true, true, true, true, true, true, true, true, true] rfl rfl (by kernel_rfl) (fun _ _ _ h => h) (Or.inl ⟨by rfl, ?_⟩) ?_ ?_
            rotate_left
            · intro w_
              go_simp
              with_reducible rfl
            rotate_left
            · simp only [Act.put, List.setIfInBounds_toArray, List.set_cons_zero, List.set_cons_succ]
              rfl
            refine done_ (by kernel_rfl) ?_
            have HSt3 := Lib.hid St3
            obtain ⟨j0, j1, j2⟩ := hHeld
            have j3 := j2.at_
            clear j2 St3 hrg3
            by_cases hq0 : q = 0
            · subst hq0
              have HN := Lib.hid (show checkF L l k (i + 1) x.at_ = r by
                have h := HFF.out
                rw [if_neg] at h
                · exact h
                · unfold stepS; rw [← HE0.out, ← HQ.out]; simp)
              clear HFF HQ HE0
              go_wp2
              go_roundg k
              case measure => omega
              case rel => exact ⟨i + 1, x.at_, rfl, by simp, by omega, by omega, HSt3.out, HN⟩
            · have HE := Lib.hid (show r = ((i : Int), q) by
                have h := HFF.out
                rw [if_pos] at h
                · rw [← h]; unfold stepS; rw [← HE0.out, ← HQ.out]; simp
                · unfold stepS; rw [← HE0.out, ← HQ.out]; simp; exact hq0)
              have hqn : (q != 0) = true := by simp [hq0]
              clear HFF HQ HE0
              go_wp2
              go_ret2
              exact ⟨by rw [HE.out]; rfl, HSt3.out.below⟩
          · have HE := Lib.hid (show r = ((i : Int), e) by
              have h := HFF.out
              rw [if_pos] at h
              · rw [← h]; unfold stepS; rw [← he, if_pos hz]
              · unfold stepS; rw [← he, if_pos hz]; exact hz)
            have hen : (e != 0) = true := by simp [hz]
            have hen2 : (e == 0) = false := by simp [hz]
            clear he HFF
            go_wp2_with (first | (go_at_call 38; refine (HRs.out _).mono ?_; rintro e w1 ⟨rfl, ⟨⟨n1, rfl⟩⟩⟩))
            go_ret2
            exact ⟨by rw [HE.out]; rfl, (HSt.out.drewN _).below⟩
        · have e1 : decide ((i : Int) < (l.length : Int)) = false := decide_eq_false (by omega)
          have HE := Lib.hid (show r = (0, 0) by
            have h := HF.out
            rw [checkF, if_neg hlt] at h
            exact h.symm)
          have HSt := Lib.hid St
          clear HF St
          go_wp2
          go_ret2
          exact ⟨by rw [HE.out]; rfl, HSt.out.below⟩
end Go.Proofs.Ytfbdnfokoakfaaa.Ct
