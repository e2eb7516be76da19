/- The reference's body. -/
import Derived.Test.YtfbdnfokoakfaaaEqE
namespace Go.Proofs.Ytfbdnfokoakfaaa.Ct
open Go.RowKit Go.Proofs.YtfbdnfokoakfaaaW.PrintWords Go.Proofs.YtfbdnfokoakfaaaW.PrintLast Go.Proofs.YtfbdnfokoakfaaaW.PrintMore
set_option linter.unusedVariables false
set_option linter.unusedSimpArgs false

def bodyS (L : Int) (x : En) : Int := if x.dead = true then (if eqF x.fr fr0 = true then 0 else 65) else frameS x.fr L

structure BdSt (w W : World) (f : Fr) : Prop where
  a : W.heap[w.heap.size + 1]? = some (.cells (frC f).toArray 42 (0, 0))
  below : Below w.heap.size w W
theorem BdSt.drewN {w W : World} {f : Fr} (h : BdSt w W f) (n : Nat) : BdSt w (W.drewN n) f := ⟨h.a, pw_below_drewN h.below n⟩

theorem gen_world {P : Program} {c : Code} {Q : Exit → Act → World → Prop} {a : Act} {W : World} (Pr : World → Prop) (h : Pr W) (k : ∀ W', Pr W' → Code.wp P c Q a W') : Code.wp P c Q a W := k W h
/-- A whole value into the variable that was made last. -/
theorem wpList_store_new {P : Program} {ops : Array Oper} {rest : List Oper} {op : Oper} {a : Act} {Q : Exit → Act → World → Prop} (hgd : op.guard = none) (ty : TypeId) (x y : Operand) (ho : op.op = .store ty x y)
    (W : World) (c c' : Array Value) (n : Nat) (hn : W.heap.size = n) (hx : a.eval x = .pointer (some ⟨n, 0, none⟩)) (hy : a.eval y = .agg c') (hi : (P.info? ty).map (·.size) = some c'.size) (hc : c.size = c'.size) (h1 : c'.all (·.oneCell') = true)
    (h : wpList P ops Q rest (a.put op.dst undef) (W.alloc (.cells c' ty))) : wpList P ops Q (op :: rest) a (W.alloc (.cells c ty)) := by
  subst hn
  refine wpList_plain hgd fun _ hK => ?_
  unfold Oper.wp execOp
  simp only [ho, hx, hy, Sem.run_bind, run_storeAt_new W ty c c' hi hc h1, Sem.run_pure, Result.andThen_ok]
  exact hK _ _ h

theorem ix24 (g i : Nat) (hi : i < 24) (W : World) : (Instr.indexAt 40 (.pointer (some ⟨g, 2, none⟩)) (.int .i64 (i : Int))).run Try.prog W = .ok (.pointer (some ⟨g, 2 + i, none⟩)) W := by
  simp only [Instr.indexAt, asIntOf, Sem.run_bind, Sem.run_pure, Result.andThen_ok, run_underlying Try.underlying40, Instr.sureAddr]
  rw [if_pos (by omega)]
  simp only [size39, Sem.run_bind, Sem.run_pure, Result.andThen_ok, Int.toNat_natCast, Nat.mul_one, Addr.add_mid]
theorem guard42 (op : BinOp) (x y : Operand) (xs ys : Array Value) (w : World) : (eqGuard op 42 x y (.agg xs) (.agg ys)).run Try.prog w = .ok () w := run_eqGuard_agg w op 42 x y xs ys (by kernel_rfl)
theorem guard44 (op : BinOp) (x y : Operand) (xs ys : Array Value) (w : World) : (eqGuard op 44 x y (.agg xs) (.agg ys)).run Try.prog w = .ok () w := run_eqGuard_agg w op 44 x y xs ys (by kernel_rfl)
theorem run_neq42 {o : Oper} {a : Act} {x y : Operand} {f g : Fr} (ho : o.op = .binOp .neq 42 x y 42) (hx : a.eval x = .agg (frC f).toArray) (hy : a.eval y = .agg (frC g).toArray) (hf : f.wf) (hg : g.wf) (W : World) :
    (execOp a.eval o).run Try.prog W = .ok (.value (.bool (!eqF f g))) W := by
  have he : (Op.equalIn 10000 42 (.agg (frC f).toArray) (.agg (frC g).toArray)).run Try.prog W = .ok (eqF f g) W := eq_fr 9997 f g hf hg W
  unfold execOp
  simp only [ho, hx, hy, Sem.run_bind, guard42, run_neq_struct, he, Result.andThen_ok, Sem.run_pure]
theorem run_neq44 {o : Oper} {a : Act} {x y : Operand} {f g : En} (ho : o.op = .binOp .neq 44 x y 44) (hx : a.eval x = .agg (enC f).toArray) (hy : a.eval y = .agg (enC g).toArray) (hf : f.fr.wf) (hg : g.fr.wf) (W : World) :
    (execOp a.eval o).run Try.prog W = .ok (.value (.bool (!eqE f g))) W := by
  have he : (Op.equalIn 10000 44 (.agg (enC f).toArray) (.agg (enC g).toArray)).run Try.prog W = .ok (eqE f g) W := eq_en 9996 f g hf hg W
  unfold execOp
  simp only [ho, hx, hy, Sem.run_bind, guard44, run_neq_struct, run_eql_struct, he, Result.andThen_ok, Sem.run_pure]
theorem run_eql44 {o : Oper} {a : Act} {x y : Operand} {f g : En} (ho : o.op = .binOp .eql 44 x y 44) (hx : a.eval x = .agg (enC f).toArray) (hy : a.eval y = .agg (enC g).toArray) (hf : f.fr.wf) (hg : g.fr.wf) (W : World) :
    (execOp a.eval o).run Try.prog W = .ok (.value (.bool (eqE f g))) W := by
  have he : (Op.equalIn 10000 44 (.agg (enC f).toArray) (.agg (enC g).toArray)).run Try.prog W = .ok (eqE f g) W := eq_en 9996 f g hf hg W
  unfold execOp
  simp only [ho, hx, hy, Sem.run_bind, guard44, run_neq_struct, run_eql_struct, he, Result.andThen_ok, Sem.run_pure]

set_option maxHeartbeats 2000000 in
set_option maxRecDepth 100000 in
theorem body_c (x : En) (L : Int) (hf : x.fr.wf) (h0 : 0 ≤ L) (h1 : L ≤ 16) (w : World) : Calls Try.prog 39 #[.int .i64 L, enV x] w fun e w' => e = .returned (.int .i64 (bodyS L x)) ∧ Below w.heap.size w w' := by
  have HRg := Lib.hid (range_fr (range_new w (enC x) 44))
  have HF := Lib.hid hf
  unfold enV
  go_enter Try.func39, Try.ntmps39
  go_upto_region 2 with (first | ((with_reducible refine gate_dst (N := 9) rfl ?_); refine wpList_load_mid rfl 42 (.tmp 8) rfl w.heap.size 2 rfl (frC x.fr) _ HRg.out Try.underlying42 rfl (by rw [frC_len HF.out]; kernel_rfl) ?_) | ((with_reducible refine gate_store (t := 42) (p := 5) rfl ?_); refine wpList_store_new rfl 42 (.tmp 5) (.tmp 9) rfl (w.alloc (.cells (enC x).toArray 44)) _ (frC x.fr).toArray (w.heap.size + 1) (by rw [World.size_alloc]) rfl rfl (by simp only [List.size_toArray, frC_len HF.out]; kernel_rfl) (by simp [frC_len HF.out]) (all_oneCell_toArray (frC_one x.fr)) ?_))
  refine gen_world (fun W => W.heap[w.heap.size]? = some (.cells (enC x).toArray 44 (0, 0)) ∧ BdSt w W x.fr) ⟨blk_alloc (blk_new w _) _, by rw [← World.size_alloc w (.cells (enC x).toArray 44)]; exact blk_new _ _, below_alloc (below_alloc (Below.refl _ _) _) _⟩ ?_
  rintro W2 ⟨k1, St⟩
  have g1 := cell_dead (range_blk k1)
  have HSt := Lib.hid St
  have q0 := cell_l (range_blk St.a)
  have q1 := cell_h (range_blk St.a)
  have HRF := Lib.hid (range_blk St.a)
  clear k1 St HRg
  cases hdead : x.dead with
  | true =>
    rw [hdead] at g1
    have hv : bodyS L x = if eqF x.fr fr0 = true then 0 else 65 := by unfold bodyS; rw [if_pos hdead]
    cases hz : eqF x.fr fr0 with
    | true =>
      have HV := Lib.hid (show bodyS L x = 0 by rw [hv, hz]; rfl)
      clear hv
      go_wp2_with (first | ((with_reducible refine gate_dst (N := 12) rfl ?_); refine wpList_load_mid rfl 42 (.tmp 5) rfl (w.heap.size + 1) 0 rfl (frC x.fr) _ HRF.out Try.underlying42 rfl (by rw [frC_len HF.out]; kernel_rfl) ?_) | ((with_reducible refine gate_dst (N := 14) rfl ?_); refine Kd.event_run rfl (run_neq42 (f := x.fr) (g := fr0) rfl rfl rfl HF.out fr0_wf W2) ?_; rw [hz]))
      go_ret
      exact ⟨by rw [HV.out]; rfl, HSt.out.below⟩
    | false =>
      have HV := Lib.hid (show bodyS L x = 65 by rw [hv, hz]; rfl)
      clear hv
      go_wp2_with (first | ((with_reducible refine gate_dst (N := 12) rfl ?_); refine wpList_load_mid rfl 42 (.tmp 5) rfl (w.heap.size + 1) 0 rfl (frC x.fr) _ HRF.out Try.underlying42 rfl (by rw [frC_len HF.out]; kernel_rfl) ?_) | ((with_reducible refine gate_dst (N := 14) rfl ?_); refine Kd.event_run rfl (run_neq42 (f := x.fr) (g := fr0) rfl rfl rfl HF.out fr0_wf W2) ?_; rw [hz]))
      go_ret
      exact ⟨by rw [HV.out]; rfl, HSt.out.below⟩
  | false =>
    rw [hdead] at g1
    have hv : bodyS L x = frameS x.fr L := by unfold bodyS; rw [if_neg (by rw [hdead]; decide)]
    obtain ⟨f, hfe⟩ : ∃ f, f = x.fr := ⟨_, rfl⟩
    rw [← hfe] at q0 q1 HSt HF HRF hv ⊢
    clear hfe
    by_cases hbad : f.l ≠ L ∨ f.h < 0 ∨ 24 - L < f.h
    · have hv2 : bodyS L x = 65 := by rw [hv]; unfold frameS; rw [if_pos hbad]
      have HV := Lib.hid hv2
      clear hv hv2
      by_cases c1 : f.l = L
      · have d1 : (f.l != L) = false := by simp [c1]
        by_cases c2 : f.h < 0
        · have d2 : decide (f.h < 0) = true := by simp [c2]
          go_wp2
          go_ret
          exact ⟨by rw [HV.out]; rfl, HSt.out.below⟩
        · have d2 : decide (f.h < 0) = false := by simp; omega
          have d3 : decide (24 - L < f.h) = true := by simp; omega
          go_wp2
          go_ret
          exact ⟨by rw [HV.out]; rfl, HSt.out.below⟩
      · have d1 : (f.l != L) = true := by simp [c1]
        go_wp2
        go_ret
        exact ⟨by rw [HV.out]; rfl, HSt.out.below⟩
    · obtain ⟨hl, hh0, hh1⟩ : f.l = L ∧ 0 ≤ f.h ∧ f.h ≤ 24 - L := by
        refine ⟨?_, by omega, by omega⟩
        by_cases c : f.l = L
        · exact c
        · exact absurd (.inl c) hbad
      obtain ⟨n, hn⟩ : ∃ n : Nat, (L + f.h) = (n : Int) := ⟨(L + f.h).toNat, by omega⟩
      have hn24 : n ≤ 24 := by omega
      have hv2 : bodyS L x = if (f.s.drop n).all (fun t => t == 0) = true then (if (f.s.take n).all knownB = true then 0 else 62) else 65 := by
        rw [hv]
        unfold frameS
        rw [if_neg hbad, hn, Int.toNat_natCast]
      have HV := Lib.hid hv2
      have hs24 : f.s.length = 24 := HF.out.1
      have d1 : (f.l != L) = false := by simp [hl]
      have d2 : decide (f.h < 0) = false := by simp; omega
      have d3 : decide (24 - L < f.h) = false := by simp; omega
      clear hbad hv hv2
      go_wp2
      go_loopg [6] (25) (fun k v6 W => ∃ i : Nat, v6 = .int .i64 (i : Int) ∧ n ≤ i ∧ i + k = n + 25 ∧ i ≤ 24 ∧ BdSt w W f ∧ Hid (∀ j, (hj : j < f.s.length) → n ≤ j → j < i → f.s[j] = 0))
      case atStart => exact ⟨n, rfl, Nat.le_refl _, by omega, by omega, HSt.out, Lib.hid (fun j hj h1 h => absurd h (by omega))⟩
      case round =>
        obtain ⟨i, rfl, hni, hi, hi24, St, HZ⟩ := hrel
        clear HSt HRF q0 q1 g1
        by_cases hlt : i < 24
        · have hx := range_slot (range_blk St.a) i (by omega)
          rw [show 0 + 2 + i = 2 + i by omega] at hx
          have hix := ix24 (w.heap.size + 1) i hlt
          have HSt := Lib.hid St
          obtain ⟨y, hxx⟩ : ∃ y, y = f.s[i] := ⟨_, rfl⟩
          rw [← hxx] at hx
          have e1 : decide ((i : Int) < 24) = true := by simp; omega
          by_cases hz : y = 0
          · subst hz
            have HXX := Lib.hid hxx
            clear hxx St
            obtain ⟨k, rfl⟩ : ∃ k, gk = k + 1 := ⟨gk - 1, by omega⟩
            go_wp2
            go_roundg k
            case measure => omega
            case rel => exact ⟨i + 1, by simp, by omega, by omega, by omega, HSt.out, Lib.hid (fun j hj h1 h => by
              by_cases e : j = i
              · subst e; exact HXX.out.symm
              · exact HZ.out j hj h1 (by omega))⟩
          · have hne : (y != 0) = true := by simp [hz]
            have hv0 : bodyS L x = 65 := by
              rw [HV.out, if_neg]
              intro h
              rw [List.all_eq_true] at h
              have this : (f.s[i] == 0) = true := h f.s[i] (by rw [List.mem_drop_iff_getElem]; exact ⟨i - n, by omega, by congr 1; omega⟩)
              rw [← hxx] at this
              exact hz (by simpa using this)
            have HV0 := Lib.hid hv0
            clear hxx St hv0
            go_wp2
            go_ret
            exact ⟨by rw [HV0.out]; rfl, HSt.out.below⟩
        · have e1 : decide ((i : Int) < 24) = false := by simp; omega
          have hzero : ∀ j, (hj : j < f.s.length) → n ≤ j → f.s[j] = 0 := fun j hj h => HZ.out j hj h (by omega)
          have hall : (f.s.drop n).all (fun t => t == 0) = true := by
            rw [List.all_eq_true]
            intro t ht
            rw [List.mem_drop_iff_getElem] at ht
            obtain ⟨j, hj, rfl⟩ := ht
            simp [hzero (n + j) (by omega) (by omega)]
          have HV2 := Lib.hid (show bodyS L x = if (f.s.take n).all knownB = true then 0 else 62 by rw [HV.out, if_pos hall])
          have HZ2 := Lib.hid hzero
          have HSt := Lib.hid St
          clear HZ hall St HV hzero
          go_wp2
          go_loopg [7] 25 (fun k v7 W => ∃ i : Nat, v7 = .int .i64 (i : Int) ∧ i + k = 25 ∧ BdSt w W f ∧ Hid (∀ j, (hj : j < f.s.length) → j < i → knownB f.s[j] = true))
          case atStart => exact ⟨0, rfl, by omega, HSt.out, Lib.hid (fun j hj h => absurd h (Nat.not_lt_zero _))⟩
          case round =>
            obtain ⟨i, rfl, hi, St, HZ⟩ := hrel
            clear HSt
            by_cases hlt : i < 24
            · have hx := range_slot (range_blk St.a) i (by omega)
              rw [show 0 + 2 + i = 2 + i by omega] at hx
              have hix := ix24 (w.heap.size + 1) i hlt
              have HSt := Lib.hid St
              obtain ⟨y, hxx⟩ : ∃ y, y = f.s[i] := ⟨_, rfl⟩
              rw [← hxx] at hx
              have e1 : decide ((i : Int) < 24) = true := by simp; omega
              have HK := Lib.hid (isCode_c y)
              by_cases hz : knownB y = true
              · rw [hz] at HK
                have HXX := Lib.hid (show knownB f.s[i] = true by rw [← hxx]; exact hz)
                clear hxx St hz
                obtain ⟨k, rfl⟩ : ∃ k, gk = k + 1 := ⟨gk - 1, by omega⟩
                go_wp2_with (go_at_call 46; refine (HK.out _).mono ?_; rintro e w1 ⟨rfl, ⟨⟨n1, rfl⟩⟩⟩)
                go_roundg k
                case measure => omega
                case rel => exact ⟨i + 1, by simp, by omega, HSt.out.drewN _, Lib.hid (fun j hj h => by
                  by_cases e : j = i
                  · subst e; exact HXX.out
                  · exact HZ.out j hj (by omega))⟩
              · have hv0 : bodyS L x = 62 := by
                  rw [HV2.out, if_neg]
                  intro h
                  rw [List.all_eq_true] at h
                  have hin : i < n := by
                    by_cases c : i < n
                    · exact c
                    · exfalso
                      have := HZ2.out i (by omega) (by omega)
                      rw [← hxx] at this
                      rw [this] at hz
                      exact hz (by decide)
                  have this := h f.s[i] (by rw [List.mem_take_iff_getElem]; exact ⟨i, by omega, rfl⟩)
                  rw [← hxx] at this
                  exact hz this
                have HV0 := Lib.hid hv0
                replace hz := Bool.eq_false_iff.mpr hz
                rw [hz] at HK
                clear hxx St hz hv0
                go_wp2_with (go_at_call 46; refine (HK.out _).mono ?_; rintro e w1 ⟨rfl, ⟨⟨n1, rfl⟩⟩⟩)
                go_ret
                exact ⟨by rw [HV0.out]; rfl, pw_below_drewN HSt.out.below _⟩
            · have e1 : decide ((i : Int) < 24) = false := by simp; omega
              have hall : (f.s.take n).all knownB = true := by
                rw [List.all_eq_true]
                intro t ht
                rw [List.mem_take_iff_getElem] at ht
                obtain ⟨j, hj, rfl⟩ := ht
                exact HZ.out j (by omega) (by omega)
              have hv0 : bodyS L x = 0 := by rw [HV2.out, if_pos hall]
              have HV0 := Lib.hid hv0
              have HSt := Lib.hid St
              clear HZ hall St HV2 hv0
              go_wp2
              go_ret
              exact ⟨by rw [HV0.out]; rfl, HSt.out.below⟩
end Go.Proofs.Ytfbdnfokoakfaaa.Ct
