/- cert.Check and the reference's. -/
import Derived.Test.YtfbdnfokoakfaaaBodyC
namespace Go.Proofs.Ytfbdnfokoakfaaa.Ct
open Go.RowKit Go.Proofs.YtfbdnfokoakfaaaW.PrintWords Go.Proofs.YtfbdnfokoakfaaaW.PrintLast Go.Proofs.YtfbdnfokoakfaaaW.PrintMore
set_option linter.unusedVariables false
set_option linter.unusedSimpArgs false

def stepS (L last : Int) (x : En) : Int := if risesS last x.at_ ≠ 0 then risesS last x.at_ else bodyS L x
def checkF (L : Int) (l : List En) : Nat → Nat → Int → Int × Int
  | 0, _, _ => (0, 0)
  | f + 1, i, last => if i < l.length then (if stepS L last (l.getD i en0) ≠ 0 then ((i : Int), stepS L last (l.getD i en0)) else checkF L l f (i + 1) (l.getD i en0).at_) else (0, 0)
def checkS (L : Int) (l : List En) : Int × Int := if L < 0 ∨ 16 < L then (0, 5) else if 4096 < l.length then (4096, 4) else checkF L l (l.length + 1) 0 (-1)

/-! ### Loads at whatever address -/
def Rng (w : World) (a : Addr) (cs : List Value) : Prop := ∀ j v, cs[j]? = some v → w.cell? (a.add j) = some v
theorem wpList_load_any {P : Program} {ops : Array Oper} {rest : List Oper} {op : Oper} {a : Act} {w : World} {Q : Exit → Act → World → Prop} (hgd : op.guard = none) (ty : TypeId) (x : Operand) (ho : op.op = .load ty x)
    (p : Addr) (hx : a.eval x = .pointer (some p)) (cs : List Value) (d : TypeDesc) (hc : Rng w p cs) (hu : P.underlying ty = some d) (hd : d.isRow = true) (hi : (P.info? ty).map (·.size) = some cs.length)
    (h : wpList P ops Q rest (a.put op.dst (.agg cs.toArray)) w) : wpList P ops Q (op :: rest) a w := by
  refine wpList_plain hgd fun _ hK => ?_
  have hl : (loadCells p cs.length).run P w = .ok cs.toArray w := run_loadCells_list (P := P) w p cs hc
  have hv : (loadVar ty p).run P w = .ok (.agg cs.toArray) w := by
    cases hq : P.info? ty with
    | none => simp [hq] at hi
    | some i =>
      have hs : i.size = cs.length := by simpa [hq] using hi
      have hagg : (isAgg ty).run P w = .ok true w := by
        unfold isAgg
        rw [Sem.run_bind, run_underlying hu w]
        cases d <;> simp_all
      simp [loadVar, Sem.run_bind, hagg, sizeOf, typeInfo, hq, hs, hl]
  unfold Oper.wp execOp
  simp only [ho, hx, Instr.loadAt, Instr.sureAddr, Sem.run_bind, Sem.run_pure, Result.andThen_ok, hv]
  exact hK _ _ h

theorem rng_of {w : World} {b o : Nat} {cs : List Value} (h : w.rangeAt b o cs) : Rng w ⟨b, o, none⟩ cs := fun j v hj => by rw [Addr.add_mid]; exact h j v hj
/-- An element of a row of entries. -/
theorem at_en {w : World} {A : Option Addr} {n : Nat} {l : List En} (h : Kd.C kEn w A n l) (i : Nat) (hi : i < n) : ∃ ad, A = some ad ∧ (l.getD i en0).fr.wf ∧ Rng w (ad.add (i * 28)) (enC (l.getD i en0)) := by
  obtain ⟨ad, c, e, _, hK, hc0⟩ := Kd.C_get h en0 (i : Int) (by omega) (by omega)
  obtain ⟨rfl, hwf⟩ := hK
  simp only [Int.toNat_natCast] at hc0 hwf
  refine ⟨ad, e, hwf, fun j v hj => ?_⟩
  rw [Deep.add_add]
  exact hc0 j v hj
theorem Rng.at_ {w : World} {a : Addr} {x : En} (h : Rng w a (enC x)) : w.cell? a = some (.int .i64 x.at_) := by have := h 0 _ rfl; rwa [show a.add 0 = a by simp [Addr.add]] at this

structure CkSt (w W : World) (L : Int) (A : Option Addr) (c : Nat) (l : List En) : Prop where
  a : W.heap[w.heap.size]? = some (.cells #[.int .i64 L, .slice A l.length c] 24 (0, 0))
  below : Below w.heap.size w W
theorem CkSt.drewN {w W : World} {L : Int} {A : Option Addr} {c : Nat} {l : List En} (h : CkSt w W L A c l) (n : Nat) : CkSt w (W.drewN n) L A c l := ⟨h.a, pw_below_drewN h.below n⟩
theorem CkSt.next {w W W2 : World} {L : Int} {A : Option Addr} {c : Nat} {l : List En} (h : CkSt w W L A c l) (b : Below W.heap.size W W2) : CkSt w W2 L A c l :=
  ⟨blk_below h.a b, h.below.trans (b.mono h.below.size)⟩

set_option maxHeartbeats 2000000 in
set_option maxRecDepth 100000 in
theorem check_c (L : Int) (A : Option Addr) (c : Nat) (l : List En) (w : World) (hr : Kd.C kEn w A l.length l) : Calls Try.prog 14 #[.agg #[.int .i64 L, .slice A l.length c]] w fun e w' => e = .returned (.tuple #[.int .i64 (checkS L l).1, .int .i64 (checkS L l).2]) ∧ Below w.heap.size w w' := by
  have HR := Lib.hid hr
  clear hr
  obtain ⟨r, hr⟩ : ∃ r, r = checkS L l := ⟨_, rfl⟩
  rw [← hr]
  have HRR := Lib.hid hr
  clear hr
  by_cases c1 : L < 0 ∨ 16 < L
  · have hv : r = (0, 5) := by rw [HRR.out]; unfold checkS; rw [if_pos c1]
    subst hv
    by_cases c2 : L < 0
    · have d1 : decide (L < 0) = true := by simp [c2]
      go_enter Try.func14, Try.ntmps14
      go_wp2
      go_ret2
      exact ⟨rfl, below_alloc (Below.refl _ _) _⟩
    · have d1 : decide (L < 0) = false := by simp; omega
      have d2 : decide (16 < L) = true := by simp; omega
      go_enter Try.func14, Try.ntmps14
      go_wp2
      go_ret2
      exact ⟨rfl, below_alloc (Below.refl _ _) _⟩
  · have d1 : decide (L < 0) = false := by simp; omega
    have d2 : decide (16 < L) = false := by simp; omega
    by_cases c2 : 4096 < l.length
    · have hv : r = (4096, 4) := by rw [HRR.out]; unfold checkS; rw [if_neg c1, if_pos c2]
      subst hv
      have d3 : decide (4096 < (l.length : Int)) = true := by simp; omega
      go_enter Try.func14, Try.ntmps14
      go_wp2
      go_ret2
      exact ⟨rfl, below_alloc (Below.refl _ _) _⟩
    · have HRK := Lib.hid (show checkF L l (l.length + 1) 0 (-1) = r by rw [HRR.out]; unfold checkS; rw [if_neg c1, if_neg c2])
      have d3 : decide (4096 < (l.length : Int)) = false := by simp; omega
      clear HRR
      go_enter Try.func14, Try.ntmps14
      go_wp2
      go_loopg [4, 23] (l.length + 1) (fun k v4 v23 W => ∃ (i : Nat) (last : Int), v4 = .int .i64 last ∧ v23 = .int .i64 (i : Int) ∧ i + k = l.length + 1 ∧ i ≤ l.length ∧ CkSt w W L A c l ∧ Hid (checkF L l k i last = r))
      case atStart => exact ⟨0, -1, rfl, rfl, by omega, Nat.zero_le _, ⟨blk_new w _, below_alloc (Below.refl _ _) _⟩, HRK⟩
      case round =>
        obtain ⟨i, last, rfl, rfl, hi, hil, St, HF⟩ := hrel
        clear HRK
        obtain ⟨k, rfl⟩ : ∃ k, gk = k + 1 := ⟨gk - 1, by omega⟩
        by_cases hlt : i < l.length
        · have e1 : decide ((i : Int) < (l.length : Int)) = true := decide_eq_true (by exact_mod_cast hlt)
          obtain ⟨ad, rfl, hwf, hrg⟩ := at_en (Kd.C_below HR.out St.below) i hlt
          have hF := HF.out
          rw [checkF, if_pos hlt] at hF
          obtain ⟨x, hx⟩ : ∃ x, x = l.getD i en0 := ⟨_, rfl⟩
          rw [← hx] at hwf hrg hF
          clear hx HF
          have HRg := Lib.hid hrg
          have HW := Lib.hid hwf
          have HFF := Lib.hid hF
          have HSt := Lib.hid St
          have HRs := Lib.hid (rises_c last x.at_)
          have k0 : wr.cell? ⟨w.heap.size, 0, none⟩ = some (.int .i64 L) := blk_cell St.a 0
          have k1 : wr.cell? ⟨w.heap.size, 1, none⟩ = some (.slice (some ad) l.length c) := blk_cell St.a 1
          clear hwf hrg hF St
          go_upto_region 9 with (first | ((with_reducible refine gate_dst (N := 27) rfl ?_); refine wpList_load_any rfl 44 (.tmp 26) rfl (ad.add (i * 28)) rfl (enC x) _ HRg.out Try.underlying44 rfl (by rw [enC_len HW.out]; kernel_rfl) ?_) | ((with_reducible refine gate_store (t := 44) (p := 6) rfl ?_); refine wpList_store_new rfl 44 (.tmp 6) (.tmp 27) rfl wr _ (enC x).toArray wr.heap.size rfl rfl rfl (by simp only [List.size_toArray, enC_len HW.out]; kernel_rfl) (by simp [enC_len HW.out]) (all_oneCell_toArray (enC_one x)) ?_))
          refine gen_world (fun W => W.heap[wr.heap.size]? = some (.cells (enC x).toArray 44 (0, 0)) ∧ CkSt w W L (some ad) c l) ⟨blk_new wr _, HSt.out.next (below_alloc (Below.refl _ _) _)⟩ ?_
          rintro W2 ⟨kx, St2⟩
          have HX := Lib.hid (range_blk kx)
          have HKX := Lib.hid kx
          have HSt2 := Lib.hid St2
          have m0 := cell_at (range_blk kx)
          have m1 := cell_dead (range_blk kx)
          have n0 : W2.cell? ⟨w.heap.size, 0, none⟩ = some (.int .i64 L) := blk_cell St2.a 0
          have n1 : W2.cell? ⟨w.heap.size, 1, none⟩ = some (.slice (some ad) l.length c) := blk_cell St2.a 1
          clear k0 k1 kx St2 HSt HRg
          obtain ⟨e, he⟩ : ∃ e, e = risesS last x.at_ := ⟨_, rfl⟩
          rw [← he] at HRs
          by_cases hz : e = 0
          · subst hz
            cases hd : x.dead with
            | true =>
              rw [hd] at m1
              cases hq : eqF x.fr fr0 with
              | true =>
                have HN := Lib.hid (show checkF L l k (i + 1) x.at_ = r by
                  have h := HFF.out
                  rw [if_neg] at h
                  · exact h
                  · unfold stepS bodyS; rw [← he, hd, hq]; simp)
                clear he HFF
                go_wp2_with (first | (go_at_call 36; refine (HRs.out _).mono ?_; rintro e w1 ⟨rfl, ⟨⟨n1, rfl⟩⟩⟩) | ((with_reducible refine gate_dst (N := 40) rfl ?_); refine gate_guard (by rfl) ?_; refine wpList_load_any rfl 42 (.tmp 39) rfl ⟨wr.heap.size, 2, none⟩ rfl (frC x.fr) _ (rng_of (range_fr HX.out)) Try.underlying42 rfl (by rw [frC_len HW.out]; kernel_rfl) ?_) | ((with_reducible refine gate_dst (N := 42) rfl ?_); refine gate_guard (by rfl) ?_; refine Kd.event_run rfl (run_neq42 (f := x.fr) (g := fr0) rfl rfl rfl HW.out fr0_wf _) ?_; rw [hq]))
                go_roundg k
                case measure => omega
                case rel => exact ⟨i + 1, x.at_, rfl, by simp, by omega, by omega, HSt2.out.drewN _, HN⟩
              | false =>
                have HE := Lib.hid (show r = ((i : Int), 65) by
                  have h := HFF.out
                  rw [if_pos] at h
                  · rw [← h]; unfold stepS bodyS; rw [← he, hd, hq]; simp
                  · unfold stepS bodyS; rw [← he, hd, hq]; simp)
                clear he HFF
                go_wp2_with (first | (go_at_call 36; refine (HRs.out _).mono ?_; rintro e w1 ⟨rfl, ⟨⟨n1, rfl⟩⟩⟩) | ((with_reducible refine gate_dst (N := 40) rfl ?_); refine gate_guard (by rfl) ?_; refine wpList_load_any rfl 42 (.tmp 39) rfl ⟨wr.heap.size, 2, none⟩ rfl (frC x.fr) _ (rng_of (range_fr HX.out)) Try.underlying42 rfl (by rw [frC_len HW.out]; kernel_rfl) ?_) | ((with_reducible refine gate_dst (N := 42) rfl ?_); refine gate_guard (by rfl) ?_; refine Kd.event_run rfl (run_neq42 (f := x.fr) (g := fr0) rfl rfl rfl HW.out fr0_wf _) ?_; rw [hq]))
                go_ret2
                exact ⟨by rw [HE.out]; rfl, (HSt2.out.drewN _).below⟩
            | false =>
              rw [hd] at m1
              have HFr := Lib.hid (fun W => frame_c x.fr L HW.out (by omega) (by omega) W)
              obtain ⟨q, hq⟩ : ∃ q, q = frameS x.fr L := ⟨_, rfl⟩
              rw [← hq] at HFr
              by_cases hq0 : q = 0
              · subst hq0
                have HN := Lib.hid (show checkF L l k (i + 1) x.at_ = r by
                  have h := HFF.out
                  rw [if_neg] at h
                  · exact h
                  · unfold stepS bodyS; rw [← he, hd, ← hq]; simp)
                clear he HFF hq
                go_wp2_with (first | (go_at_call 36; refine (HRs.out _).mono ?_; rintro e w1 ⟨rfl, ⟨⟨n1, rfl⟩⟩⟩) | ((with_reducible refine gate_dst (N := 49) rfl ?_); refine wpList_load_any rfl 42 (.tmp 48) rfl ⟨wr.heap.size, 2, none⟩ rfl (frC x.fr) _ (rng_of (range_fr HX.out)) Try.underlying42 rfl (by rw [frC_len HW.out]; kernel_rfl) ?_) | (go_at_call 37; refine (HFr.out _).mono ?_; rintro e w1 ⟨rfl, b3⟩; have m0 := cell_at (range_blk (blk_below (show (W2.drewN n1).heap[wr.heap.size]? = _ from HKX.out) b3))))
                go_roundg k
                case measure => omega
                case rel => exact ⟨i + 1, x.at_, rfl, by simp, by omega, by omega, (HSt2.out.drewN _).next b3, HN⟩
              · have HE := Lib.hid (show r = ((i : Int), q) by
                  have h := HFF.out
                  rw [if_pos] at h
                  · rw [← h]; unfold stepS bodyS; rw [← he, hd, ← hq]; simp
                  · unfold stepS bodyS; rw [← he, hd, ← hq]; simp; exact hq0)
                have hqn : (q != 0) = true := by simp [hq0]
                clear he HFF hq
                go_wp2_with (first | (go_at_call 36; refine (HRs.out _).mono ?_; rintro e w1 ⟨rfl, ⟨⟨n1, rfl⟩⟩⟩) | ((with_reducible refine gate_dst (N := 49) rfl ?_); refine wpList_load_any rfl 42 (.tmp 48) rfl ⟨wr.heap.size, 2, none⟩ rfl (frC x.fr) _ (rng_of (range_fr HX.out)) Try.underlying42 rfl (by rw [frC_len HW.out]; kernel_rfl) ?_) | (go_at_call 37; refine (HFr.out _).mono ?_; rintro e w1 ⟨rfl, b3⟩; have m0 := cell_at (range_blk (blk_below (show (W2.drewN n1).heap[wr.heap.size]? = _ from HKX.out) b3))))
                go_ret2
                exact ⟨by rw [HE.out]; rfl, ((HSt2.out.drewN _).next b3).below⟩
          · have HE := Lib.hid (show r = ((i : Int), e) by
              have h := HFF.out
              rw [if_pos] at h
              · rw [← h]; unfold stepS; rw [← he, if_pos hz]
              · unfold stepS; rw [← he, if_pos hz]; exact hz)
            have hen : (e != 0) = true := by simp [hz]
            clear he HFF
            go_wp2_with (first | (go_at_call 36; refine (HRs.out _).mono ?_; rintro e w1 ⟨rfl, ⟨⟨n1, rfl⟩⟩⟩))
            go_ret2
            exact ⟨by rw [HE.out]; rfl, (HSt2.out.drewN _).below⟩
        · have e1 : decide ((i : Int) < (l.length : Int)) = false := decide_eq_false (by omega)
          have HE := Lib.hid (show r = (0, 0) by
            have h := HF.out
            rw [checkF, if_neg hlt] at h
            exact h.symm)
          have HSt := Lib.hid St
          clear HF St
          go_wp2
          go_ret2
          exact ⟨by rw [HE.out]; rfl, HSt.out.below⟩
end Go.Proofs.Ytfbdnfokoakfaaa.Ct
