/- The reference's Head and Told: their walks. -/
import Derived.Test.YtfbdnfokoakfaaaOneC
import Derived.Great.BuildSlice
namespace Go.Proofs.Ytfbdnfokoakfaaa.Ct
open Go.RowKit Go.Proofs.YtfbdnfokoakfaaaW.PrintWords Go.Proofs.YtfbdnfokoakfaaaW.PrintLast Go.Proofs.YtfbdnfokoakfaaaW.PrintMore
set_option linter.unusedVariables false
set_option linter.unusedSimpArgs false

/-- A slice of one entry. -/
theorem fill_one44 (x : En) (hx : x.fr.wf) : Instr.fill (fun i => some (i * 28, 28)) ((Array.range (1 * 28)).map ((enV en0).cells[· % (enV en0).cells.size]!)) [(0, .agg (enC x).toArray)] = some (enC x).toArray := by
  obtain ⟨v, d, l, hh, s⟩ := x
  have h : s.length = 23 + 1 := hx.1
  clear hx
  obtain ⟨s0, t0, rfl, h0⟩ := len_succ h
  obtain ⟨s1, t1, rfl, h1⟩ := len_succ h0
  obtain ⟨s2, t2, rfl, h2⟩ := len_succ h1
  obtain ⟨s3, t3, rfl, h3⟩ := len_succ h2
  obtain ⟨s4, t4, rfl, h4⟩ := len_succ h3
  obtain ⟨s5, t5, rfl, h5⟩ := len_succ h4
  obtain ⟨s6, t6, rfl, h6⟩ := len_succ h5
  obtain ⟨s7, t7, rfl, h7⟩ := len_succ h6
  obtain ⟨s8, t8, rfl, h8⟩ := len_succ h7
  obtain ⟨s9, t9, rfl, h9⟩ := len_succ h8
  obtain ⟨s10, t10, rfl, h10⟩ := len_succ h9
  obtain ⟨s11, t11, rfl, h11⟩ := len_succ h10
  obtain ⟨s12, t12, rfl, h12⟩ := len_succ h11
  obtain ⟨s13, t13, rfl, h13⟩ := len_succ h12
  obtain ⟨s14, t14, rfl, h14⟩ := len_succ h13
  obtain ⟨s15, t15, rfl, h15⟩ := len_succ h14
  obtain ⟨s16, t16, rfl, h16⟩ := len_succ h15
  obtain ⟨s17, t17, rfl, h17⟩ := len_succ h16
  obtain ⟨s18, t18, rfl, h18⟩ := len_succ h17
  obtain ⟨s19, t19, rfl, h19⟩ := len_succ h18
  obtain ⟨s20, t20, rfl, h20⟩ := len_succ h19
  obtain ⟨s21, t21, rfl, h21⟩ := len_succ h20
  obtain ⟨s22, t22, rfl, h22⟩ := len_succ h21
  obtain ⟨s23, t23, rfl, h23⟩ := len_succ h22
  obtain rfl : t23 = [] := List.eq_nil_of_length_eq_zero h23
  show Instr.fill _ _ _ = _
  kernel_rfl
theorem bs44 (x : En) (hx : x.fr.wf) (W : World) : (Instr.buildSlice 22 1 #[(0, .agg (enC x).toArray)]).run Try.prog W = .ok (.slice (some ⟨W.heap.size, 0, none⟩) 1 1) (W.alloc (.cells (enC x).toArray 44)) := by
  obtain ⟨ie, hie, hz⟩ := Option.map_eq_some_iff.1 info44s
  simp only [Prod.mk.injEq] at hz
  refine run_buildSlice W 22 44 1 _ _ ie (enV en0) Try.underlying22 hie hz.1 (by rw [hz.2]; decide) (by rw [hz.2]; decide) ?_
  rw [hz.2]
  exact fill_one44 x hx
theorem wpList_bs44 {ops : Array Oper} {rest : List Oper} {op : Oper} {a : Act} {Q : Exit → Act → World → Prop} {W : World} (hgd : op.guard = none) (y : Operand) (ho : op.op = .buildSlice 22 1 #[(0, y)]) (x : En) (hx : x.fr.wf) (hy : a.eval y = .agg (enC x).toArray)
    (h : ∀ W1, W1.heap[W.heap.size]? = some (.cells (enC x).toArray 44 (0, 0)) → Below W.heap.size W W1 → W1.heap.size = W.heap.size + 1 → wpList Try.prog ops Q rest (a.put op.dst (.slice (some ⟨W.heap.size, 0, none⟩) 1 1)) W1) : wpList Try.prog ops Q (op :: rest) a W := by
  refine wpList_plain hgd fun _ hK => ?_
  have hrun := bs44 x hx W
  unfold Oper.wp execOp
  simp only [ho, List.map_toArray, List.map_cons, List.map_nil, hy, Sem.run_bind, Sem.run_pure, Result.andThen_ok, hrun]
  exact hK _ _ (h _ (blk_new W _) (below_alloc (Below.refl _ _) _) (World.size_alloc _ _))
theorem C_one44 {W : World} {g : Nat} {t : TypeId} {x : En} (h : W.heap[g]? = some (.cells (enC x).toArray t (0, 0))) (hx : x.fr.wf) : Kd.C kEn W (some ⟨g, 0, none⟩) 1 [x] := by
  refine ⟨rfl, by omega, fun _ => ⟨_, rfl, fun j p hj => ?_⟩⟩
  match j, hj with
  | 0, hj =>
    cases hj
    refine ⟨enC x, enC_len hx, ⟨rfl, hx⟩, fun i u hu => ?_⟩
    have h1 := blk_cell h i
    have e : (⟨g, 0, none⟩ : Addr).add (0 * kEn.sz + i) = ⟨g, i, none⟩ := by
      rw [Addr.add_mid]; simp
    rw [e, h1]
    simpa using hu
  | j + 1, hj => cases hj
theorem C_one_i64 {W : World} {g : Nat} {t : TypeId} {x : Int} (h : W.heap[g]? = some (.cells #[.int .i64 x] t (0, 0))) : Kd.C (Kd.int .i64) W (some ⟨g, 0, none⟩) 1 [x] := by
  refine ⟨rfl, by omega, fun _ => ⟨_, rfl, fun j p hj => ?_⟩⟩
  match j, hj with
  | 0, hj =>
    cases hj
    refine ⟨[.int .i64 x], rfl, rfl, fun i u hu => ?_⟩
    match i, hu with
    | 0, hu => cases hu; exact blk_cell h 0
    | i + 1, hu => cases hu
  | j + 1, hj => cases hj
/-- Two rows of the call's own, of elements of two types: the one stays when the other is written. -/
theorem R_apart {α β : Type} {d : Kd α} {d' : Kd β} {e e' : Nat} {W w1 : World} {base base' : Nat} {v v' : Value} {xs : List α} {ys : List β} (h : d.R e W base (fun _ => True) v xs) (h' : d'.R e' W base' (fun _ => True) v' ys) (hE : e ∉ e' :: d'.E) (hg : W.grownBy w1 v.ownBlock) : d'.R e' w1 base' (fun _ => True) v' ys := by
  refine Kd.R_mono (Kd.R_grown (Kd.R_bound h') hg (fun k hk hv => ?_)) (fun _ _ => trivial)
  obtain ⟨_, _, _, q, hq, cells, hc⟩ := hk
  obtain ⟨inner, ho⟩ := Kd.R_own h
  obtain ⟨cells', hc'⟩ := own_typed ho k hv.symm
  rw [hc] at hc'
  injection hc' with h1
  injection h1 with _ h2
  exact hE (h2 ▸ hq)
theorem R_lt {α : Type} {d : Kd α} {e : Nat} {W : World} {base : Nat} {v : Value} {xs : List α} (h : d.R e W base (fun _ => True) v xs) : ∀ k, v.ownBlock = some k → base ≤ k ∧ k < W.heap.size := fun k hk => by
  have := (Kd.R_bound h).1 k hk
  exact ⟨this.2.1, this.2.2.1⟩

def toldF (b : List Int) (L : Int) : Nat → Nat → Int → List En × List Int × (Int × Int)
  | 0, p, _ => ([], [], if p < b.length then ((p : Int), 3) else (0, 0))
  | m + 1, p, last => match oneS b L p last with
    | .inl x => ([], [], x)
    | .inr x => (x.1 :: (toldF b L m x.2 x.1.at_).1, (x.2 : Int) :: (toldF b L m x.2 x.1.at_).2.1, (toldF b L m x.2 x.1.at_).2.2)
def toldS (b : List Int) : List En × List Int × (Int × Int) :=
  match headS b with
  | .inl x => ([], [], (x.1, (x.2 : Int)))
  | .inr x => toldF b x.1 x.2 6 (-1)
def headT (b : List Int) : Int × Int × Int × Int :=
  match headS b with
  | .inl x => (0, 0, x.1, (x.2 : Int))
  | .inr x => (x.1, (x.2 : Int), 0, 0)
theorem rd_g (b : List Int) (i : Nat) : rd b (i : Int) = gB b i := by unfold rd gB; simp
theorem head_v (b : List Int) (hy : ∀ x, x ∈ b → 0 ≤ x ∧ x ≤ 255) (hl : b.length ≤ 140737488351232) : PCertReads.provisoref06_Head.f 4 b = some (headT b) := by
  have r0 := gB_range b hy 3
  have r1 := gB_range b hy 4
  have r2 := gB_range b hy 5
  have g0 : rd b 0 = gB b 0 := rd_g b 0
  have g1 : rd b 1 = gB b 1 := rd_g b 1
  have g2 : rd b 2 = gB b 2 := rd_g b 2
  have g3 : rd b 3 = gB b 3 := rd_g b 3
  have g4 : rd b 4 = gB b 4 := rd_g b 4
  have g5 : rd b 5 = gB b 5 := rd_g b 5
  have w1 : wrap64 (0 + 1) = 1 := by unfold wrap64; omega
  have w2 : wrap64 (1 + 1) = 2 := by unfold wrap64; omega
  have w3 : wrap64 (2 + 1) = 3 := by unfold wrap64; omega
  have k0 : rd ([112, 118, 1] : List Int) 0 = 112 := rfl
  have k1 : rd ([112, 118, 1] : List Int) 1 = 118 := rfl
  have k2 : rd ([112, 118, 1] : List Int) 2 = 1 := rfl
  have e3 : wrap64 (gB b 3) = gB b 3 := by unfold wrap64; omega
  have e5 : wrap64 (wrap64 (256 * wrap64 (gB b 4)) + wrap64 (gB b 5)) = gB b 4 * 256 + gB b 5 := by unfold wrap64; omega
  unfold PCertReads.provisoref06_Head.f
  unfold headT headS
  have n0 : ((0 : Int) < 3) = True := by simp
  have n1 : ((1 : Int) < 3) = True := by simp
  have n2 : ((2 : Int) < 3) = True := by simp
  rw [PCertReads.provisoref06_Head.l0, if_pos (by omega)]
  by_cases c0 : b.length = 0
  · rw [if_pos (by omega), if_pos c0]
    simp [c0]
  rw [if_neg (by omega), if_pos (by omega), if_pos (by omega), if_pos (by decide), if_neg c0, g0, k0, w1]
  by_cases d0 : gB b 0 = 112
  · rw [if_pos d0, if_neg (by simpa using d0), PCertReads.provisoref06_Head.l0, if_pos (by omega)]
    by_cases c1 : b.length = 1
    · rw [if_pos (by omega), if_pos c1]
      simp [c1]
    rw [if_neg (by omega), if_pos (by omega), if_pos (by omega), if_pos (by decide), if_neg c1, g1, k1, w2]
    by_cases d1 : gB b 1 = 118
    · rw [if_pos d1, if_neg (by simpa using d1), PCertReads.provisoref06_Head.l0, if_pos (by omega)]
      by_cases c2 : b.length = 2
      · rw [if_pos (by omega), if_pos c2]
        simp [c2]
      rw [if_neg (by omega), if_pos (by omega), if_pos (by omega), if_pos (by decide), if_neg c2, g2, k2, w3]
      by_cases d2 : gB b 2 = 1
      · rw [if_pos d2, if_neg (by simpa using d2), PCertReads.provisoref06_Head.l0, if_neg (by omega)]
        by_cases c3 : b.length < 6
        · rw [if_pos (by omega), if_pos c3]
        rw [if_neg (by omega), if_neg c3, if_pos (by omega), g3, g4, g5, e3, e5]
        by_cases c4 : 16 < gB b 3
        · rw [if_pos c4, if_pos c4]
        rw [if_neg c4, if_neg c4, if_pos (by omega), if_pos (by omega)]
        by_cases c5 : 4096 < gB b 4 * 256 + gB b 5
        · rw [if_pos c5, if_pos c5]
        rw [if_neg c5, if_neg c5]
        show some _ = some (gB b 3, (((gB b 4 * 256 + gB b 5).toNat : Nat) : Int), 0, 0)
        rw [Int.toNat_of_nonneg (by omega)]
      · rw [if_neg d2, if_pos (by simpa using d2)]
    · rw [if_neg d1, if_pos (by simpa using d1)]
  · rw [if_neg d0, if_pos (by simpa using d0)]
theorem head_c (A : Option Addr) (c : Nat) (b : List Int) (w : World) (h : ByR w A c b) : Calls Try.prog 27 #[.slice A b.length c] w fun e w' => e = .returned (.tuple #[.int .i64 (headT b).1, .int .i64 (headT b).2.1, .int .i64 (headT b).2.2.1, .int .i64 (headT b).2.2.2]) ∧ Below w.heap.size w w' := by
  exact PCertReads.provisoref06_Head.calls 4 A c b (headT b).1 (headT b).2.1 (headT b).2.2.1 (headT b).2.2.2 w h.r h.c (head_v b h.y h.l)

/-- What Told answers. -/
def TdPost (b : List Int) (w : World) (e : Ending) (w' : World) : Prop :=
  ∃ v10 v11, e = .returned (.tuple #[v10, v11, .int .i64 (toldS b).2.2.1, .int .i64 (toldS b).2.2.2]) ∧ Kd.R kEn 44 w' w.heap.size (fun _ => True) v10 (toldS b).1 ∧ Kd.R (Kd.int .i64) 3 w' w.heap.size (fun _ => True) v11 (toldS b).2.1 ∧ Below w.heap.size w w'
structure TdSt (w W : World) (v10 v11 : Value) (l : List En) (ends : List Int) : Prop where
  r10 : Kd.R kEn 44 W w.heap.size (fun _ => True) v10 l
  r11 : Kd.R (Kd.int .i64) 3 W w.heap.size (fun _ => True) v11 ends
  below : Below w.heap.size w W
theorem TdSt.next {w W W1 : World} {v10 v11 : Value} {l : List En} {ends : List Int} (h : TdSt w W v10 v11 l ends) (hb : Below W.heap.size W W1) : TdSt w W1 v10 v11 l ends := ⟨Kd.R_below h.r10 hb, Kd.R_below h.r11 hb, below_then h.below h.below.size hb⟩
theorem results_tmp4 {fn : Func} {t u v x : Tmp} (h : fn.results = #[.tmp t, .tmp u, .tmp v, .tmp x]) (tmps : Array Value) (P : Program) (w : World) :
    (results fn tmps).run P w = .ok (.tuple #[tmps.getD t undef, tmps.getD u undef, tmps.getD v undef, tmps.getD x undef]) w := by
  simp [results, h]
theorem td_post {b : List Int} {w : World} {e : Ending} {w' : World} {v10 v11 : Value} {x : List En × List Int × (Int × Int)} (h : toldS b = x) (he : e = .returned (.tuple #[v10, v11, .int .i64 x.2.2.1, .int .i64 x.2.2.2])) (St : TdSt w w' v10 v11 x.1 x.2.1) : TdPost b w e w' := by
  subst h
  exact ⟨v10, v11, he, St.r10, St.r11, St.below⟩
/-- A block above the rows was written. -/
theorem only_grown {k : Nat} {W W1 : World} (h : Only k W W1) : W.grownBy W1 (some k) := ⟨h.os, h.tape, h.output, Nat.le_of_eq h.size.symm, fun i hi hne => h.block i (fun e => hne (by rw [e]))⟩
theorem R_above {α : Type} {d : Kd α} {e : Nat} {W0 W W1 : World} {base : Nat} {v : Value} {xs : List α} {k : Nat} (h0 : d.R e W0 base (fun _ => True) v xs) (hb : Below W0.heap.size W0 W) (ho : Only k W W1) (hk : W0.heap.size ≤ k) : d.R e W1 base (fun _ => True) v xs :=
  Kd.R_mono (Kd.R_grown (Kd.R_below (Kd.R_bound h0) hb) (only_grown ho) (fun j hj e => by
    have := hj.2.2.1
    injection e with e
    omega)) (fun _ _ => trivial)
theorem headS_ok (b : List Int) (hy : ∀ x, x ∈ b → 0 ≤ x ∧ x ≤ 255) (x : Int × Nat) (h : headS b = .inr x) : 6 ≤ b.length ∧ (0 ≤ x.1 ∧ x.1 ≤ 16) ∧ x.1 = gB b 3 ∧ x.2 ≤ 4096 := by
  have r3 := gB_range b hy 3
  have r4 := gB_range b hy 4
  have r5 := gB_range b hy 5
  unfold headS at h
  by_cases c0 : b.length = 0
  · rw [if_pos c0] at h; cases h
  rw [if_neg c0] at h
  by_cases d0 : gB b 0 ≠ 112
  · rw [if_pos d0] at h; cases h
  rw [if_neg d0] at h
  by_cases c1 : b.length = 1
  · rw [if_pos c1] at h; cases h
  rw [if_neg c1] at h
  by_cases d1 : gB b 1 ≠ 118
  · rw [if_pos d1] at h; cases h
  rw [if_neg d1] at h
  by_cases c2 : b.length = 2
  · rw [if_pos c2] at h; cases h
  rw [if_neg c2] at h
  by_cases d2 : gB b 2 ≠ 1
  · rw [if_pos d2] at h; cases h
  rw [if_neg d2] at h
  by_cases c6 : b.length < 6
  · rw [if_pos c6] at h; cases h
  rw [if_neg c6] at h
  by_cases c3 : 16 < gB b 3
  · rw [if_pos c3] at h; cases h
  rw [if_neg c3] at h
  by_cases c4 : 4096 < gB b 4 * 256 + gB b 5
  · rw [if_pos c4] at h; cases h
  rw [if_neg c4] at h
  cases h
  exact ⟨by omega, ⟨by show 0 ≤ gB b 3; omega, by show gB b 3 ≤ 16; omega⟩, rfl, by show (gB b 4 * 256 + gB b 5).toNat ≤ 4096; omega⟩
theorem headS_err (b : List Int) (x : Int × Int) (h : headS b = .inl x) : x.2 ≠ 0 := by
  unfold headS at h
  repeat' (split at h; · cases h; simp)
  cases h
set_option maxHeartbeats 4000000 in
set_option maxRecDepth 100000 in
theorem told_c (A : Option Addr) (c : Nat) (b : List Int) (w : World) (h : ByR w A c b) : Calls Try.prog 28 #[.slice A b.length c] w (TdPost b w) := by
  have HB := Lib.hid h
  have hl48 := h.l
  have HH := Lib.hid (head_c A c b w h)
  clear h
  cases hh : headS b with
  | inl x =>
    have HX := Lib.hid hh
    have ht : headT b = (0, 0, x.1, (x.2 : Int)) := by unfold headT; rw [hh]
    rw [ht] at HH
    have hx : (x.2 : Int) ≠ 0 := headS_err b x hh
    have hT : toldS b = ([], [], (x.1, (x.2 : Int))) := by unfold toldS; rw [hh]
    have HT := Lib.hid hT
    have d0 : ((x.2 : Int) != 0) = true := by simpa using hx
    obtain ⟨y, hy⟩ : ∃ y : Int, y = (x.2 : Int) := ⟨_, rfl⟩
    rw [← hy] at d0 HH
    have HY := Lib.hid hy
    clear hh ht hx hy hT
    go_enter Try.func28, Try.ntmps28
    go_wp2_with (first | (go_at_call 27; refine HH.out.mono ?_; rintro e w5 ⟨rfl, hb5⟩))
    refine bodyPost_ret (results_tmp4 rfl _ _ _) rfl ?_
    refine td_post HT.out ?_ ⟨Kd.R_nil _ _ _ _ _, Kd.R_nil _ _ _ _ _, hb5⟩
    rw [← HY.out]
    rfl
  | inr x =>
    have HX := Lib.hid hh
    have ht : headT b = (x.1, (x.2 : Int), 0, 0) := by unfold headT; rw [hh]
    rw [ht] at HH
    have hg := headS_ok b HB.out.y x hh
    have HT := Lib.hid (show toldS b = toldF b x.1 x.2 6 (-1) by unfold toldS; rw [hh])
    obtain ⟨L, n⟩ := x
    have hL : 0 ≤ L ∧ L ≤ 16 := hg.2.1
    have hn : n ≤ 4096 := hg.2.2.2
    have h6 : 6 ≤ b.length := hg.1
    clear hh ht hg
    go_enter Try.func28, Try.ntmps28
    go_upto_region 8 with (first | (go_at_call 27; refine HH.out.mono ?_; rintro e w5 ⟨rfl, hb5⟩))
    have HB5 := Lib.hid hb5
    clear hb5
    go_wp2
    go_loopg [8, 10, 11, 12, 13] (n + 1) (fun k v8 v10 v11 v12 v13 W => ∃ (i p : Nat) (last : Int) (l : List En) (ends : List Int), v8 = .int .i64 (p : Int) ∧ v12 = .int .i64 last ∧ v13 = .int .i64 (i : Int) ∧ i + k = n + 1 ∧ i ≤ n ∧ p ≤ b.length ∧ l.length = i ∧ ends.length = i ∧ Hid (TdSt w W v10 v11 l ends) ∧ Hid (toldS b = (l ++ (toldF b L (n - i) p last).1, ends ++ (toldF b L (n - i) p last).2.1, (toldF b L (n - i) p last).2.2)))
    case atStart => exact ⟨0, 6, -1, [], [], rfl, rfl, rfl, by omega, Nat.zero_le _, h6, rfl, rfl, Lib.hid ⟨Kd.R_nil _ _ _ _ _, Kd.R_nil _ _ _ _ _, HB5.out⟩, Lib.hid (by rw [HT.out]; simp)⟩
    case round =>
      obtain ⟨i, p, last, l, ends, rfl, rfl, rfl, hi, hil, hpl, hll, hel, St, HF⟩ := hrel
      by_cases hlt : i < n
      · have g1 : decide ((i : Int) < (n : Int)) = true := decide_eq_true (by exact_mod_cast hlt)
        have HO := Lib.hid (one_c A c b L p last wr (HB.out.next St.out.below) hL hpl)
        have hF := HF.out
        rw [show n - i = (n - i - 1) + 1 by omega, toldF] at hF
        cases ho : oneS b L p last with
        | inl x =>
          rw [ho] at hF
          have hF' : toldS b = (l, ends, x) := by simpa using hF
          have HF' := Lib.hid hF'
          have d2 : (x.2 != 0) = true := by simpa using oneS_err b _ _ _ x ho
          have HE : Hid (∀ e w', OnPost b L p last wr e w' → e = .returned (.tuple #[.agg (enC en0).toArray, .int .i64 x.1, .int .i64 x.2]) ∧ Below wr.heap.size wr w') := Lib.hid (fun e w' he => by
            unfold OnPost at he
            rw [ho] at he
            exact he)
          clear ho hF hF' HF
          go_wp2_with (first | (go_at_call 43; refine HO.out.mono ?_; intro e w5 he; obtain ⟨rfl, hb5⟩ := HE.out e w5 he; clear he) | ((with_reducible refine gate_dst (N := 14) rfl ?_); refine wpList_alloc_box rfl rfl ?_; intro W6 hW6 hbe6 hs6) | ((with_reducible refine gate_store (t := 44) (p := 14) rfl ?_); refine wpList_store_box rfl (.tmp 14) (.tmp 39) rfl w5.heap.size hW6 fr0_wf en0 fr0_wf rfl rfl ?_; intro W7 hW7 ho7))
          refine bodyPost_ret (results_tmp4 rfl _ _ _) rfl ?_
          have hs5 := hb5.size
          have hsw := St.out.below.size
          have hb6 : Below wr.heap.size wr W6 := below_then hb5 hb5.size hbe6
          exact td_post HF'.out rfl ⟨R_above St.out.r10 hb6 ho7 hs5, R_above St.out.r11 hb6 ho7 hs5, below_only (below_then St.out.below hsw hb6) ho7 (by omega)⟩
        | inr x =>
          obtain ⟨x, q⟩ := x
          rw [ho] at hF
          have hnx := oneS_next b L p last x q hL.1 HB.out.y ho
          have hwf := hnx.2.2
          have hq := hnx.2.1
          have HF' : Hid (toldS b = ((l ++ [x]) ++ (toldF b L (n - (i + 1)) q x.at_).1, (ends ++ [(q : Int)]) ++ (toldF b L (n - (i + 1)) q x.at_).2.1, (toldF b L (n - (i + 1)) q x.at_).2.2)) := Lib.hid (by
            rw [show n - i - 1 = n - (i + 1) by omega] at hF
            rw [hF]
            simp)
          have HE : Hid (∀ e w', OnPost b L p last wr e w' → e = .returned (.tuple #[.agg (enC x).toArray, .int .i64 (q : Int), .int .i64 0]) ∧ Below wr.heap.size wr w') := Lib.hid (fun e w' he => by
            unfold OnPost at he
            rw [ho] at he
            exact he)
          have HW := Lib.hid hwf
          clear ho hF HF hnx hwf
          obtain ⟨k, rfl⟩ : ∃ k, gk = k + 1 := ⟨gk - 1, by omega⟩
          go_upto_region 14 with (first | (go_at_call 43; refine HO.out.mono ?_; intro e w5 he; obtain ⟨rfl, hb5⟩ := HE.out e w5 he; clear he) | ((with_reducible refine gate_dst (N := 14) rfl ?_); refine wpList_alloc_box rfl rfl ?_; intro W6 hW6 hbe6 hs6) | ((with_reducible refine gate_store (t := 44) (p := 14) rfl ?_); refine wpList_store_box rfl (.tmp 14) (.tmp 39) rfl w5.heap.size hW6 fr0_wf x HW.out rfl rfl ?_; intro W7 hW7 ho7))
          have hs5 := hb5.size
          have hsw := St.out.below.size
          have hb6 : Below wr.heap.size wr W6 := below_then hb5 hb5.size hbe6
          have St7 : Hid (TdSt w W7 _ _ l ends) := Lib.hid ⟨R_above St.out.r10 hb6 ho7 hs5, R_above St.out.r11 hb6 ho7 hs5, below_only (below_then St.out.below hsw hb6) ho7 (by omega)⟩
          obtain ⟨k14, hk14⟩ : ∃ k14, k14 = w5.heap.size := ⟨_, rfl⟩
          rw [← hk14] at hW7 ⊢
          have HB14 := Lib.hid hW7
          have hn10 : Hid (some k14 ≠ u10.ownBlock) := Lib.hid (fun e => by have := (R_lt St.out.r10 k14 e.symm).2; omega)
          have hn11 : Hid (some k14 ≠ u11.ownBlock) := Lib.hid (fun e => by have := (R_lt St.out.r11 k14 e.symm).2; omega)
          have HL : Hid (l.length = i ∧ ends.length = i ∧ i < n ∧ n ≤ 4096) := Lib.hid ⟨hll, hel, hlt, hn⟩
          clear hW7 hk14 hs5 hsw hb6 hb5 hW6 hbe6 hs6 ho7 HO HE St
          go_upto_region 15 with (first | ((with_reducible refine gate_dst (N := 49) rfl ?_); refine wpList_load_any rfl 44 (.tmp 14) rfl ⟨k14, 0, none⟩ rfl (enC x) _ (rng_of (range_blk HB14.out)) Try.underlying44 rfl (by rw [enC_len HW.out]; kernel_rfl) ?_) | ((with_reducible refine gate_dst (N := 50) rfl ?_); refine wpList_bs44 rfl (.tmp 49) rfl x HW.out rfl ?_; intro W8 hW8 hb8 hs8) | ((with_reducible refine gate_dst (N := 51) rfl ?_); at_builtin; refine Kd.R_append_rows kEn (w0 := w) w.heap.size rfl (.tmp 48) (.tmp 50) 22 44 (enV en0) 56 rfl Try.underlying22 info44 rfl (by decide) (by omega) u10 l [x] (some ⟨W7.heap.size, 0, none⟩) 1 1 (fun _ => True) (fun _ => False) rfl rfl (Kd.R_below St7.out.r10 hb8) (C_one44 hW8 HW.out) (fun _ _ h => h) (fun _ h => h.elim) (fun _ _ => trivial) (below_then St7.out.below St7.out.below.size hb8) (Nat.le_trans St7.out.below.size hb8.size) (by have := HL.out; omega) ?_; intro v1 w1 ho hb hg _))
          have H10 := Lib.hid ho
          have H11 := Lib.hid (R_apart (Kd.R_below St7.out.r10 hb8) (Kd.R_below St7.out.r11 hb8) (by show ¬ (44 : Nat) ∈ ([3] : List Nat); decide) hg)
          have HBw := Lib.hid hb
          have HB14b := Lib.hid (blk_grown (blk_below HB14.out hb8) hg hn10.out)
          clear ho hb hg hW8 hb8 hs8 HB14 St7
          go_wp2_with (first | ((with_reducible refine gate_dst (N := 55) rfl ?_); at_builtin; refine Kd.R_append_rows (Kd.int .i64) (w0 := w) w.heap.size rfl (.tmp 52) (.tmp 54) 58 3 (.int .i64 0) 8 rfl Try.underlying58 (by kernel_rfl) rfl (by decide) (by omega) u11 ends [(q : Int)] (some ⟨w1.heap.size, 0, none⟩) 1 1 (fun _ => True) (fun _ => False) rfl rfl (Kd.R_alloc H11.out _) (C_one_i64 (blk_new w1 _)) (fun _ _ h => h) (fun _ h => h.elim) (fun _ _ => trivial) (below_alloc HBw.out _) (by have := HBw.out.size; rw [World.size_alloc]; omega) (by have := HL.out; omega) ?_; intro v2 w2 ho2 hb2 hg2 _; have hc14 : w2.cell? ⟨k14, 0, none⟩ = some (.int .i64 x.at_) := blk_cell (blk_grown (blk_alloc HB14b.out _) hg2 hn11.out) 0; have H11b := Lib.hid ho2; have HB2 := Lib.hid hb2; have H10b := Lib.hid (R_apart (Kd.R_alloc H11.out (.cells #[.int .i64 (q : Int)] 3)) (Kd.R_alloc H10.out (.cells #[.int .i64 (q : Int)] 3)) (by show ¬ (3 : Nat) ∈ ([44] : List Nat); decide) hg2); clear ho2 hb2 hg2))
          go_roundg k
          case measure => omega
          case rel => exact ⟨i + 1, q, x.at_, l ++ [x], ends ++ [(q : Int)], rfl, rfl, by simp, by omega, by omega, hq, by simp [hll], by simp [hel], Lib.hid ⟨H10b.out, H11b.out, HB2.out⟩, HF'⟩
      · have g1 : decide ((i : Int) < (n : Int)) = false := decide_eq_false (by omega)
        have hin : n - i = 0 := by omega
        have hF := HF.out
        rw [hin, toldF] at hF
        by_cases c3 : p < b.length
        · have d3 : decide ((p : Int) < (b.length : Int)) = true := decide_eq_true (by omega)
          have d3n : decide (p < b.length) = true := decide_eq_true c3
          rw [if_pos c3] at hF
          have hF' : toldS b = (l, ends, ((p : Int), 3)) := by simpa using hF
          have HF' := Lib.hid hF'
          clear hF hF' HF hin c3
          go_wp2
          refine bodyPost_ret (results_tmp4 rfl _ _ _) rfl ?_
          exact td_post HF'.out rfl St.out
        · have d3 : decide ((p : Int) < (b.length : Int)) = false := decide_eq_false (by omega)
          have d3n : decide (p < b.length) = false := decide_eq_false c3
          rw [if_neg c3] at hF
          have hF' : toldS b = (l, ends, ((0 : Int), 0)) := by simpa using hF
          have HF' := Lib.hid hF'
          clear hF hF' HF hin c3
          go_wp2
          refine bodyPost_ret (results_tmp4 rfl _ _ _) rfl ?_
          exact td_post HF'.out rfl St.out
end Go.Proofs.Ytfbdnfokoakfaaa.Ct
