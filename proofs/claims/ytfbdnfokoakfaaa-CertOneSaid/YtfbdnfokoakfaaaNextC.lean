/- The reader's Next: what its walk uses. The reader's Next: its walk. -/
import Derived.Test.YtfbdnfokoakfaaaEntryC
namespace Go.Proofs.Ytfbdnfokoakfaaa.Ct
open Go.RowKit Go.Proofs.YtfbdnfokoakfaaaW.PrintWords Go.Proofs.YtfbdnfokoakfaaaW.PrintLast Go.Proofs.YtfbdnfokoakfaaaW.PrintMore
set_option linter.unusedVariables false
set_option linter.unusedSimpArgs false

/-- One block was written. -/
structure Only (k : Nat) (W W1 : World) : Prop where
  os : W1.os = W.os
  tape : W1.tape = W.tape
  output : W1.output = W.output
  size : W1.heap.size = W.heap.size
  block : ∀ j, j ≠ k → W1.heap[j]? = W.heap[j]?
theorem Only.cell {k : Nat} {W W1 : World} (h : Only k W W1) {a : Addr} (ha : a.block ≠ k) {v : Value} (hc : W.cell? a = some v) : W1.cell? a = some v := by
  unfold World.cell? at hc ⊢
  rw [h.block _ ha]
  exact hc
theorem Only.rng {k : Nat} {W W1 : World} (h : Only k W W1) {b o : Nat} (ha : b ≠ k) {cs : List Value} (hc : Rng W ⟨b, o, none⟩ cs) : Rng W1 ⟨b, o, none⟩ cs := fun j v hj =>
  h.cell (by rw [Addr.add_mid]; exact ha) (hc j v hj)
/-- A world in which the reader's block was written, and else only new blocks. -/
structure Nx (w : World) (g : Nat) (W : World) (cs : Array Value) : Prop where
  a : W.heap[g]? = some (.cells cs 37 (0, 0))
  but : w.grownBy W (some g)
theorem Nx.drewN {w W : World} {g : Nat} {cs : Array Value} (h : Nx w g W cs) (n : Nat) : Nx w g (W.drewN n) cs := ⟨h.a, h.but.os, h.but.tape, h.but.output, h.but.size, h.but.block⟩
theorem Nx.below {w W W1 : World} {g : Nat} {cs : Array Value} (h : Nx w g W cs) (hb : Below W.heap.size W W1) : Nx w g W1 cs := ⟨blk_below h.a hb, h.but.trans (grown_of_below hb _)⟩
theorem Nx.put {w W : World} {g : Nat} {cs : Array Value} (h : Nx w g W cs) (o : Nat) (v : Value) : Nx w g (W.setCell ⟨g, o, none⟩ v) (cs.setIfInBounds o v) :=
  ⟨blk_set h.a o v, h.but.os, h.but.tape, h.but.output, by simpa [World.setCell] using h.but.size, fun k hk hne => (Below.heap_setCell _ _ _ _ (by intro e; exact hne (by rw [e]))).trans (h.but.block k hk hne)⟩
theorem Nx.only {w W W1 : World} {g k : Nat} {cs : Array Value} (h : Nx w g W cs) (ho : Only k W W1) (hk : w.heap.size ≤ k) (hg : g < w.heap.size) : Nx w g W1 cs :=
  ⟨(ho.block g (by omega)).trans h.a, ho.os.trans h.but.os, ho.tape.trans h.but.tape, ho.output.trans h.but.output, by rw [ho.size]; exact h.but.size, fun i hi hne => (ho.block i (by omega)).trans (h.but.block i hi hne)⟩
theorem set_only (W : World) (g o : Nat) (v : Value) : Only g W (W.setCell ⟨g, o, none⟩ v) := ⟨rfl, rfl, rfl, by simp [World.setCell], fun j hj => Below.heap_setCell W ⟨g, o, none⟩ v j hj⟩

theorem run_store_box {W : World} (k : Nat) {y : En} (h0 : W.heap[k]? = some (.cells (enC y).toArray 44 (0, 0))) (hy : y.fr.wf) (x : En) (hx : x.fr.wf) :
    ∃ W1, (Instr.storeAt 44 (.pointer (some ⟨k, 0, none⟩)) (.agg (enC x).toArray)).run Try.prog W = .ok () W1 ∧ W1.heap[k]? = some (.cells (enC x).toArray 44 (0, 0)) ∧ Only k W W1 := by
  have hrun := run_storeVar_row (P := Try.prog) W k 44 44 (enC y).toArray (enC x).toArray h0 (by simp only [List.size_toArray, enC_len hx]; kernel_rfl) (by simp [enC_len hx, enC_len hy]) (all_oneCell_toArray (enC_one x))
  refine ⟨_, by simp only [Instr.storeAt, Instr.sureAddr, Sem.run_bind, Sem.run_pure, Result.andThen_ok]; exact hrun, setRow_heap _ _ _ _ _ _ h0, rfl, rfl, rfl, ?_, fun j hj => ?_⟩
  · show (W.heap.modify _ _).size = _
    rw [Array.size_modify]
  · show (W.heap.modify _ _)[j]? = _
    rw [Array.getElem?_modify, if_neg (fun e => hj e.symm)]
theorem wpList_store_box {ops : Array Oper} {rest : List Oper} {op : Oper} {a : Act} {Q : Exit → Act → World → Prop} (hgd : op.guard = none) (p q : Operand) (ho : op.op = .store 44 p q)
    {W : World} (k : Nat) {y : En} (h0 : W.heap[k]? = some (.cells (enC y).toArray 44 (0, 0))) (hy : y.fr.wf) (x : En) (hx : x.fr.wf) (hp : a.eval p = .pointer (some ⟨k, 0, none⟩)) (hq : a.eval q = .agg (enC x).toArray)
    (h : ∀ W1, W1.heap[k]? = some (.cells (enC x).toArray 44 (0, 0)) → Only k W W1 → wpList Try.prog ops Q rest (a.put op.dst undef) W1) : wpList Try.prog ops Q (op :: rest) a W := by
  refine wpList_plain hgd fun _ hK => ?_
  obtain ⟨W1, hrun, h1, h2⟩ := run_store_box k h0 hy x hx
  unfold Oper.wp execOp
  simp only [ho, hp, hq, Sem.run_bind, hrun, Result.andThen_ok, Sem.run_pure]
  exact hK _ _ (h W1 h1 h2)
theorem exec_store_box {o : Oper} {a : Act} {p q : Operand} (hop : o.op = .store 44 p q) {W : World} (k : Nat) {y : En} (h0 : W.heap[k]? = some (.cells (enC y).toArray 44 (0, 0))) (hy : y.fr.wf) (x : En) (hx : x.fr.wf) (hp : a.eval p = .pointer (some ⟨k, 0, none⟩)) (hq : a.eval q = .agg (enC x).toArray) :
    ∃ W1, (execOp a.eval o).run Try.prog W = .ok .skip W1 ∧ W1.heap[k]? = some (.cells (enC x).toArray 44 (0, 0)) ∧ Only k W W1 := by
  obtain ⟨W1, hrun, h1, h2⟩ := run_store_box k h0 hy x hx
  refine ⟨W1, ?_, h1, h2⟩
  unfold execOp
  simp only [hop, hp, hq, Sem.run_bind, hrun, Result.andThen_ok, Sem.run_pure]
theorem skip_box {ops : Array Oper} {o : Oper} {a : Act} {Q : Exit → Act → World → Prop} {Kc : Act → World → Prop} {W : World} {p q : Operand} (hw : Region.wanted o (yielded ops a.tmps) = true) (hop : o.op = .store 44 p q) (k : Nat) {y : En} (h0 : W.heap[k]? = some (.cells (enC y).toArray 44 (0, 0))) (hy : y.fr.wf) (x : En) (hx : x.fr.wf) (hp : a.eval p = .pointer (some ⟨k, 0, none⟩)) (hq : a.eval q = .agg (enC x).toArray)
    (h : ∀ W1, W1.heap[k]? = some (.cells (enC x).toArray 44 (0, 0)) → Only k W W1 → Kc (a.put o.dst undef) W1) :
    if Region.wanted o (yielded ops a.tmps) = true then Oper.wp Try.prog o a W Kc Q else Kc (a.put o.dst undef) W := by
  obtain ⟨W1, hrun, h1, h2⟩ := exec_store_box hop k h0 hy x hx hp hq
  exact skip_step hw hrun (h W1 h1 h2)
theorem wpList_alloc_box {ops : Array Oper} {rest : List Oper} {op : Oper} {a : Act} {Q : Exit → Act → World → Prop} (hgd : op.guard = none) (ho : op.op = .alloc 44)
    {W : World} (h : ∀ W1, W1.heap[W.heap.size]? = some (.cells (enC en0).toArray 44 (0, 0)) → Below W.heap.size W W1 → W1.heap.size = W.heap.size + 1 → wpList Try.prog ops Q rest (a.put op.dst (.pointer (some ⟨W.heap.size, 0, none⟩))) W1) : wpList Try.prog ops Q (op :: rest) a W := by
  refine wpList_plain hgd fun _ hK => ?_
  unfold Oper.wp
  rw [exec_alloc44 ho W]
  exact hK _ _ (h _ (blk_new W _) (below_alloc (Below.refl _ _) _) (World.size_alloc _ _))
theorem run_put_rd {W : World} {g : Nat} {cs : Array Value} (h : W.heap[g]? = some (.cells cs 37 (0, 0))) (o : Nat) (ho : o < cs.size) (t : TypeId) (v : Value) (hc : v.cells.toList = [v]) (ht : (Try.prog.info? t).map (·.size) = some 1) (h1 : v.oneCell' = true) :
    (Instr.storeAt t (.pointer (some ⟨g, o, none⟩)) v).run Try.prog W = .ok () (W.setCell ⟨g, o, none⟩ v) :=
  run_store_run t v [v] h hc ht (by simp; omega) (fun q hq => by rw [List.mem_singleton.1 hq]; exact h1)
theorem wpList_store_rd {ops : Array Oper} {rest : List Oper} {op : Oper} {a : Act} {Q : Exit → Act → World → Prop} (hgd : op.guard = none) (t : TypeId) (p q : Operand) (hop : op.op = .store t p q)
    {w W : World} {g : Nat} {cs : Array Value} (St : Nx w g W cs) (o : Nat) (ho : o < cs.size) (v : Value) (hp : a.eval p = .pointer (some ⟨g, o, none⟩)) (hq : a.eval q = v)
    (hc : v.cells.toList = [v]) (ht : (Try.prog.info? t).map (·.size) = some 1) (h1 : v.oneCell' = true)
    (h : ∀ W1, Nx w g W1 (cs.setIfInBounds o v) → Only g W W1 → wpList Try.prog ops Q rest (a.put op.dst undef) W1) : wpList Try.prog ops Q (op :: rest) a W := by
  refine wpList_plain hgd fun _ hK => ?_
  have hrun := run_put_rd St.a o ho t v hc ht h1
  unfold Oper.wp execOp
  simp only [hop, hp, hq, Sem.run_bind, Sem.run_pure, Result.andThen_ok, hrun]
  exact hK _ _ (h _ (St.put o v) (set_only W g o v))
theorem exec_put_rd {o : Oper} {a : Act} {t : TypeId} {p q : Operand} (hop : o.op = .store t p q) {W : World} {g : Nat} {cs : Array Value} (h : W.heap[g]? = some (.cells cs 37 (0, 0))) (j : Nat) (hj : j < cs.size) (v : Value) (hp : a.eval p = .pointer (some ⟨g, j, none⟩)) (hq : a.eval q = v)
    (hc : v.cells.toList = [v]) (ht : (Try.prog.info? t).map (·.size) = some 1) (h1 : v.oneCell' = true) : (execOp a.eval o).run Try.prog W = .ok .skip (W.setCell ⟨g, j, none⟩ v) := by
  have hrun := run_put_rd h j hj t v hc ht h1
  unfold execOp
  simp only [hop, hp, hq, Sem.run_bind, hrun, Result.andThen_ok, Sem.run_pure]
theorem ret_box3 {fn : Func} {p q s : Tmp} (h : fn.results = #[.cell p 44, .tmp q, .tmp s]) (tmps : Array Value) {W : World} (k : Nat) {x : En} (hb : W.heap[k]? = some (.cells (enC x).toArray 44 (0, 0))) (hw : x.fr.wf)
    (hp : tmps.getD p undef = .pointer (some ⟨k, 0, none⟩)) : (results fn tmps).run Try.prog W = .ok (.tuple #[.agg (enC x).toArray, tmps.getD q undef, tmps.getD s undef]) W := by
  have hp' : tmps[p]?.getD undef = .pointer (some ⟨k, 0, none⟩) := by simpa using hp
  have hl := run_loadVar_row (P := Try.prog) W k 44 44 (enC x).toArray (0, 0) _ hb Try.underlying44 rfl (by simp only [List.size_toArray, enC_len hw]; kernel_rfl)
  simp [results, h, hp', asAddr, hl, Sem.run_bind]

theorem oneS_err (b : List Int) (L : Int) (p : Nat) (last : Int) (x : Int × Int) (h : oneS b L p last = .inl x) : x.2 ≠ 0 := by
  have hsl : ∀ m q y, slotsS b m q = some y → y.2 ≠ 0 := by
    intro m
    induction m with
    | zero => intro q y e; cases e
    | succ m ih =>
      intro q y e
      rw [slotsS] at e
      by_cases c : q = b.length
      · rw [if_pos c] at e; cases e; simp
      · rw [if_neg c] at e
        by_cases d : knownB (gB b q) = true
        · rw [if_pos d] at e; exact ih _ _ e
        · rw [if_neg d] at e; cases e; simp
  unfold oneS at h
  by_cases c1 : b.length < p + 2
  · rw [if_pos c1] at h; cases h; simp
  rw [if_neg c1] at h
  by_cases c2 : risesS last (gB b p * 256 + gB b (p + 1)) ≠ 0
  · rw [if_pos c2] at h; cases h; exact c2
  rw [if_neg c2] at h
  by_cases c3 : p + 2 = b.length
  · rw [if_pos c3] at h; cases h; simp
  rw [if_neg c3] at h
  by_cases c4 : 1 < gB b (p + 2)
  · rw [if_pos c4] at h; cases h; simp
  rw [if_neg c4] at h
  by_cases c5 : gB b (p + 2) = 0
  · rw [if_pos c5] at h; cases h
  rw [if_neg c5] at h
  by_cases c6 : p + 3 = b.length
  · rw [if_pos c6] at h; cases h; simp
  rw [if_neg c6] at h
  by_cases c7 : 24 < L + gB b (p + 3)
  · rw [if_pos c7] at h; cases h; simp
  rw [if_neg c7] at h
  cases hs : slotsS b (L + gB b (p + 3)).toNat (p + 4) with
  | some y => rw [hs] at h; cases h; exact hsl _ _ _ hs
  | none => rw [hs] at h; cases h

theorem nextS_a {b : List Int} {L : Int} {r : RdS} (h0 : r.e = 0) (h1 : r.left = 0) (h2 : r.at_ < b.length) : nextS b L r = ((en0, false, 3), { r with fault := r.at_, e := 3 }) := by
  unfold nextS
  rw [if_neg (by simpa using h0), if_pos h1, if_pos h2]
theorem nextS_b {b : List Int} {L : Int} {r : RdS} (h0 : r.e = 0) (h1 : r.left = 0) (h2 : ¬ r.at_ < b.length) : nextS b L r = ((en0, false, 0), r) := by
  unfold nextS
  rw [if_neg (by simpa using h0), if_pos h1, if_neg h2]
theorem nextS_inl {b : List Int} {L : Int} {r : RdS} (h0 : r.e = 0) (h1 : ¬ r.left = 0) {x : Int × Int} (h : oneS b L r.at_ r.last = .inl x) : nextS b L r = ((en0, false, x.2), { r with fault := x.1, e := x.2 }) := by
  unfold nextS
  rw [if_neg (by simpa using h0), if_neg h1, h]
theorem nextS_inr {b : List Int} {L : Int} {r : RdS} (h0 : r.e = 0) (h1 : ¬ r.left = 0) {x : En × Nat} (h : oneS b L r.at_ r.last = .inr x) : nextS b L r = ((x.1, true, 0), { r with at_ := x.2, last := x.1.at_, left := r.left - 1 }) := by
  unfold nextS
  rw [if_neg (by simpa using h0), if_neg h1, h]

/-- What Next answers. -/
def NxPost (w : World) (g : Nat) (A : Option Addr) (c : Nat) (b : List Int) (n : Nat) (r : RdS) (e : Ending) (w' : World) : Prop :=
  e = .returned (.tuple #[enV (nextS b (gB b 3) r).1.1, .bool (nextS b (gB b 3) r).1.2.1, .int .i64 (nextS b (gB b 3) r).1.2.2]) ∧ Nx w g w' (rdC A c b n (nextS b (gB b 3) r).2)
theorem nx_post {w : World} {g : Nat} {A : Option Addr} {c : Nat} {b : List Int} {n : Nat} {r : RdS} {e : Ending} {w' : World} {x : En} {k : Bool} {y : Int} {r' : RdS} (h : nextS b (gB b 3) r = ((x, k, y), r')) (he : e = .returned (.tuple #[.agg (enC x).toArray, .bool k, .int .i64 y])) (hn : Nx w g w' (rdC A c b n r')) : NxPost w g A c b n r e w' := by
  unfold NxPost
  rw [h]
  exact ⟨he, hn⟩
end Go.Proofs.Ytfbdnfokoakfaaa.Ct
namespace Go.Proofs.Ytfbdnfokoakfaaa.Ct
open Go.RowKit Go.Proofs.YtfbdnfokoakfaaaW.PrintWords Go.Proofs.YtfbdnfokoakfaaaW.PrintLast Go.Proofs.YtfbdnfokoakfaaaW.PrintMore
set_option linter.unusedVariables false
set_option linter.unusedSimpArgs false

set_option maxHeartbeats 4000000 in
set_option maxRecDepth 100000 in
theorem next_c (g : Nat) (A : Option Addr) (c : Nat) (b : List Int) (n : Nat) (r : RdS) (w : World) (h : RdB w g A c b n r) (hn : r.left ≤ 4096) : Calls Try.prog 20 #[.pointer (some ⟨g, 0, none⟩)] w (NxPost w g A c b n r) := by
  have HB := Lib.hid h
  have hgw := blk_lt h.a
  have hpl := h.p
  have hl48 := h.y.l
  clear h
  go_enter Try.func20, Try.ntmps20
  go_upto_region 2 with (first | ((with_reducible refine gate_dst (N := 2) rfl ?_); refine wpList_alloc_blk (l := []) rfl rfl ⟨fun i hi => absurd hi (Nat.not_lt_zero _), rfl, Below.refl _ _⟩ ?_; intro W1 hW1) | ((with_reducible refine gate_dst (N := 5) rfl ?_); refine wpList_alloc_blk rfl rfl hW1 ?_; intro W2 hW2) | ((with_reducible refine gate_store (t := 44) (p := 5) rfl ?_); refine wpList_store_blk rfl (.tmp 5) (.tmp 9) rfl hW2 1 (by simp) fr0_wf en0 fr0_wf rfl rfl ?_; intro W3 hW3))
  have hbB := hW3.below
  have b2 : W3.heap[w.heap.size]? = some (.cells (enC en0).toArray 44 (0, 0)) := hW3.bx 0 (by simp)
  have b5 : Rng W3 ⟨w.heap.size + 1, 0, none⟩ (enC en0) := hW3.rng 1 (by simp)
  have hsz : W3.heap.size = w.heap.size + 2 := hW3.sz
  clear hW1 hW2 hW3
  have HN : Hid (Nx w g W3 (rdC A c b n r)) := Lib.hid ⟨blk_below HB.out.a hbB, grown_of_below hbB _⟩
  obtain ⟨k0, k1, k2, k3, k4, k5, k6, k7⟩ := HB.out.cells hbB
  have HB2 := Lib.hid b2
  have HB5 := Lib.hid b5
  have HW3 := Lib.hid hbB
  clear k2 k4 k5 b2 b5 hbB
  by_cases c0 : r.e ≠ 0
  · have d0 : (r.e != 0) = true := by simpa using c0
    have HR := Lib.hid (show nextS b (gB b 3) r = ((en0, false, r.e), r) by unfold nextS; rw [if_pos c0])
    clear c0
    go_upto_region 5 with fail
    refine start_ (n := 8) (S := fun W => W.cell? ⟨g, 6, none⟩ = some (.int .i64 r.e) ∧ Rng W ⟨w.heap.size + 1, 0, none⟩ (enC en0)) (ds := []) #[false, false, false, false, false, false, false, false] (by kernel_rfl) rfl rfl ⟨k6, HB5.out⟩ (fun hHeld => ?_)
    refine pure_ (i := 1) (N := some 28) (v := ?_) (a' := ?_) #[false, true, false, false, false, false, false, false] rfl rfl (by kernel_rfl) (fun _ _ _ h => h) (Or.inl ⟨by rfl, ?_⟩) ?_ ?_
    rotate_left
    · intro w_
      go_simp
      with_reducible rfl
    rotate_left
    · simp only [Act.put, List.setIfInBounds_toArray, List.set_cons_zero, List.set_cons_succ]
      rfl
    refine pure_ (i := 2) (N := some 29) (v := ?_) (a' := ?_) #[false, true, true, false, false, false, false, false] rfl rfl (by kernel_rfl) (fun _ _ _ h => h) (Or.inl ⟨by rfl, ?_⟩) ?_ ?_
    rotate_left
    · intro w_
      go_simp
      with_reducible rfl
    rotate_left
    · simp only [Act.put, List.setIfInBounds_toArray, List.set_cons_zero, List.set_cons_succ]
      rfl
    refine pure_ (i := 3) (N := some 30) (v := ?_) (a' := ?_) #[false, true, true, true, false, false, false, false] rfl rfl (by kernel_rfl) (fun _ _ _ h => h) (Or.inl ⟨by rfl, ?_⟩) ?_ ?_
    rotate_left
    · intro w_
      go_simp
      with_reducible rfl
    rotate_left
    · simp only [Act.put, List.setIfInBounds_toArray, List.set_cons_zero, List.set_cons_succ]
      rfl
    refine take_ (i := 0) (N := some 27) (v := ?_) (a' := ?_) #[true, true, true, true, false, false, false, false] rfl rfl (by kernel_rfl) (fun _ _ _ h => h) (Or.inl ⟨by rfl, ?_⟩) hHeld ?_ ?_
    rotate_left
    · intro w_ hS_
      refine exec_load_any (ty := 44) (x := .tmp 5) (p := ⟨w.heap.size + 1, 0, none⟩) (cs := enC en0) ?_ ?_ hS_.2 Try.underlying44 rfl (by rw [enC_len fr0_wf]; kernel_rfl)
      · rfl
      · rfl
    rotate_left
    · simp only [Act.put, List.setIfInBounds_toArray, List.set_cons_zero, List.set_cons_succ]
      rfl
    refine take_ (i := 4) (N := some 31) (v := ?_) (a' := ?_) #[true, true, true, true, true, false, false, false] rfl rfl (by kernel_rfl) (fun _ _ _ h => h) (Or.inl ⟨by rfl, ?_⟩) hHeld ?_ ?_
    rotate_left
    · intro w_ hS_
      have s0 := hS_.1
      go_simp
      with_reducible rfl
    rotate_left
    · simp only [Act.put, List.setIfInBounds_toArray, List.set_cons_zero, List.set_cons_succ]
      rfl
    refine one_ (i := 5) (N := none) #[true, true, true, true, true, true, false, false] rfl rfl (by kernel_rfl) (by decide) (fun K hK => ?_)
    refine skip_box (p := .tmp 2) (q := .tmp 27) (by rfl) rfl w.heap.size HB2.out fr0_wf en0 fr0_wf rfl rfl (fun W9 hb9 ho9 => ?_)
    refine hK.out _ _ ⟨ho9.cell (by show g ≠ w.heap.size; omega) hHeld.1, ho9.rng (by omega) hHeld.2⟩ (fun hHeld => ?_)
    clear hK K
    refine norm_ (a' := ?_) ?_ ?_
    rotate_left
    · show Act.put _ (none) _ = _
      simp only [Act.put, List.setIfInBounds_toArray, List.set_cons_zero, List.set_cons_succ]
      rfl
    refine pure_ (i := 6) (N := some 3) (v := ?_) (a' := ?_) #[true, true, true, true, true, true, true, false] rfl rfl (by kernel_rfl) (fun _ _ _ h => h) (Or.inl ⟨by rfl, ?_⟩) ?_ ?_
    rotate_left
    · intro w_
      go_simp
      with_reducible rfl
    rotate_left
    · simp only [Act.put, List.setIfInBounds_toArray, List.set_cons_zero, List.set_cons_succ]
      rfl
    refine pure_ (i := 7) (N := some 4) (v := ?_) (a' := ?_) #[true, true, true, true, true, true, true, true] rfl rfl (by kernel_rfl) (fun _ _ _ h => h) (Or.inl ⟨by rfl, ?_⟩) ?_ ?_
    rotate_left
    · intro w_
      go_simp
      with_reducible rfl
    rotate_left
    · simp only [Act.put, List.setIfInBounds_toArray, List.set_cons_zero, List.set_cons_succ]
      rfl
    refine done_ (by kernel_rfl) ?_
    go_wp2
    refine bodyPost_ret (ret_box3 rfl _ w.heap.size hb9 fr0_wf rfl) rfl ?_
    exact nx_post HR.out rfl ((HN.out.drewN 1).only ho9 (Nat.le_refl _) hgw)
  · have d0 : (r.e != 0) = false := by simpa using c0
    have HE0 := Lib.hid (show r.e = 0 by simpa using c0)
    clear c0
    obtain ⟨lf, hlf⟩ : ∃ lf : Int, lf = (r.left : Int) := ⟨_, rfl⟩
    have hlr : 0 ≤ lf ∧ lf ≤ 4096 := by omega
    rw [← hlf] at k3
    have HLF := Lib.hid hlf
    by_cases c1 : r.left = 0
    · have d1 : (lf == 0) = true := by rw [beq_iff_eq]; omega
      clear hlf
      by_cases c2 : r.at_ < b.length
      · have d2 : decide ((r.at_ : Int) < (b.length : Int)) = true := decide_eq_true (by omega)
        have d2n : decide (r.at_ < b.length) = true := decide_eq_true c2
        have HR := Lib.hid (show nextS b (gB b 3) r = ((en0, false, 3), { r with fault := r.at_, e := 3 }) from nextS_a HE0.out c1 c2)
        clear c1 c2
        go_upto_region 6 with fail
        go_quiet (fail)
        have HN2 := Lib.hid (HN.out.drewN nq)
        have HB22 : Hid ((W3.drewN nq).heap[w.heap.size]? = some (.cells (enC en0).toArray 44 (0, 0))) := Lib.hid HB2.out
        have HB25 : Hid (Rng (W3.drewN nq) ⟨w.heap.size + 1, 0, none⟩ (enC en0)) := Lib.hid HB5.out
        go_upto_region 8 with (first | ((with_reducible refine gate_store (t := 3) (p := 57) rfl ?_); refine wpList_store_rd rfl 3 (.tmp 57) (.tmp 55) rfl HN2.out 5 (by simp [rdC]) (.int .i64 (r.at_ : Int)) rfl rfl rfl (by kernel_rfl) rfl ?_; intro W5 hW5 ho5) | ((with_reducible refine gate_store (t := 26) (p := 59) rfl ?_); refine wpList_store_rd rfl 26 (.tmp 59) (.const (.int .i64 3)) rfl hW5 6 (by simp [rdC]) (.int .i64 3) rfl rfl rfl (by kernel_rfl) rfl ?_; intro W6 hW6 ho6))
        have b26 : W6.heap[w.heap.size]? = some (.cells (enC en0).toArray 44 (0, 0)) := ((ho6.block _ (by omega)).trans (ho5.block _ (by omega))).trans HB22.out
        have b56 : Rng W6 ⟨w.heap.size + 1, 0, none⟩ (enC en0) := ho6.rng (by omega) (ho5.rng (by omega) HB25.out)
        have HN6 : Hid (Nx w g W6 (rdC A c b n { r with fault := r.at_, e := 3 })) := Lib.hid hW6
        refine start_ (n := 8) (S := fun W => W.cell? ⟨g, 6, none⟩ = some (.int .i64 3) ∧ Rng W ⟨w.heap.size + 1, 0, none⟩ (enC en0)) (ds := []) #[false, false, false, false, false, false, false, false] (by kernel_rfl) rfl rfl ⟨(blk_cell HN6.out.a 6), b56⟩ (fun hHeld => ?_)
        refine pure_ (i := 1) (N := some 61) (v := ?_) (a' := ?_) #[false, true, false, false, false, false, false, false] rfl rfl (by kernel_rfl) (fun _ _ _ h => h) (Or.inl ⟨by rfl, ?_⟩) ?_ ?_
        rotate_left
        · intro w_
          go_simp
          with_reducible rfl
        rotate_left
        · simp only [Act.put, List.setIfInBounds_toArray, List.set_cons_zero, List.set_cons_succ]
          rfl
        refine pure_ (i := 2) (N := some 62) (v := ?_) (a' := ?_) #[false, true, true, false, false, false, false, false] rfl rfl (by kernel_rfl) (fun _ _ _ h => h) (Or.inl ⟨by rfl, ?_⟩) ?_ ?_
        rotate_left
        · intro w_
          go_simp
          with_reducible rfl
        rotate_left
        · simp only [Act.put, List.setIfInBounds_toArray, List.set_cons_zero, List.set_cons_succ]
          rfl
        refine pure_ (i := 3) (N := some 63) (v := ?_) (a' := ?_) #[false, true, true, true, false, false, false, false] rfl rfl (by kernel_rfl) (fun _ _ _ h => h) (Or.inl ⟨by rfl, ?_⟩) ?_ ?_
        rotate_left
        · intro w_
          go_simp
          with_reducible rfl
        rotate_left
        · simp only [Act.put, List.setIfInBounds_toArray, List.set_cons_zero, List.set_cons_succ]
          rfl
        refine take_ (i := 0) (N := some 60) (v := ?_) (a' := ?_) #[true, true, true, true, false, false, false, false] rfl rfl (by kernel_rfl) (fun _ _ _ h => h) (Or.inl ⟨by rfl, ?_⟩) hHeld ?_ ?_
        rotate_left
        · intro w_ hS_
          refine exec_load_any (ty := 44) (x := .tmp 5) (p := ⟨w.heap.size + 1, 0, none⟩) (cs := enC en0) ?_ ?_ hS_.2 Try.underlying44 rfl (by rw [enC_len fr0_wf]; kernel_rfl)
          · rfl
          · rfl
        rotate_left
        · simp only [Act.put, List.setIfInBounds_toArray, List.set_cons_zero, List.set_cons_succ]
          rfl
        refine take_ (i := 4) (N := some 64) (v := ?_) (a' := ?_) #[true, true, true, true, true, false, false, false] rfl rfl (by kernel_rfl) (fun _ _ _ h => h) (Or.inl ⟨by rfl, ?_⟩) hHeld ?_ ?_
        rotate_left
        · intro w_ hS_
          have s0 := hS_.1
          go_simp
          with_reducible rfl
        rotate_left
        · simp only [Act.put, List.setIfInBounds_toArray, List.set_cons_zero, List.set_cons_succ]
          rfl
        refine one_ (i := 5) (N := none) #[true, true, true, true, true, true, false, false] rfl rfl (by kernel_rfl) (by decide) (fun K hK => ?_)
        refine skip_box (p := .tmp 2) (q := .tmp 60) (by rfl) rfl w.heap.size b26 fr0_wf en0 fr0_wf rfl rfl (fun W9 hb9 ho9 => ?_)
        refine hK.out _ _ ⟨ho9.cell (by show g ≠ w.heap.size; omega) hHeld.1, ho9.rng (by omega) hHeld.2⟩ (fun hHeld => ?_)
        clear hK K
        refine norm_ (a' := ?_) ?_ ?_
        rotate_left
        · show Act.put _ (none) _ = _
          simp only [Act.put, List.setIfInBounds_toArray, List.set_cons_zero, List.set_cons_succ]
          rfl
        refine pure_ (i := 6) (N := some 3) (v := ?_) (a' := ?_) #[true, true, true, true, true, true, true, false] rfl rfl (by kernel_rfl) (fun _ _ _ h => h) (Or.inl ⟨by rfl, ?_⟩) ?_ ?_
        rotate_left
        · intro w_
          go_simp
          with_reducible rfl
        rotate_left
        · simp only [Act.put, List.setIfInBounds_toArray, List.set_cons_zero, List.set_cons_succ]
          rfl
        refine pure_ (i := 7) (N := some 4) (v := ?_) (a' := ?_) #[true, true, true, true, true, true, true, true] rfl rfl (by kernel_rfl) (fun _ _ _ h => h) (Or.inl ⟨by rfl, ?_⟩) ?_ ?_
        rotate_left
        · intro w_
          go_simp
          with_reducible rfl
        rotate_left
        · simp only [Act.put, List.setIfInBounds_toArray, List.set_cons_zero, List.set_cons_succ]
          rfl
        refine done_ (by kernel_rfl) ?_
        go_wp2
        refine bodyPost_ret (ret_box3 rfl _ w.heap.size hb9 fr0_wf rfl) rfl ?_
        exact nx_post HR.out rfl ((HN6.out.drewN 1).only ho9 (Nat.le_refl _) hgw)
      · have d2 : decide ((r.at_ : Int) < (b.length : Int)) = false := decide_eq_false (by omega)
        have d2n : decide (r.at_ < b.length) = false := decide_eq_false c2
        have HR := Lib.hid (show nextS b (gB b 3) r = ((en0, false, 0), r) from nextS_b HE0.out c1 c2)
        clear c1 c2
        go_upto_region 6 with fail
        go_quiet (fail)
        have HB22 : Hid ((W3.drewN nq).heap[w.heap.size]? = some (.cells (enC en0).toArray 44 (0, 0))) := Lib.hid HB2.out
        have HB25 : Hid (Rng (W3.drewN nq) ⟨w.heap.size + 1, 0, none⟩ (enC en0)) := Lib.hid HB5.out
        have HNq := Lib.hid (HN.out.drewN nq)
        have k3q : (W3.drewN nq).cell? ⟨g, 3, none⟩ = some (.int .i64 lf) := k3
        generalize W3.drewN nq = W4 at HNq HB22 HB25 k3q ⊢
        clear k3 HN HB2 HB5
        go_wp2_with (first | ((with_reducible refine gate_dst (N := 71) rfl ?_); refine wpList_load_any rfl 44 (.tmp 5) rfl ⟨w.heap.size + 1, 0, none⟩ rfl (enC en0) _ HB25.out Try.underlying44 rfl (by rw [enC_len fr0_wf]; kernel_rfl) ?_) | ((with_reducible refine gate_store (t := 44) (p := 2) rfl ?_); refine wpList_store_box rfl (.tmp 2) (.tmp 71) rfl w.heap.size HB22.out fr0_wf en0 fr0_wf rfl rfl ?_; intro W9 hb9 ho9))
        refine bodyPost_ret (ret_box3 rfl _ w.heap.size hb9 fr0_wf rfl) rfl ?_
        exact nx_post HR.out rfl (HNq.out.only ho9 (Nat.le_refl _) hgw)
    · have d1 : (lf == 0) = false := by rw [beq_eq_false_iff_ne]; omega
      have HC1 := Lib.hid c1
      obtain ⟨lm, hlm⟩ : ∃ lm : Nat, lm = r.left - 1 := ⟨_, rfl⟩
      have el : lf - 1 = (lm : Int) := by omega
      have HLM := Lib.hid hlm
      clear c1 hlm hlf
      go_upto_region 6 with fail
      go_quiet (fail)
      have HBq : Hid (RdB (W3.drewN nq) g A c b n r) := Lib.hid (HB.out.next (pw_below_drewN HW3.out nq))
      have HNq := Lib.hid (HN.out.drewN nq)
      have HB2q : Hid ((W3.drewN nq).heap[w.heap.size]? = some (.cells (enC en0).toArray 44 (0, 0))) := Lib.hid HB2.out
      have HB5q : Hid (Rng (W3.drewN nq) ⟨w.heap.size + 1, 0, none⟩ (enC en0)) := Lib.hid HB5.out
      have hszq : (W3.drewN nq).heap.size = w.heap.size + 2 := hsz
      have k3q : (W3.drewN nq).cell? ⟨g, 3, none⟩ = some (.int .i64 lf) := k3
      generalize W3.drewN nq = W4 at HBq HNq HB2q HB5q hszq k3q ⊢
      clear k0 k1 k3 k6 k7 HN HB2 HB5 HW3 hsz
      cases ho : oneS b (gB b 3) r.at_ r.last with
      | inl x =>
        have HR := Lib.hid (nextS_inl HE0.out HC1.out ho)
        have d2 : (x.2 != 0) = true := by simpa using oneS_err b _ _ _ x ho
        have HE : Hid (∀ e w', EtPost b r W4 e w' → e = .returned (.tuple #[enV en0, .int .i64 x.1, .int .i64 x.2]) ∧ Below W4.heap.size W4 w') := Lib.hid (fun e w' he => by
          unfold EtPost at he
          rw [ho] at he
          exact he)
        have HC := Lib.hid (entry_c g A c b n r W4 HBq.out)
        clear ho
        go_upto_region 12 with (first | (go_at_call 40; refine HC.out.mono ?_; intro e w5 he; obtain ⟨rfl, hb5⟩ := HE.out e w5 he; clear he) | ((with_reducible refine gate_dst (N := 6) rfl ?_); refine wpList_alloc_box rfl rfl ?_; intro W6 hW6 hbe6 hs6) | ((with_reducible refine gate_store (t := 44) (p := 6) rfl ?_); refine wpList_store_box rfl (.tmp 6) (.tmp 75) rfl w5.heap.size hW6 fr0_wf en0 fr0_wf rfl rfl ?_; intro W7 hW7 ho7))
        have hs5 := hb5.size
        have HN7 : Hid (Nx w g W7 (rdC A c b n r)) := Lib.hid (((HNq.out.below hb5).below hbe6).only ho7 (by omega) hgw)
        have HB27 : Hid (W7.heap[w.heap.size]? = some (.cells (enC en0).toArray 44 (0, 0))) := Lib.hid ((ho7.block _ (by omega)).trans (blk_below (blk_below HB2q.out hb5) hbe6))
        have HB57 : Hid (Rng W7 ⟨w.heap.size + 1, 0, none⟩ (enC en0)) := Lib.hid (ho7.rng (by omega) ((HB5q.out.below hb5).below hbe6))
        clear HNq HB2q HB5q hW6 hbe6 hs6 hW7 ho7 hb5 HC HE HBq k3q
        go_wp2_with (first | ((with_reducible refine gate_store (t := 3) (p := 85) rfl ?_); refine wpList_store_rd rfl 3 (.tmp 85) (.tmp 82) rfl HN7.out 5 (by simp [rdC]) (.int .i64 x.1) rfl rfl rfl (by kernel_rfl) rfl ?_; intro W8 hW8 ho8) | ((with_reducible refine gate_store (t := 26) (p := 87) rfl ?_); refine wpList_store_rd rfl 26 (.tmp 87) (.tmp 83) rfl hW8 6 (by simp [rdC]) (.int .i64 x.2) rfl rfl rfl (by kernel_rfl) rfl ?_; intro Wa hWa hoa) | ((with_reducible refine gate_dst (N := 88) rfl ?_); refine wpList_load_any rfl 44 (.tmp 5) rfl ⟨w.heap.size + 1, 0, none⟩ rfl (enC en0) _ (hoa.rng (by omega) (ho8.rng (by omega) HB57.out)) Try.underlying44 rfl (by rw [enC_len fr0_wf]; kernel_rfl) ?_) | ((with_reducible refine gate_store (t := 44) (p := 2) rfl ?_); refine wpList_store_box rfl (.tmp 2) (.tmp 88) rfl w.heap.size ((hoa.block _ (by omega)).trans ((ho8.block _ (by omega)).trans HB27.out)) fr0_wf en0 fr0_wf rfl rfl ?_; intro W9 hb9 ho9))
        refine bodyPost_ret (ret_box3 rfl _ w.heap.size hb9 fr0_wf rfl) rfl ?_
        exact nx_post HR.out rfl (hWa.only ho9 (Nat.le_refl _) hgw)
      | inr x =>
        have hwf := (oneS_next b (gB b 3) r.at_ r.last x.1 x.2 (gB_range b HBq.out.y.y 3).1 HBq.out.y.y ho).2.2
        have hx2 := (oneS_next b (gB b 3) r.at_ r.last x.1 x.2 (gB_range b HBq.out.y.y 3).1 HBq.out.y.y ho).2.1
        have HR := Lib.hid (nextS_inr HE0.out HC1.out ho)
        have HE : Hid (∀ e w', EtPost b r W4 e w' → e = .returned (.tuple #[.agg (enC x.1).toArray, .int .i64 (x.2 : Int), .int .i64 0]) ∧ Below W4.heap.size W4 w') := Lib.hid (fun e w' he => by
          unfold EtPost at he
          rw [ho] at he
          exact he)
        have HC := Lib.hid (entry_c g A c b n r W4 HBq.out)
        have HWF := Lib.hid hwf
        obtain ⟨x, q⟩ := x
        clear ho hwf
        go_upto_region 12 with (first | (go_at_call 40; refine HC.out.mono ?_; intro e w5 he; obtain ⟨rfl, hb5⟩ := HE.out e w5 he; clear he) | ((with_reducible refine gate_dst (N := 6) rfl ?_); refine wpList_alloc_box rfl rfl ?_; intro W6 hW6 hbe6 hs6) | ((with_reducible refine gate_store (t := 44) (p := 6) rfl ?_); refine wpList_store_box rfl (.tmp 6) (.tmp 75) rfl w5.heap.size hW6 fr0_wf x HWF.out rfl rfl ?_; intro W7 hW7 ho7))
        have hs5 := hb5.size
        have HN7 : Hid (Nx w g W7 (rdC A c b n r)) := Lib.hid (((HNq.out.below hb5).below hbe6).only ho7 (by omega) hgw)
        have HB27 : Hid (W7.heap[w.heap.size]? = some (.cells (enC en0).toArray 44 (0, 0))) := Lib.hid ((ho7.block _ (by omega)).trans (blk_below (blk_below HB2q.out hb5) hbe6))
        obtain ⟨k6, hk6⟩ : ∃ k6, k6 = w5.heap.size := ⟨_, rfl⟩
        rw [← hk6] at hW7 ⊢
        have hk6w : w.heap.size < k6 := by omega
        have HB67 := Lib.hid hW7
        have c6 : W7.cell? ⟨k6, 0, none⟩ = some (.int .i64 x.at_) := blk_cell hW7 0
        clear HNq HB2q HB5q hW6 hbe6 hs6 hW7 ho7 hb5 HC HE HBq k3q hk6 hs5 hszq
        go_upto_region 15 with fail
        refine start_ (n := 11) (S := fun W => W.cell? ⟨k6, 0, none⟩ = some (.int .i64 x.at_)) (ds := []) #[false, false, false, false, false, false, false, false, false, false, false] (by kernel_rfl) rfl rfl c6 (fun hHeld => ?_)
        refine pure_ (i := 0) (N := some 90) (v := ?_) (a' := ?_) #[true, false, false, false, false, false, false, false, false, false, false] rfl rfl (by kernel_rfl) (fun _ _ _ h => h) (Or.inl ⟨by rfl, ?_⟩) ?_ ?_
        rotate_left
        · intro w_
          go_simp
          with_reducible rfl
        rotate_left
        · simp only [Act.put, List.setIfInBounds_toArray, List.set_cons_zero, List.set_cons_succ]
          rfl
        refine pure_ (i := 1) (N := some 91) (v := ?_) (a' := ?_) #[true, true, false, false, false, false, false, false, false, false, false] rfl rfl (by kernel_rfl) (fun _ _ _ h => h) (Or.inl ⟨by rfl, ?_⟩) ?_ ?_
        rotate_left
        · intro w_
          go_simp
          with_reducible rfl
        rotate_left
        · simp only [Act.put, List.setIfInBounds_toArray, List.set_cons_zero, List.set_cons_succ]
          rfl
        refine pure_ (i := 2) (N := some 92) (v := ?_) (a' := ?_) #[true, true, true, false, false, false, false, false, false, false, false] rfl rfl (by kernel_rfl) (fun _ _ _ h => h) (Or.inl ⟨by rfl, ?_⟩) ?_ ?_
        rotate_left
        · intro w_
          go_simp
          with_reducible rfl
        rotate_left
        · simp only [Act.put, List.setIfInBounds_toArray, List.set_cons_zero, List.set_cons_succ]
          rfl
        refine pure_ (i := 3) (N := some 93) (v := ?_) (a' := ?_) #[true, true, true, true, false, false, false, false, false, false, false] rfl rfl (by kernel_rfl) (fun _ _ _ h => h) (Or.inl ⟨by rfl, ?_⟩) ?_ ?_
        rotate_left
        · intro w_
          go_simp
          with_reducible rfl
        rotate_left
        · simp only [Act.put, List.setIfInBounds_toArray, List.set_cons_zero, List.set_cons_succ]
          rfl
        refine pure_ (i := 5) (N := some 95) (v := ?_) (a' := ?_) #[true, true, true, true, false, true, false, false, false, false, false] rfl rfl (by kernel_rfl) (fun _ _ _ h => h) (Or.inl ⟨by rfl, ?_⟩) ?_ ?_
        rotate_left
        · intro w_
          go_simp
          with_reducible rfl
        rotate_left
        · simp only [Act.put, List.setIfInBounds_toArray, List.set_cons_zero, List.set_cons_succ]
          rfl
        refine pure_ (i := 6) (N := some 96) (v := ?_) (a' := ?_) #[true, true, true, true, false, true, true, false, false, false, false] rfl rfl (by kernel_rfl) (fun _ _ _ h => h) (Or.inl ⟨by rfl, ?_⟩) ?_ ?_
        rotate_left
        · intro w_
          go_simp
          with_reducible rfl
        rotate_left
        · simp only [Act.put, List.setIfInBounds_toArray, List.set_cons_zero, List.set_cons_succ]
          rfl
        refine take_ (i := 4) (N := some 94) (v := ?_) (a' := ?_) #[true, true, true, true, true, true, true, false, false, false, false] rfl rfl (by kernel_rfl) (fun _ _ _ h => h) (Or.inl ⟨by rfl, ?_⟩) hHeld ?_ ?_
        rotate_left
        · intro w_ hS_
          have s0 := hS_
          go_simp
          with_reducible rfl
        rotate_left
        · simp only [Act.put, List.setIfInBounds_toArray, List.set_cons_zero, List.set_cons_succ]
          rfl
        refine one_ (i := 7) (N := none) #[true, true, true, true, true, true, true, true, false, false, false] rfl rfl (by kernel_rfl) (by decide) (fun K hK => ?_)
        refine skip_step (by rfl) (exec_put_rd (t := 3) (p := .tmp 96) (q := .tmp 92) rfl (HN7.out.drewN 1).a 1 (by simp [rdC]) (.int .i64 (q : Int)) rfl rfl rfl (by kernel_rfl) rfl) ?_
        refine hK.out _ _ ((set_only _ g 1 _).cell (by show k6 ≠ g; omega) hHeld) (fun hHeld => ?_)
        clear hK K
        refine norm_ (a' := ?_) ?_ ?_
        rotate_left
        · show Act.put _ (none) _ = _
          simp only [Act.put, List.setIfInBounds_toArray, List.set_cons_zero, List.set_cons_succ]
          rfl
        refine pure_ (i := 8) (N := some 97) (v := ?_) (a' := ?_) #[true, true, true, true, true, true, true, true, true, false, false] rfl rfl (by kernel_rfl) (fun _ _ _ h => h) (Or.inl ⟨by rfl, ?_⟩) ?_ ?_
        rotate_left
        · intro w_
          go_simp
          with_reducible rfl
        rotate_left
        · simp only [Act.put, List.setIfInBounds_toArray, List.set_cons_zero, List.set_cons_succ]
          rfl
        refine pure_ (i := 9) (N := some 98) (v := ?_) (a' := ?_) #[true, true, true, true, true, true, true, true, true, true, false] rfl rfl (by kernel_rfl) (fun _ _ _ h => h) (Or.inl ⟨by rfl, ?_⟩) ?_ ?_
        rotate_left
        · intro w_
          go_simp
          with_reducible rfl
        rotate_left
        · simp only [Act.put, List.setIfInBounds_toArray, List.set_cons_zero, List.set_cons_succ]
          rfl
        refine one_ (i := 10) (N := none) #[true, true, true, true, true, true, true, true, true, true, true] rfl rfl (by kernel_rfl) (by decide) (fun K hK => ?_)
        refine skip_step (by rfl) (exec_put_rd (t := 3) (p := .tmp 98) (q := .tmp 94) rfl ((HN7.out.drewN 1).put 1 (.int .i64 (q : Int))).a 2 (by simp [rdC]) (.int .i64 x.at_) rfl rfl rfl (by kernel_rfl) rfl) ?_
        refine hK.out _ _ ((set_only _ g 2 _).cell (by show k6 ≠ g; omega) hHeld) (fun hHeld => ?_)
        clear hK K
        refine norm_ (a' := ?_) ?_ ?_
        rotate_left
        · show Act.put _ (none) _ = _
          simp only [Act.put, List.setIfInBounds_toArray, List.set_cons_zero, List.set_cons_succ]
          rfl
        refine done_ (by kernel_rfl) ?_
        have HN8 : Nx w g (((W7.drewN 1).setCell ⟨g, 1, none⟩ (.int .i64 (q : Int))).setCell ⟨g, 2, none⟩ (.int .i64 x.at_)) (((rdC A c b n r).setIfInBounds 1 (.int .i64 (q : Int))).setIfInBounds 2 (.int .i64 x.at_)) := ((HN7.out.drewN 1).put 1 _).put 2 _
        have o1 := set_only (W7.drewN 1) g 1 (.int .i64 (q : Int))
        have o2 := set_only ((W7.drewN 1).setCell ⟨g, 1, none⟩ (.int .i64 (q : Int))) g 2 (.int .i64 x.at_)
        have HB28 : (((W7.drewN 1).setCell ⟨g, 1, none⟩ (.int .i64 (q : Int))).setCell ⟨g, 2, none⟩ (.int .i64 x.at_)).heap[w.heap.size]? = some (.cells (enC en0).toArray 44 (0, 0)) := (o2.block _ (by omega)).trans ((o1.block _ (by omega)).trans HB27.out)
        have HB68 : (((W7.drewN 1).setCell ⟨g, 1, none⟩ (.int .i64 (q : Int))).setCell ⟨g, 2, none⟩ (.int .i64 x.at_)).heap[k6]? = some (.cells (enC x).toArray 44 (0, 0)) := (o2.block _ (by omega)).trans ((o1.block _ (by omega)).trans HB67.out)
        clear o1 o2 hHeld
        generalize ((W7.drewN 1).setCell ⟨g, 1, none⟩ (.int .i64 (q : Int))).setCell ⟨g, 2, none⟩ (.int .i64 x.at_) = W8 at HN8 HB28 HB68 ⊢
        have k3 : W8.cell? ⟨g, 3, none⟩ = some (.int .i64 lf) := by
          rw [HLF.out]
          exact blk_cell HN8.a 3
        have HN8 := Lib.hid HN8
        have HB28 := Lib.hid HB28
        have HB68 := Lib.hid HB68
        go_wp2_with (first | ((with_reducible refine gate_store (t := 3) (p := 105) rfl ?_); refine wpList_store_rd rfl 3 (.tmp 105) (.tmp 103) rfl HN8.out 3 (by simp [rdC]) (.int .i64 (lm : Int)) rfl rfl rfl (by kernel_rfl) rfl ?_; intro Wa hWa hoa) | ((with_reducible refine gate_dst (N := 106) rfl ?_); refine wpList_load_any rfl 44 (.tmp 6) rfl ⟨k6, 0, none⟩ rfl (enC x) _ (rng_of (range_blk ((hoa.block _ (by omega)).trans HB68.out))) Try.underlying44 rfl (by rw [enC_len HWF.out]; kernel_rfl) ?_) | ((with_reducible refine gate_store (t := 44) (p := 2) rfl ?_); refine wpList_store_box rfl (.tmp 2) (.tmp 106) rfl w.heap.size ((hoa.block _ (by omega)).trans HB28.out) fr0_wf x HWF.out rfl rfl ?_; intro W9 hb9 ho9))
        refine bodyPost_ret (ret_box3 rfl _ w.heap.size hb9 HWF.out rfl) rfl ?_
        rw [HLM.out] at hWa
        exact nx_post HR.out rfl (hWa.only ho9 (Nat.le_refl _) hgw)
end Go.Proofs.Ytfbdnfokoakfaaa.Ct
