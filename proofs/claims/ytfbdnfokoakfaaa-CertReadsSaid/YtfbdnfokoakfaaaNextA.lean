/- The reader's Next: what its walk uses. -/
import Derived.Test.YtfbdnfokoakfaaaEntryC
namespace Go.Proofs.Ytfbdnfokoakfaaa.Ct
open Go.RowKit Go.Proofs.YtfbdnfokoakfaaaW.PrintWords Go.Proofs.YtfbdnfokoakfaaaW.PrintLast Go.Proofs.YtfbdnfokoakfaaaW.PrintMore
set_option linter.unusedVariables false
set_option linter.unusedSimpArgs false

/-- One block was written. -/
structure Only (k : Nat) (W W1 : World) : Prop where
  os : W1.os = W.os
  tape : W1.tape = W.tape
  output : W1.output = W.output
  size : W1.heap.size = W.heap.size
  block : ∀ j, j ≠ k → W1.heap[j]? = W.heap[j]?
theorem Only.cell {k : Nat} {W W1 : World} (h : Only k W W1) {a : Addr} (ha : a.block ≠ k) {v : Value} (hc : W.cell? a = some v) : W1.cell? a = some v := by
  unfold World.cell? at hc ⊢
  rw [h.block _ ha]
  exact hc
theorem Only.rng {k : Nat} {W W1 : World} (h : Only k W W1) {b o : Nat} (ha : b ≠ k) {cs : List Value} (hc : Rng W ⟨b, o, none⟩ cs) : Rng W1 ⟨b, o, none⟩ cs := fun j v hj =>
  h.cell (by rw [Addr.add_mid]; exact ha) (hc j v hj)
/-- A world in which the reader's block was written, and else only new blocks. -/
structure Nx (w : World) (g : Nat) (W : World) (cs : Array Value) : Prop where
  a : W.heap[g]? = some (.cells cs 37 (0, 0))
  but : w.grownBy W (some g)
theorem Nx.drewN {w W : World} {g : Nat} {cs : Array Value} (h : Nx w g W cs) (n : Nat) : Nx w g (W.drewN n) cs := ⟨h.a, h.but.os, h.but.tape, h.but.output, h.but.size, h.but.block⟩
theorem Nx.below {w W W1 : World} {g : Nat} {cs : Array Value} (h : Nx w g W cs) (hb : Below W.heap.size W W1) : Nx w g W1 cs := ⟨blk_below h.a hb, h.but.trans (grown_of_below hb _)⟩
theorem Nx.put {w W : World} {g : Nat} {cs : Array Value} (h : Nx w g W cs) (o : Nat) (v : Value) : Nx w g (W.setCell ⟨g, o, none⟩ v) (cs.setIfInBounds o v) :=
  ⟨blk_set h.a o v, h.but.os, h.but.tape, h.but.output, by simpa [World.setCell] using h.but.size, fun k hk hne => (Below.heap_setCell _ _ _ _ (by intro e; exact hne (by rw [e]))).trans (h.but.block k hk hne)⟩
theorem Nx.only {w W W1 : World} {g k : Nat} {cs : Array Value} (h : Nx w g W cs) (ho : Only k W W1) (hk : w.heap.size ≤ k) (hg : g < w.heap.size) : Nx w g W1 cs :=
  ⟨(ho.block g (by omega)).trans h.a, ho.os.trans h.but.os, ho.tape.trans h.but.tape, ho.output.trans h.but.output, by rw [ho.size]; exact h.but.size, fun i hi hne => (ho.block i (by omega)).trans (h.but.block i hi hne)⟩
theorem set_only (W : World) (g o : Nat) (v : Value) : Only g W (W.setCell ⟨g, o, none⟩ v) := ⟨rfl, rfl, rfl, by simp [World.setCell], fun j hj => Below.heap_setCell W ⟨g, o, none⟩ v j hj⟩

theorem run_store_box {W : World} (k : Nat) {y : En} (h0 : W.heap[k]? = some (.cells (enC y).toArray 44 (0, 0))) (hy : y.fr.wf) (x : En) (hx : x.fr.wf) :
    ∃ W1, (Instr.storeAt 44 (.pointer (some ⟨k, 0, none⟩)) (.agg (enC x).toArray)).run Try.prog W = .ok () W1 ∧ W1.heap[k]? = some (.cells (enC x).toArray 44 (0, 0)) ∧ Only k W W1 := by
  have hrun := run_storeVar_row (P := Try.prog) W k 44 44 (enC y).toArray (enC x).toArray h0 (by simp only [List.size_toArray, enC_len hx]; kernel_rfl) (by simp [enC_len hx, enC_len hy]) (all_oneCell_toArray (enC_one x))
  refine ⟨_, by simp only [Instr.storeAt, Instr.sureAddr, Sem.run_bind, Sem.run_pure, Result.andThen_ok]; exact hrun, setRow_heap _ _ _ _ _ _ h0, rfl, rfl, rfl, ?_, fun j hj => ?_⟩
  · show (W.heap.modify _ _).size = _
    rw [Array.size_modify]
  · show (W.heap.modify _ _)[j]? = _
    rw [Array.getElem?_modify, if_neg (fun e => hj e.symm)]
theorem wpList_store_box {ops : Array Oper} {rest : List Oper} {op : Oper} {a : Act} {Q : Exit → Act → World → Prop} (hgd : op.guard = none) (p q : Operand) (ho : op.op = .store 44 p q)
    {W : World} (k : Nat) {y : En} (h0 : W.heap[k]? = some (.cells (enC y).toArray 44 (0, 0))) (hy : y.fr.wf) (x : En) (hx : x.fr.wf) (hp : a.eval p = .pointer (some ⟨k, 0, none⟩)) (hq : a.eval q = .agg (enC x).toArray)
    (h : ∀ W1, W1.heap[k]? = some (.cells (enC x).toArray 44 (0, 0)) → Only k W W1 → wpList Try.prog ops Q rest (a.put op.dst undef) W1) : wpList Try.prog ops Q (op :: rest) a W := by
  refine wpList_plain hgd fun _ hK => ?_
  obtain ⟨W1, hrun, h1, h2⟩ := run_store_box k h0 hy x hx
  unfold Oper.wp execOp
  simp only [ho, hp, hq, Sem.run_bind, hrun, Result.andThen_ok, Sem.run_pure]
  exact hK _ _ (h W1 h1 h2)
theorem exec_store_box {o : Oper} {a : Act} {p q : Operand} (hop : o.op = .store 44 p q) {W : World} (k : Nat) {y : En} (h0 : W.heap[k]? = some (.cells (enC y).toArray 44 (0, 0))) (hy : y.fr.wf) (x : En) (hx : x.fr.wf) (hp : a.eval p = .pointer (some ⟨k, 0, none⟩)) (hq : a.eval q = .agg (enC x).toArray) :
    ∃ W1, (execOp a.eval o).run Try.prog W = .ok .skip W1 ∧ W1.heap[k]? = some (.cells (enC x).toArray 44 (0, 0)) ∧ Only k W W1 := by
  obtain ⟨W1, hrun, h1, h2⟩ := run_store_box k h0 hy x hx
  refine ⟨W1, ?_, h1, h2⟩
  unfold execOp
  simp only [hop, hp, hq, Sem.run_bind, hrun, Result.andThen_ok, Sem.run_pure]
theorem skip_box {ops : Array Oper} {o : Oper} {a : Act} {Q : Exit → Act → World → Prop} {Kc : Act → World → Prop} {W : World} {p q : Operand} (hw : Region.wanted o (yielded ops a.tmps) = true) (hop : o.op = .store 44 p q) (k : Nat) {y : En} (h0 : W.heap[k]? = some (.cells (enC y).toArray 44 (0, 0))) (hy : y.fr.wf) (x : En) (hx : x.fr.wf) (hp : a.eval p = .pointer (some ⟨k, 0, none⟩)) (hq : a.eval q = .agg (enC x).toArray)
    (h : ∀ W1, W1.heap[k]? = some (.cells (enC x).toArray 44 (0, 0)) → Only k W W1 → Kc (a.put o.dst undef) W1) :
    if Region.wanted o (yielded ops a.tmps) = true then Oper.wp Try.prog o a W Kc Q else Kc (a.put o.dst undef) W := by
  obtain ⟨W1, hrun, h1, h2⟩ := exec_store_box hop k h0 hy x hx hp hq
  exact skip_step hw hrun (h W1 h1 h2)
theorem wpList_alloc_box {ops : Array Oper} {rest : List Oper} {op : Oper} {a : Act} {Q : Exit → Act → World → Prop} (hgd : op.guard = none) (ho : op.op = .alloc 44)
    {W : World} (h : ∀ W1, W1.heap[W.heap.size]? = some (.cells (enC en0).toArray 44 (0, 0)) → Below W.heap.size W W1 → W1.heap.size = W.heap.size + 1 → wpList Try.prog ops Q rest (a.put op.dst (.pointer (some ⟨W.heap.size, 0, none⟩))) W1) : wpList Try.prog ops Q (op :: rest) a W := by
  refine wpList_plain hgd fun _ hK => ?_
  unfold Oper.wp
  rw [exec_alloc44 ho W]
  exact hK _ _ (h _ (blk_new W _) (below_alloc (Below.refl _ _) _) (World.size_alloc _ _))
theorem run_put_rd {W : World} {g : Nat} {cs : Array Value} (h : W.heap[g]? = some (.cells cs 37 (0, 0))) (o : Nat) (ho : o < cs.size) (t : TypeId) (v : Value) (hc : v.cells.toList = [v]) (ht : (Try.prog.info? t).map (·.size) = some 1) (h1 : v.oneCell' = true) :
    (Instr.storeAt t (.pointer (some ⟨g, o, none⟩)) v).run Try.prog W = .ok () (W.setCell ⟨g, o, none⟩ v) :=
  run_store_run t v [v] h hc ht (by simp; omega) (fun q hq => by rw [List.mem_singleton.1 hq]; exact h1)
theorem wpList_store_rd {ops : Array Oper} {rest : List Oper} {op : Oper} {a : Act} {Q : Exit → Act → World → Prop} (hgd : op.guard = none) (t : TypeId) (p q : Operand) (hop : op.op = .store t p q)
    {w W : World} {g : Nat} {cs : Array Value} (St : Nx w g W cs) (o : Nat) (ho : o < cs.size) (v : Value) (hp : a.eval p = .pointer (some ⟨g, o, none⟩)) (hq : a.eval q = v)
    (hc : v.cells.toList = [v]) (ht : (Try.prog.info? t).map (·.size) = some 1) (h1 : v.oneCell' = true)
    (h : ∀ W1, Nx w g W1 (cs.setIfInBounds o v) → Only g W W1 → wpList Try.prog ops Q rest (a.put op.dst undef) W1) : wpList Try.prog ops Q (op :: rest) a W := by
  refine wpList_plain hgd fun _ hK => ?_
  have hrun := run_put_rd St.a o ho t v hc ht h1
  unfold Oper.wp execOp
  simp only [hop, hp, hq, Sem.run_bind, Sem.run_pure, Result.andThen_ok, hrun]
  exact hK _ _ (h _ (St.put o v) (set_only W g o v))
theorem exec_put_rd {o : Oper} {a : Act} {t : TypeId} {p q : Operand} (hop : o.op = .store t p q) {W : World} {g : Nat} {cs : Array Value} (h : W.heap[g]? = some (.cells cs 37 (0, 0))) (j : Nat) (hj : j < cs.size) (v : Value) (hp : a.eval p = .pointer (some ⟨g, j, none⟩)) (hq : a.eval q = v)
    (hc : v.cells.toList = [v]) (ht : (Try.prog.info? t).map (·.size) = some 1) (h1 : v.oneCell' = true) : (execOp a.eval o).run Try.prog W = .ok .skip (W.setCell ⟨g, j, none⟩ v) := by
  have hrun := run_put_rd h j hj t v hc ht h1
  unfold execOp
  simp only [hop, hp, hq, Sem.run_bind, hrun, Result.andThen_ok, Sem.run_pure]
theorem ret_box3 {fn : Func} {p q s : Tmp} (h : fn.results = #[.cell p 44, .tmp q, .tmp s]) (tmps : Array Value) {W : World} (k : Nat) {x : En} (hb : W.heap[k]? = some (.cells (enC x).toArray 44 (0, 0))) (hw : x.fr.wf)
    (hp : tmps.getD p undef = .pointer (some ⟨k, 0, none⟩)) : (results fn tmps).run Try.prog W = .ok (.tuple #[.agg (enC x).toArray, tmps.getD q undef, tmps.getD s undef]) W := by
  have hp' : tmps[p]?.getD undef = .pointer (some ⟨k, 0, none⟩) := by simpa using hp
  have hl := run_loadVar_row (P := Try.prog) W k 44 44 (enC x).toArray (0, 0) _ hb Try.underlying44 rfl (by simp only [List.size_toArray, enC_len hw]; kernel_rfl)
  simp [results, h, hp', asAddr, hl, Sem.run_bind]

theorem oneS_err (b : List Int) (L : Int) (p : Nat) (last : Int) (x : Int × Int) (h : oneS b L p last = .inl x) : x.2 ≠ 0 := by
  have hsl : ∀ m q y, slotsS b m q = some y → y.2 ≠ 0 := by
    intro m
    induction m with
    | zero => intro q y e; cases e
    | succ m ih =>
      intro q y e
      rw [slotsS] at e
      by_cases c : q = b.length
      · rw [if_pos c] at e; cases e; simp
      · rw [if_neg c] at e
        by_cases d : knownB (gB b q) = true
        · rw [if_pos d] at e; exact ih _ _ e
        · rw [if_neg d] at e; cases e; simp
  unfold oneS at h
  by_cases c1 : b.length < p + 2
  · rw [if_pos c1] at h; cases h; simp
  rw [if_neg c1] at h
  by_cases c2 : risesS last (gB b p * 256 + gB b (p + 1)) ≠ 0
  · rw [if_pos c2] at h; cases h; exact c2
  rw [if_neg c2] at h
  by_cases c3 : p + 2 = b.length
  · rw [if_pos c3] at h; cases h; simp
  rw [if_neg c3] at h
  by_cases c4 : 1 < gB b (p + 2)
  · rw [if_pos c4] at h; cases h; simp
  rw [if_neg c4] at h
  by_cases c5 : gB b (p + 2) = 0
  · rw [if_pos c5] at h; cases h
  rw [if_neg c5] at h
  by_cases c6 : p + 3 = b.length
  · rw [if_pos c6] at h; cases h; simp
  rw [if_neg c6] at h
  by_cases c7 : 24 < L + gB b (p + 3)
  · rw [if_pos c7] at h; cases h; simp
  rw [if_neg c7] at h
  cases hs : slotsS b (L + gB b (p + 3)).toNat (p + 4) with
  | some y => rw [hs] at h; cases h; exact hsl _ _ _ hs
  | none => rw [hs] at h; cases h

theorem nextS_a {b : List Int} {L : Int} {r : RdS} (h0 : r.e = 0) (h1 : r.left = 0) (h2 : r.at_ < b.length) : nextS b L r = ((en0, false, 3), { r with fault := r.at_, e := 3 }) := by
  unfold nextS
  rw [if_neg (by simpa using h0), if_pos h1, if_pos h2]
theorem nextS_b {b : List Int} {L : Int} {r : RdS} (h0 : r.e = 0) (h1 : r.left = 0) (h2 : ¬ r.at_ < b.length) : nextS b L r = ((en0, false, 0), r) := by
  unfold nextS
  rw [if_neg (by simpa using h0), if_pos h1, if_neg h2]
theorem nextS_inl {b : List Int} {L : Int} {r : RdS} (h0 : r.e = 0) (h1 : ¬ r.left = 0) {x : Int × Int} (h : oneS b L r.at_ r.last = .inl x) : nextS b L r = ((en0, false, x.2), { r with fault := x.1, e := x.2 }) := by
  unfold nextS
  rw [if_neg (by simpa using h0), if_neg h1, h]
theorem nextS_inr {b : List Int} {L : Int} {r : RdS} (h0 : r.e = 0) (h1 : ¬ r.left = 0) {x : En × Nat} (h : oneS b L r.at_ r.last = .inr x) : nextS b L r = ((x.1, true, 0), { r with at_ := x.2, last := x.1.at_, left := r.left - 1 }) := by
  unfold nextS
  rw [if_neg (by simpa using h0), if_neg h1, h]

/-- What Next answers. -/
def NxPost (w : World) (g : Nat) (A : Option Addr) (c : Nat) (b : List Int) (n : Nat) (r : RdS) (e : Ending) (w' : World) : Prop :=
  e = .returned (.tuple #[enV (nextS b (gB b 3) r).1.1, .bool (nextS b (gB b 3) r).1.2.1, .int .i64 (nextS b (gB b 3) r).1.2.2]) ∧ Nx w g w' (rdC A c b n (nextS b (gB b 3) r).2)
theorem nx_post {w : World} {g : Nat} {A : Option Addr} {c : Nat} {b : List Int} {n : Nat} {r : RdS} {e : Ending} {w' : World} {x : En} {k : Bool} {y : Int} {r' : RdS} (h : nextS b (gB b 3) r = ((x, k, y), r')) (he : e = .returned (.tuple #[.agg (enC x).toArray, .bool k, .int .i64 y])) (hn : Nx w g w' (rdC A c b n r')) : NxPost w g A c b n r e w' := by
  unfold NxPost
  rw [h]
  exact ⟨he, hn⟩
end Go.Proofs.Ytfbdnfokoakfaaa.Ct
