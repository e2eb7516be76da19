/- The reader's entry: its boxes. -/
import Derived.Test.YtfbdnfokoakfaaaOpenC
import Derived.Test.YtfbdnfokoakfaaaRCheckC
namespace Go.Proofs.Ytfbdnfokoakfaaa.Ct
open Go.RowKit Go.Proofs.YtfbdnfokoakfaaaW.PrintWords Go.Proofs.YtfbdnfokoakfaaaW.PrintLast Go.Proofs.YtfbdnfokoakfaaaW.PrintMore
set_option linter.unusedVariables false
set_option linter.unusedSimpArgs false

/-- A reader's block. -/
def rdC (A : Option Addr) (c : Nat) (b : List Int) (n : Nat) (r : RdS) : Array Value := #[.slice A b.length c, .int .i64 (r.at_ : Int), .int .i64 r.last, .int .i64 (r.left : Int), .int .i64 (n : Int), .int .i64 r.fault, .int .i64 r.e, .bool true]
structure RdB (W : World) (g : Nat) (A : Option Addr) (c : Nat) (b : List Int) (n : Nat) (r : RdS) : Prop where
  a : W.heap[g]? = some (.cells (rdC A c b n r) 37 (0, 0))
  y : ByR W A c b
  p : r.at_ ≤ b.length
  six : 6 ≤ b.length
  L : gB b 3 ≤ 16
theorem RdB.next {W W1 : World} {g : Nat} {A : Option Addr} {c : Nat} {b : List Int} {n : Nat} {r : RdS} (h : RdB W g A c b n r) (hb : Below W.heap.size W W1) : RdB W1 g A c b n r := ⟨blk_below h.a hb, h.y.next hb, h.p, h.six, h.L⟩

theorem skip_step {P : Program} {ops : Array Oper} {o : Oper} {a : Act} {Q : Exit → Act → World → Prop} {Kc : Act → World → Prop} {W w1 : World} (hw : Region.wanted o (yielded ops a.tmps) = true) (hrun : (execOp a.eval o).run P W = .ok .skip w1) (h : Kc (a.put o.dst undef) w1) :
    if Region.wanted o (yielded ops a.tmps) = true then Oper.wp P o a W Kc Q else Kc (a.put o.dst undef) W := by
  rw [if_pos hw]
  unfold Oper.wp
  rw [hrun]
  exact h
theorem exec_alloc44 {o : Oper} {a : Act} (ho : o.op = .alloc 44) (W : World) : (execOp a.eval o).run Try.prog W = .ok (.value (.pointer (some ⟨W.heap.size, 0, none⟩))) (W.alloc (.cells (enC en0).toArray 44)) := by
  unfold execOp
  simp only [ho]
  simp [go_sem]
  rfl
theorem exec_store44_new {o : Oper} {a : Act} {p q : Operand} {W : World} {x y : En} (ho : o.op = .store 44 p q) (hp : a.eval p = .pointer (some ⟨W.heap.size, 0, none⟩)) (hq : a.eval q = .agg (enC x).toArray) (hx : x.fr.wf) (hy : y.fr.wf) :
    (execOp a.eval o).run Try.prog (W.alloc (.cells (enC y).toArray 44)) = .ok .skip (W.alloc (.cells (enC x).toArray 44)) := by
  have h := store44_new W hx hy
  unfold enV at h
  unfold execOp
  simp only [ho, hp, hq, Sem.run_bind, h, Result.andThen_ok, Sem.run_pure]


/-- The boxes of 'entry'. -/
structure Bx (w W : World) (l : List En) : Prop where
  bx : ∀ i (hi : i < l.length), W.heap[w.heap.size + i]? = some (.cells (enC l[i]).toArray 44 (0, 0))
  sz : W.heap.size = w.heap.size + l.length
  below : Below w.heap.size w W
theorem Bx.drewN {w W : World} {l : List En} (h : Bx w W l) (n : Nat) : Bx w (W.drewN n) l := ⟨h.bx, h.sz, pw_below_drewN h.below n⟩
theorem Bx.alloc {w W : World} {l : List En} (h : Bx w W l) (x : En) : Bx w (W.alloc (.cells (enC x).toArray 44)) (l ++ [x]) := by
  refine ⟨fun i hi => ?_, by rw [World.size_alloc, h.sz]; simp; omega, below_alloc h.below _⟩
  rw [List.length_append, List.length_singleton] at hi
  by_cases e : i < l.length
  · rw [List.getElem_append_left e]
    exact blk_alloc (h.bx i e) _
  · have : i = l.length := by omega
    subst this
    rw [← h.sz]
    simpa using blk_new W (.cells (enC x).toArray 44)
/-- One box turned. -/
theorem Bx.turn {w W W1 : World} {l : List En} (h : Bx w W l) (k : Nat) (hk : k < l.length) (x : En) (h1 : W1.heap[w.heap.size + k]? = some (.cells (enC x).toArray 44 (0, 0))) (h2 : ∀ j, j ≠ w.heap.size + k → W1.heap[j]? = W.heap[j]?) (h3 : W1.heap.size = W.heap.size) (hb : Below w.heap.size w W1) : Bx w W1 (l.set k x) := by
  refine ⟨fun i hi => ?_, by rw [h3, h.sz]; simp, hb⟩
  rw [List.length_set] at hi
  by_cases e : k = i
  · subst e; rw [List.getElem_set_self]; exact h1
  · rw [List.getElem_set_ne e, h2 _ (by omega)]; exact h.bx i hi
theorem Bx.rng {w W : World} {l : List En} (h : Bx w W l) (k : Nat) (hk : k < l.length) : Rng W ⟨w.heap.size + k, 0, none⟩ (enC l[k]) := rng_of (range_blk (h.bx k hk))

theorem RdB.cells {w W : World} {g : Nat} {A : Option Addr} {c : Nat} {b : List Int} {n : Nat} {r : RdS} (h : RdB w g A c b n r) (hb : Below w.heap.size w W) :
    W.cell? ⟨g, 0, none⟩ = some (.slice A b.length c) ∧ W.cell? ⟨g, 1, none⟩ = some (.int .i64 (r.at_ : Int)) ∧ W.cell? ⟨g, 2, none⟩ = some (.int .i64 r.last) ∧ W.cell? ⟨g, 3, none⟩ = some (.int .i64 (r.left : Int)) ∧ W.cell? ⟨g, 4, none⟩ = some (.int .i64 (n : Int)) ∧ W.cell? ⟨g, 5, none⟩ = some (.int .i64 r.fault) ∧ W.cell? ⟨g, 6, none⟩ = some (.int .i64 r.e) ∧ W.cell? ⟨g, 7, none⟩ = some (.bool true) :=
  have k := blk_below h.a hb
  ⟨blk_cell k 0, blk_cell k 1, blk_cell k 2, blk_cell k 3, blk_cell k 4, blk_cell k 5, blk_cell k 6, blk_cell k 7⟩

/-- A whole entry into a box. -/
theorem wpList_store_blk {ops : Array Oper} {rest : List Oper} {op : Oper} {a : Act} {Q : Exit → Act → World → Prop} (hgd : op.guard = none) (p q : Operand) (ho : op.op = .store 44 p q)
    {w W : World} {l : List En} (St : Bx w W l) (k : Nat) (hk : k < l.length) (hw : l[k].fr.wf) (x : En) (hx : x.fr.wf) (hp : a.eval p = .pointer (some ⟨w.heap.size + k, 0, none⟩)) (hq : a.eval q = .agg (enC x).toArray)
    (h : ∀ W1, Bx w W1 (l.set k x) → wpList Try.prog ops Q rest (a.put op.dst undef) W1) : wpList Try.prog ops Q (op :: rest) a W := by
  refine wpList_plain hgd fun _ hK => ?_
  have h0 := St.bx k hk
  have hrun := run_storeVar_row (P := Try.prog) W (w.heap.size + k) 44 44 (enC l[k]).toArray (enC x).toArray h0 (by simp only [List.size_toArray, enC_len hx]; kernel_rfl) (by simp [enC_len hx, enC_len hw]) (all_oneCell_toArray (enC_one x))
  unfold Oper.wp execOp
  simp only [ho, hp, hq, Instr.storeAt, Instr.sureAddr, Sem.run_bind, Sem.run_pure, Result.andThen_ok, hrun]
  refine hK _ _ (h _ (St.turn k hk x (setRow_heap _ _ _ _ _ _ h0) (fun j hj => ?_) ?_ ?_))
  · show (W.heap.modify _ _)[j]? = _
    rw [Array.getElem?_modify, if_neg (fun e => hj e.symm)]
  · show (W.heap.modify _ _).size = _
    rw [Array.size_modify]
  · have hE := St.below
    refine ⟨hE.os, hE.tape, hE.output, ?_, fun i hi => ?_⟩
    · show w.heap.size ≤ (W.heap.modify _ _).size
      rw [Array.size_modify]; exact hE.size
    · show (W.heap.modify _ _)[i]? = _
      rw [Array.getElem?_modify, if_neg (by omega)]
      exact hE.block i hi
theorem ret_cell3 {fn : Func} {p q s : Tmp} (h : fn.results = #[.cell p 44, .tmp q, .tmp s]) (tmps : Array Value) {w W : World} {l : List En} (St : Bx w W l) (k : Nat) (hk : k < l.length) (hw : l[k].fr.wf)
    (hp : tmps.getD p undef = .pointer (some ⟨w.heap.size + k, 0, none⟩)) : (results fn tmps).run Try.prog W = .ok (.tuple #[.agg (enC l[k]).toArray, tmps.getD q undef, tmps.getD s undef]) W := by
  have hp' : tmps[p]?.getD undef = .pointer (some ⟨w.heap.size + k, 0, none⟩) := by simpa using hp
  have hl := run_loadVar_row (P := Try.prog) W (w.heap.size + k) 44 44 (enC l[k]).toArray (0, 0) _ (St.bx k hk) Try.underlying44 rfl (by simp only [List.size_toArray, enC_len hw]; kernel_rfl)
  simp [results, h, hp', asAddr, hl, Sem.run_bind]

/-- What entry answers. -/
def EtPost (b : List Int) (r : RdS) (w : World) (e : Ending) (w' : World) : Prop :=
  (match oneS b (gB b 3) r.at_ r.last with
  | .inl x => e = .returned (.tuple #[enV en0, .int .i64 x.1, .int .i64 x.2])
  | .inr x => e = .returned (.tuple #[enV x.1, .int .i64 (x.2 : Int), .int .i64 0])) ∧ Below w.heap.size w w'
theorem et_inl {b : List Int} {r : RdS} {w : World} {e : Ending} {w' : World} {x y : Int} (h : oneS b (gB b 3) r.at_ r.last = .inl (x, y)) (he : e = .returned (.tuple #[.agg (enC en0).toArray, .int .i64 x, .int .i64 y])) (hb : Below w.heap.size w w') : EtPost b r w e w' := by
  unfold EtPost
  rw [h]
  exact ⟨he, hb⟩
theorem et_inr {b : List Int} {r : RdS} {w : World} {e : Ending} {w' : World} {x : En} {q : Nat} (h : oneS b (gB b 3) r.at_ r.last = .inr (x, q)) (he : e = .returned (.tuple #[.agg (enC x).toArray, .int .i64 (q : Int), .int .i64 0])) (hb : Below w.heap.size w w') : EtPost b r w e w' := by
  unfold EtPost
  rw [h]
  exact ⟨he, hb⟩

/-- A new box. -/
theorem wpList_alloc_blk {ops : Array Oper} {rest : List Oper} {op : Oper} {a : Act} {Q : Exit → Act → World → Prop} (hgd : op.guard = none) (ho : op.op = .alloc 44)
    {w W : World} {l : List En} (St : Bx w W l) (h : ∀ W1, Bx w W1 (l ++ [en0]) → wpList Try.prog ops Q rest (a.put op.dst (.pointer (some ⟨w.heap.size + l.length, 0, none⟩))) W1) : wpList Try.prog ops Q (op :: rest) a W := by
  refine wpList_plain hgd fun _ hK => ?_
  unfold Oper.wp
  rw [exec_alloc44 ho W]
  rw [St.sz]
  exact hK _ _ (h _ (St.alloc en0))
/-- One cell of a box turned. -/
theorem Bx.put {w W : World} {l : List En} (h : Bx w W l) (k : Nat) (hk : k < l.length) (o : Nat) (v : Value) (y : En) (hy : enC y = (enC l[k]).set o v) : Bx w (W.setCell ⟨w.heap.size + k, o, none⟩ v) (l.set k y) := by
  refine h.turn k hk y ?_ (fun j hj => Below.heap_setCell W ⟨w.heap.size + k, o, none⟩ v j hj) (by simp [World.setCell]) ?_
  · rw [blk_set (h.bx k hk) o v, hy]
    simp
  · have hE := h.below
    refine ⟨hE.os, hE.tape, hE.output, ?_, fun i hi => ?_⟩
    · simpa [World.setCell] using hE.size
    · rw [Below.heap_setCell W ⟨w.heap.size + k, o, none⟩ v i (by show i ≠ w.heap.size + k; omega)]
      exact hE.block i hi
theorem run_put {w W : World} {l : List En} (h : Bx w W l) (k : Nat) (hk : k < l.length) (hw : l[k].fr.wf) (o : Nat) (ho : o < 28) (t : TypeId) (v : Value) (hc : v.cells.toList = [v]) (ht : (Try.prog.info? t).map (·.size) = some 1) (h1 : v.oneCell' = true) :
    (Instr.storeAt t (.pointer (some ⟨w.heap.size + k, o, none⟩)) v).run Try.prog W = .ok () (W.setCell ⟨w.heap.size + k, o, none⟩ v) :=
  run_store_run t v [v] (h.bx k hk) hc ht (by simp [enC_len hw]; omega) (fun q hq => by rw [List.mem_singleton.1 hq]; exact h1)
theorem wpList_store_put {ops : Array Oper} {rest : List Oper} {op : Oper} {a : Act} {Q : Exit → Act → World → Prop} (hgd : op.guard = none) (t : TypeId) (p q : Operand) (hop : op.op = .store t p q)
    {w W : World} {l : List En} (St : Bx w W l) (k : Nat) (hk : k < l.length) (hw : l[k].fr.wf) (o : Nat) (ho : o < 28) (v : Value) (y : En) (hp : a.eval p = .pointer (some ⟨w.heap.size + k, o, none⟩)) (hq : a.eval q = v)
    (hc : v.cells.toList = [v]) (ht : (Try.prog.info? t).map (·.size) = some 1) (h1 : v.oneCell' = true) (hy : enC y = (enC l[k]).set o v)
    (h : ∀ W1, Bx w W1 (l.set k y) → wpList Try.prog ops Q rest (a.put op.dst undef) W1) : wpList Try.prog ops Q (op :: rest) a W := by
  refine wpList_plain hgd fun _ hK => ?_
  have hrun := run_put St k hk hw o ho t v hc ht h1
  unfold Oper.wp execOp
  simp only [hop, hp, hq, Sem.run_bind, Sem.run_pure, Result.andThen_ok, hrun]
  exact hK _ _ (h _ (St.put k hk o v y hy))
theorem exec_put {o : Oper} {a : Act} {t : TypeId} {p q : Operand} (hop : o.op = .store t p q) {w W : World} {l : List En} (St : Bx w W l) (k : Nat) (hk : k < l.length) (hw : l[k].fr.wf) (j : Nat) (hj : j < 28) (v : Value) (hp : a.eval p = .pointer (some ⟨w.heap.size + k, j, none⟩)) (hq : a.eval q = v)
    (hc : v.cells.toList = [v]) (ht : (Try.prog.info? t).map (·.size) = some 1) (h1 : v.oneCell' = true) : (execOp a.eval o).run Try.prog W = .ok .skip (W.setCell ⟨w.heap.size + k, j, none⟩ v) := by
  have hrun := run_put St k hk hw j hj t v hc ht h1
  unfold execOp
  simp only [hop, hp, hq, Sem.run_bind, hrun, Result.andThen_ok, Sem.run_pure]
end Go.Proofs.Ytfbdnfokoakfaaa.Ct
