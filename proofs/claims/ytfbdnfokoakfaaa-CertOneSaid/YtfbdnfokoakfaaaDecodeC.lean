/- cert.Decode: what its loop keeps. cert.Decode: its walk. The reference's Decode: its walk. -/
import Derived.Test.YtfbdnfokoakfaaaIterC
import Derived.Shelf.Abstract
namespace Go.Proofs.Ytfbdnfokoakfaaa.Ct
open Go.RowKit Go.Proofs.YtfbdnfokoakfaaaW.PrintWords Go.Proofs.YtfbdnfokoakfaaaW.PrintLast Go.Proofs.YtfbdnfokoakfaaaW.PrintMore
set_option linter.unusedVariables false
set_option linter.unusedSimpArgs false

/-- A row of entries stays where another block was written. -/
theorem R_stay {W w1 : World} {base : Nat} {ok : Nat → Prop} {v : Value} {xs : List En} {row : Option Nat} (h : Kd.R kEn 44 W base ok v xs) (hg : W.grownBy w1 row) (hrow : ∀ k, row = some k → ∃ o, W.heap[k]? = some o ∧ ∀ cs f, o ≠ .cells cs 44 f) : Kd.R kEn 44 w1 base ok v xs := by
  refine Kd.R_grown2 h rfl hg (fun k e1 e2 => ?_)
  obtain ⟨inner, ho⟩ := Kd.R_own h
  obtain ⟨cells, hc⟩ := own_typed ho k e2.symm
  obtain ⟨o, h1, h2⟩ := hrow k e1
  rw [hc] at h1
  cases h1
  exact h2 _ _ rfl
/-- Between two rounds. -/
structure DcI (w : World) (g gc : Nat) (L : Int) (pre : List EnW) (W : World) : Prop where
  t2 : W.heap[w.heap.size]? = some (.cells #[.int .i64 0, .slice none 0 0] 24 (0, 0))
  c : ∃ v, W.heap[gc]? = some (.cells #[.int .i64 L, v] 24 (0, 0)) ∧ Kd.R kEn 44 W w.heap.size (fun _ => True) v (pre.map (·.1))
  rd : ∃ cs, W.heap[g]? = some (.cells cs 37 (0, 0))
  below : Below w.heap.size w W
theorem DcI.grow {w W W' : World} {g gc : Nat} {L : Int} {pre : List EnW} {row : Option Nat} (h : DcI w g gc L pre W) (hg : W.grownBy W' row) (hrow : ∀ k, row = some k → w.heap.size ≤ k ∧ ∃ o, W.heap[k]? = some o ∧ ∀ cs t f, o = .cells cs t f → t = 37) (hrd : ∃ cs, W'.heap[g]? = some (.cells cs 37 (0, 0))) : DcI w g gc L pre W' := by
  obtain ⟨v, hc, hr⟩ := h.c
  have ne : ∀ (k : Nat) (cs : Array Value) (t : TypeId) (f : Nat × Nat), W.heap[k]? = some (.cells cs t f) → t ≠ 37 → some k ≠ row := fun k cs t f hk ht e => by
    obtain ⟨_, o, h1, h2⟩ := hrow k e.symm
    rw [hk] at h1
    cases h1
    exact ht (h2 _ _ _ rfl)
  refine ⟨(hg.block _ (blk_lt h.t2) (ne _ _ _ _ h.t2 (by decide))).trans h.t2, ⟨v, (hg.block _ (blk_lt hc) (ne _ _ _ _ hc (by decide))).trans hc, R_stay hr hg (fun k e => ?_)⟩, hrd, h.below.grown hg h.below.size (fun k e => (hrow k e).1)⟩
  obtain ⟨_, o, h1, h2⟩ := hrow k e
  exact ⟨o, h1, fun cs f e => by have := h2 _ _ _ e; cases this⟩
theorem dcI_own {B : Nat} {w : World} {g gc : Nat} {L : Int} (hB : w.heap.size ≤ B) : OwnFrom B (DcI w g gc L) := by
  intro pre W W' row h hg hrow
  have hrd : ∃ cs, W'.heap[g]? = some (.cells cs 37 (0, 0)) := by
    obtain ⟨cs, h1⟩ := h.rd
    refine ⟨cs, (hg.block g (blk_lt h1) (fun e => ?_)).trans h1⟩
    obtain ⟨_, o, ho, hc⟩ := hrow g e.symm
    rw [h1] at ho
    cases ho
    cases hc
  refine h.grow hg (fun k e => ?_) hrd
  obtain ⟨h1, o, h2, h3⟩ := hrow k e
  exact ⟨Nat.le_trans hB h1, o, h2, fun cs t f e => by subst e; cases h3⟩
theorem dcI_wr {w A B : World} {g gc : Nat} {L : Int} {pre : List EnW} (hgw : w.heap.size ≤ g) (h : DcI w g gc L pre A) (ht : WrT g A B) : DcI w g gc L pre B := by
  obtain ⟨cs, hn⟩ := ht
  refine h.grow hn.but (fun k e => ?_) ⟨_, hn.a⟩
  injection e with e
  subst e
  obtain ⟨cs', h1⟩ := h.rd
  exact ⟨hgw, _, h1, fun _ _ _ e => by cases e; rfl⟩
theorem DcI.below' {w W W' : World} {g gc : Nat} {L : Int} {pre : List EnW} (h : DcI w g gc L pre W) (hb : Below W.heap.size W W') : DcI w g gc L pre W' := by
  obtain ⟨v, hc, hr⟩ := h.c
  obtain ⟨cs, h1⟩ := h.rd
  exact ⟨blk_below h.t2 hb, ⟨v, blk_below hc hb, Kd.R_below hr hb⟩, ⟨cs, blk_below h1 hb⟩, below_then h.below h.below.size hb⟩

/-- What an append to the row, and a store into the variable, leave. -/
theorem body_keeps {w W W8 w1 : World} {v : Value} {xs : List En} {gc : Nat} {cs : Array Value} (h8 : Below W.heap.size W W8) (hR : Kd.R kEn 44 W8 w.heap.size (fun _ => True) v xs) (hg : W8.grownBy w1 v.ownBlock) (hgc : W8.heap[gc]? = some (.cells cs 24 (0, 0))) (hgcB : w.heap.size ≤ gc) (v' : Value) :
    ∀ (k : Nat) (o : Obj), W.heap[k]? = some o → (k < w.heap.size ∨ o.isCells = false ∨ ∃ cs t f, o = .cells cs t f ∧ t ≠ 44 ∧ t ≠ 24) → (w1.setCell ⟨gc, 1, none⟩ v').heap[k]? = some o := by
  intro k o hk hx
  have hk8 := blk_below hk h8
  have h1 : some k ≠ v.ownBlock := by
    intro e
    have hlt := R_lt hR k e.symm
    obtain ⟨inner, ho⟩ := Kd.R_own hR
    obtain ⟨cells, hc⟩ := own_typed ho k e.symm
    rw [hk8] at hc
    cases hc
    rcases hx with hx | hx | ⟨_, _, _, hx, h2, _⟩
    · omega
    · cases hx
    · cases hx; exact h2 rfl
  have h2 : k ≠ gc := by
    intro e
    subst e
    rw [hk8] at hgc
    cases hgc
    rcases hx with hx | hx | ⟨_, _, _, hx, _, h2⟩
    · omega
    · cases hx
    · cases hx; exact h2 rfl
  rw [Below.heap_setCell _ _ _ _ h2]
  exact (hg.block k (blk_lt hk8) h1).trans hk8
theorem body_I {w W8 w1 : World} {v v' : Value} {pre : List EnW} {x : EnW} {g gc : Nat} {L : Int} (hne : w.heap.size ≠ gc) (hgcB : w.heap.size ≤ gc) (h : DcI w g gc L pre W8) (hc : W8.heap[gc]? = some (.cells #[.int .i64 L, v] 24 (0, 0))) (hr : Kd.R kEn 44 W8 w.heap.size (fun _ => True) v (pre.map (·.1)))
    (hr' : Kd.R kEn 44 w1 w.heap.size (fun _ => True) v' (pre.map (·.1) ++ [x.1])) (hb : Below w.heap.size w w1) (hg : W8.grownBy w1 v.ownBlock) : DcI w g gc L (pre ++ [x]) (w1.setCell ⟨gc, 1, none⟩ v') := by
  have ne : ∀ (k : Nat) (cs : Array Value) (t : TypeId) (f : Nat × Nat), W8.heap[k]? = some (.cells cs t f) → t ≠ 44 → some k ≠ v.ownBlock := fun k cs t f hk ht e => by
    obtain ⟨inner, ho⟩ := Kd.R_own hr
    obtain ⟨cells, hc⟩ := own_typed ho k e.symm
    rw [hk] at hc
    cases hc
    exact ht rfl
  have hc1 := (hg.block _ (blk_lt hc) (ne _ _ _ _ hc (by decide))).trans hc
  have ht1 := (hg.block _ (blk_lt h.t2) (ne _ _ _ _ h.t2 (by decide))).trans h.t2
  obtain ⟨cs, h1⟩ := h.rd
  have hg1 := (hg.block _ (blk_lt h1) (ne _ _ _ _ h1 (by decide))).trans h1
  refine ⟨blk_far ht1 (p := ⟨gc, 1, none⟩) hne v', ⟨v', blk_set hc1 1 v', ?_⟩, ⟨cs, blk_far hg1 (p := ⟨gc, 1, none⟩) (blk_ne hg1 hc1 (by decide)) v'⟩, hb.setCell (p := ⟨gc, 1, none⟩) hgcB _⟩
  rw [List.map_append]
  exact R_stay hr' (only_grown (set_only w1 gc 1 v')) (fun k e => by injection e with e; subst e; exact ⟨_, hc1, fun _ _ e => by cases e⟩)
end Go.Proofs.Ytfbdnfokoakfaaa.Ct
namespace Go.Proofs.Ytfbdnfokoakfaaa.Ct
open Go.RowKit Go.Shelf Go.Proofs.YtfbdnfokoakfaaaW.PrintWords Go.Proofs.YtfbdnfokoakfaaaW.PrintLast Go.Proofs.YtfbdnfokoakfaaaW.PrintMore
set_option linter.unusedVariables false
set_option linter.unusedSimpArgs false

/-- What a certificate's bytes say, where all is well. -/
def decL (b : List Int) : Int := if (toldS b).2.2.2 = 0 then gB b 3 else 0
def decE (b : List Int) : List En := if (toldS b).2.2.2 = 0 then (toldS b).1 else []
def DcPost (b : List Int) (w : World) (e : Ending) (w' : World) : Prop :=
  ∃ v, e = .returned (.tuple #[.agg #[.int .i64 (decL b), v], .int .i64 (toldS b).2.2.1, .int .i64 (toldS b).2.2.2]) ∧ Kd.R kEn 44 w' w.heap.size (fun _ => True) v (decE b) ∧ Below w.heap.size w w'

theorem all_c (g : Nat) (w : World) : Calls Try.prog 42 #[.pointer (some ⟨g, 0, none⟩)] w fun e w' => e = .returned (.func (.func 48) #[] #[.pointer (some ⟨w.heap.size, 0, none⟩)]) ∧ w' = w.alloc (.cells #[.pointer (some ⟨g, 0, none⟩)] 35) := by
  go_enter Try.func42, Try.ntmps42
  go_wp2
  go_ret
  exact ⟨rfl, rfl⟩

theorem ret_cert {fn : Func} {p q s : Tmp} (h : fn.results = #[.cell p 24, .tmp q, .tmp s]) (tmps : Array Value) {W : World} (k : Nat) {x y : Value} (hb : W.heap[k]? = some (.cells #[x, y] 24 (0, 0)))
    (hp : tmps.getD p undef = .pointer (some ⟨k, 0, none⟩)) : (results fn tmps).run Try.prog W = .ok (.tuple #[.agg #[x, y], tmps.getD q undef, tmps.getD s undef]) W := by
  have hp' : tmps[p]?.getD undef = .pointer (some ⟨k, 0, none⟩) := by simpa using hp
  have hl := run_loadVar_row (P := Try.prog) W k 24 24 #[x, y] (0, 0) _ hb Try.underlying24 rfl (by kernel_rfl)
  simp [results, h, hp', asAddr, hl, Sem.run_bind]

/-- The way out: the block of the rounds' deferred calls is shut. -/
theorem dec_fin {b : List Int} {w V : World} {D : Nat} {x v : Value} {l : List En} {tmps : Array Value} {p q : Int} (hV2 : V.heap[w.heap.size]? = some (.cells #[x, v] 24 (0, 0))) (hVD : V.heap[D]? = some (.deferred (some []))) (hD : w.heap.size ≤ D) (hb : Below w.heap.size w V) (hR : Kd.R kEn 44 V w.heap.size (fun _ => True) v l)
    (h2 : tmps.getD 2 undef = .pointer (some ⟨w.heap.size, 0, none⟩)) (h3 : tmps.getD 3 undef = .int .i64 p) (h4 : tmps.getD 4 undef = .int .i64 q)
    (hx : x = .int .i64 (decL b)) (hl : l = decE b) (hp : p = (toldS b).2.2.1) (hq : q = (toldS b).2.2.2) :
    LeavesInM Fence.wide 5 Try.prog Try.f25 tmps (DcPost b w) [{ target := .collected D, args := #[] }] .returning V := by
  have hg := grownBy_putObj' V D (.deferred none)
  have hne : some w.heap.size ≠ some D := fun e => by
    injection e with e
    rw [e, hVD] at hV2
    cases hV2
  refine ⟨by simp, .inl ⟨_, _, rfl, run_takeDeferred hVD, _, ret_cert (p := 2) (q := 3) (s := 4) rfl _ w.heap.size ((hg.block _ (blk_lt hV2) hne).trans hV2) h2, ?_⟩⟩
  refine ⟨v, ?_, ?_, hb.grown hg hb.size (fun k e => by injection e with e; omega)⟩
  · rw [h3, h4, hx, hp, hq]
  · rw [← hl]
    exact R_stay hR hg (fun k e => by injection e with e; subst e; exact ⟨_, hVD, fun _ _ e => by cases e⟩)
theorem grown_set2 (W : World) (k : Nat) (x y : Value) : W.grownBy ((W.setCell ⟨k, 0, none⟩ x).setCell ⟨k, 1, none⟩ y) (some k) := by
  have h := only_grown (set_only W k 0 x)
  have h' := only_grown (set_only (W.setCell ⟨k, 0, none⟩ x) k 1 y)
  exact h.trans h'

set_option maxHeartbeats 4000000 in
set_option maxRecDepth 100000 in
theorem decode_c (A : Option Addr) (c : Nat) (b : List Int) (w : World) (h : ByR w A c b) : Calls Try.prog 25 #[.slice A b.length c] w (DcPost b w) := by
  have HB := Lib.hid h
  have HC := Lib.hid (fun W (hb : Below w.heap.size w W) => open_c A c b W (h.next hb))
  clear h
  cases hh : headS b with
  | inl x =>
    have hx : (x.2 : Int) ≠ 0 := headS_err b x hh
    have hT : toldS b = ([], [], (x.1, (x.2 : Int))) := by unfold toldS; rw [hh]
    have HT := Lib.hid hT
    have d0 : ((x.2 : Int) != 0) = true := by simpa using hx
    have HE : Hid (∀ W e w', OpPost b A c W e w' → e = .returned (.tuple #[.pointer none, .int .i64 x.1, .int .i64 (x.2 : Int)]) ∧ Below W.heap.size W w') := Lib.hid (fun W e w' he => by
      unfold OpPost at he
      rw [hh] at he
      exact he)
    have HX := Lib.hid hx
    obtain ⟨y, hy⟩ : ∃ y : Int, y = (x.2 : Int) := ⟨_, rfl⟩
    rw [← hy] at d0 HE HT HX
    clear hh hx hT hy
    refine (callsIn_wide (n := 5)).1 (callsIn_of_wp_marks Try.func25 rfl trivial ?_ rfl)
    simp only [Try.ntmps25, List.size_toArray, List.length_cons, List.length_nil, Nat.reduceAdd, Nat.reduceSub, Array.replicate_succ, Array.replicate_zero, List.push_toArray, List.append_toArray, List.nil_append, List.cons_append]
    refine (wpIn_wide (n := 5)).2 ?_
    go_wp2_with (first | (go_at_call 41; refine (HC.out _ (below_alloc (Below.refl _ _) _)).mono ?_; intro e w5 he; obtain ⟨rfl, hb5⟩ := HE.out _ e w5 he; clear he; have HB5 := Lib.hid hb5; clear hb5; have H2 := Lib.hid (blk_below (blk_new w _) HB5.out); have c0 := blk_cell H2.out 0; have c1 := blk_cell H2.out 1; have f0 := blk_frozen H2.out 0; have f1 := blk_frozen H2.out 1))
    have h3 := blk_set (blk_set H2.out 0 (.int .i64 0)) 1 (.slice none 0 0)
    refine ⟨_, ret_cert rfl _ w.heap.size h3 rfl, ?_⟩
    have e1 : decL b = 0 := by unfold decL; rw [HT.out]; exact if_neg HX.out
    have e2 : decE b = [] := by unfold decE; rw [HT.out]; exact if_neg HX.out
    refine ⟨.slice none 0 0, ?_, ?_, ?_⟩
    · rw [HT.out, e1]; rfl
    · rw [e2]; exact Kd.R_nil _ _ _ _ _
    · exact ((below_then (below_alloc (Below.refl _ _) _) (by simp) HB5.out).setCell (p := ⟨w.heap.size, 0, none⟩) (Nat.le_refl _) _).setCell (p := ⟨w.heap.size, 1, none⟩) (Nat.le_refl _) _
  | inr x =>
    obtain ⟨L, n⟩ := x
    have hg := headS_ok b HB.out.y (L, n) hh
    have hL : 0 ≤ L ∧ L ≤ 16 := hg.2.1
    have hLg : L = gB b 3 := hg.2.2.1
    have hn : n ≤ 4096 := hg.2.2.2
    have h6 : 6 ≤ b.length := hg.1
    have HE : Hid (∀ W e w', OpPost b A c W e w' → ∃ g, e = .returned (.tuple #[.pointer (some ⟨g, 0, none⟩), .int .i64 0, .int .i64 0]) ∧ W.heap.size ≤ g ∧
      w'.heap[g]? = some (.cells (rdC A c b n ⟨6, -1, n, 0, 0⟩) 37 (0, 0)) ∧ Below W.heap.size W w') := Lib.hid (fun W e w' he => by
      unfold OpPost at he
      rw [hh] at he
      exact he)
    have HT := Lib.hid (show toldS b = toldF b L n 6 (-1) by unfold toldS; rw [hh])
    have HLg := Lib.hid hLg
    clear hh hg hLg
    refine (callsIn_wide (n := 5)).1 (callsIn_of_wp_marks Try.func25 rfl trivial ?_ rfl)
    simp only [Try.ntmps25, List.size_toArray, List.length_cons, List.length_nil, Nat.reduceAdd, Nat.reduceSub, Array.replicate_succ, Array.replicate_zero, List.push_toArray, List.append_toArray, List.nil_append, List.cons_append]
    refine (wpIn_wide (n := 5)).2 ?_
    go_upto_region 4 with (first | (go_at_call 41; refine (HC.out _ (below_alloc (Below.refl _ _) _)).mono ?_; intro e w5 he; obtain ⟨g, rfl, hg1, hg2, hb5⟩ := HE.out _ e w5 he; clear he; have HB5 := Lib.hid hb5; have HG1 := Lib.hid hg1; have HG2 := Lib.hid hg2; clear hb5 hg1 hg2))
    have HR : Hid (RdB w5 g A c b n ⟨6, -1, n, 0, 0⟩) := Lib.hid ⟨HG2.out, (HB.out.next (below_alloc (Below.refl _ _) _)).next HB5.out, h6, h6, by rw [← HLg.out]; exact hL.2⟩
    have HLo := Lib.hid (locals_c g A c b n _ w5 HR.out)
    rw [← HLg.out] at HLo
    go_wp2_with (first | (go_at_call 21; refine HLo.out.mono ?_; rintro e w6 ⟨rfl, hb6⟩; have HB6 := Lib.hid hb6; clear hb6) | (go_at_call 42; refine (all_c g _).mono ?_; rintro e w7 ⟨rfl, rfl⟩))
    rename_i K0 hK0
    have HK0 := Lib.hid hK0
    clear hK0
    have HR6 := Lib.hid (HR.out.next HB6.out)
    obtain ⟨gc, hgc⟩ : ∃ gc, gc = w6.heap.size := ⟨_, rfl⟩
    obtain ⟨Wa, hWa⟩ : ∃ Wa, Wa = w6.alloc (.cells #[.int .i64 L, .slice none 0 0] 24) := ⟨_, rfl⟩
    have hWas : Wa.heap.size = gc + 1 := by rw [hWa, World.size_alloc, hgc]
    obtain ⟨W0, hW0⟩ : ∃ W0, W0 = Wa.alloc (.cells #[.pointer (some ⟨g, 0, none⟩)] 35) := ⟨_, rfl⟩
    have hW0s : W0.heap.size = gc + 2 := by rw [hW0, World.size_alloc, hWas]
    have hba : Below w6.heap.size w6 Wa := by rw [hWa]; exact below_alloc (Below.refl _ _) _
    have hb0 : Below Wa.heap.size Wa W0 := by rw [hW0]; exact below_alloc (Below.refl _ _) _
    have hca : Wa.heap[gc]? = some (.cells #[.int .i64 L, .slice none 0 0] 24 (0, 0)) := by rw [hWa, hgc]; exact blk_new _ _
    have hc0 := blk_below hca hb0
    have hbx : W0.heap[gc + 1]? = some (.cells #[.pointer (some ⟨g, 0, none⟩)] 35 (0, 0)) := by rw [hW0, ← hWas]; exact blk_new _ _
    have hrd0 := (HR6.out.next hba).next hb0
    have hbw : Below w.heap.size w w5 := below_then (below_alloc (Below.refl _ _) _) (by simp) HB5.out
    have hbw6 := below_then hbw hbw.size HB6.out
    have hbwa := below_then hbw6 hbw6.size hba
    have hbw0 := below_then hbwa hbwa.size hb0
    have h2a := blk_below (blk_below (blk_below (blk_below (blk_new w (.cells #[.int .i64 0, .slice none 0 0] 24)) HB5.out) HB6.out) hba) hb0
    have hgw : w.heap.size + 1 ≤ g := by have := HG1.out; simpa using this
    have hg6 : g < gc := by have := blk_lt HR6.out.a; omega
    have hgc0 : w.heap.size < gc := by omega
    rw [← hWa, ← hW0, ← hgc]
    have HI0 : Hid (DcI w g gc L [] W0) := Lib.hid ⟨h2a, ⟨_, hc0, Kd.R_nil _ _ _ _ _⟩, ⟨_, hrd0.a⟩, hbw0⟩
    have HRd0 := Lib.hid hrd0
    have HBx := Lib.hid hbx
    have hAb : ∀ ad, A = some ad → ad.block < w.heap.size := fun ad e => by
      obtain ⟨ad', e', hc⟩ := HB.out.cell 0 (by omega)
      cases e.symm.trans e'
      have hz : ad.add 0 = ad := by simp [Addr.add]
      rw [hz] at hc
      exact World.block_lt_of_cell? w _ hc
    have HAb := Lib.hid hAb
    clear hWa hW0 hgc hba hb0 hca hc0 hbx hrd0 hbw hbw6 hbwa hbw0 h2a hWas hAb HR6 HR HLo HB6 HG2 HG1 HB5 HE HC
    have hlb : #[Value.pointer (some { block := gc + 1, off := 0 })] = #[Value.pointer (some { block := gc + 1, off := 0 })] := rfl
    refine (wpIn_wide (n := 5)).1 ?_
    refine rangeFunc_on (F := Fence.wide) (n := 5) (gf := 48) (lb := #[.pointer (some ⟨gc + 1, 0, none⟩)]) rfl (by decide) rfl trivial (enters_of Try.func48 (by kernel_rfl) rfl) (encs := fun x : EnW => #[.agg (enC x.1).toArray]) (T := WrT g) (Kp := KpB w.heap.size) (E := ItEnd g A c b n L) (N := 4096)
      (fun l J W hW hJ hY h0 => callsIn_wide.2 (iter_c l 4 w.heap.size g (gc + 1) A c b n L J W HAb.out (by omega) hn HLg.out hJ hY ⟨h0, HRd0.out.next hW, blk_below HBx.out hW⟩))
      (fun {X Y} ht k hk1 hk2 => by obtain ⟨cs, hn⟩ := ht; exact hn.but.block k hk2 (fun e => by injection e with e; omega))
      KpB.trans (KpB.put (by omega)) itEnd_own (fun _ => rfl)
      (DcI w g gc L) (dcI_own (by omega)) (fun s X Y hs ht => dcI_wr (by omega) hs ht) HI0.out
      (fun x a' W => ∃ k9, W.heap[k9]? = some (.cells (enC x.1).toArray 44 (0, 0)) ∧ a' = { tmps := #[.slice A b.length c, undef, .pointer (some ⟨w.heap.size, 0, none⟩), .int .i64 0, .int .i64 0, .pointer (some ⟨g, 0, none⟩), .int .i64 0, .int .i64 0, .pointer (some ⟨gc, 0, none⟩), .pointer (some ⟨k9, 0, none⟩), .tuple #[.pointer (some ⟨g, 0, none⟩), .int .i64 0, .int .i64 0], .slice A b.length c, .tuple #[.pointer (some ⟨g, 0, none⟩), .int .i64 0, .int .i64 0], .pointer (some ⟨g, 0, none⟩), .int .i64 0, .int .i64 0, .int .i64 0, .bool false, undef, undef, undef, .pointer (some ⟨g, 0, none⟩), .int .i64 L, .agg #[.int .i64 L, .slice none 0 0], .pointer (some ⟨g, 0, none⟩), .func (.func 48) #[] #[.pointer (some ⟨gc + 1, 0, none⟩)], .agg (enC x.1).toArray, undef, undef, undef, undef, undef, undef, undef, undef, undef, undef, undef, undef, undef, undef, undef, undef, undef, undef, undef, undef, undef], defers := [] })
      (fun x a' _ X Y row hs hg hrow => by
        obtain ⟨k9, h1, h2⟩ := hs
        refine ⟨k9, (hg.block _ (blk_lt h1) (fun e => ?_)).trans h1, h2⟩
        obtain ⟨_, o, ho, hc⟩ := hrow k9 e.symm
        rw [h1] at ho
        cases ho
        cases hc)
      ?assign ?body ?done
    case assign =>
      intro l pre x W K hi hK
      have HK := Lib.hid hK
      have HI := Lib.hid hi
      clear hK hi hlb
      refine regionIn_any (ro := some l) (by rintro ⟨_, _, h⟩; exact h) (by intro o ho c hc; simp at ho; rcases ho with rfl | rfl <;> cases hc) ?_
      simp
      go_wp2_with (first | ((with_reducible refine gate_dst (N := 9) rfl ?_); refine wpList_alloc_box rfl rfl ?_; intro W6 hW6 hbe6 hs6) | ((with_reducible refine gate_store (t := 44) (p := 9) rfl ?_); refine wpList_store_box rfl (.tmp 9) (.tmp 26) rfl W.heap.size hW6 fr0_wf x.1 x.2 rfl rfl ?_; intro W7 hW7 ho7))
      have hb7 := below_only hbe6 ho7 (Nat.le_refl _)
      exact HK.out _ W7 ⟨hb7.size, fun k o _ hk _ => blk_below hk hb7⟩ ⟨hb7.size, fun k o hk _ => blk_below hk hb7⟩ (HI.out.below' hb7) ⟨W.heap.size, hW7, rfl⟩
    case body =>
      rintro l pre x a' W hi ⟨k9, hk9, rfl⟩ hlt
      have HI := Lib.hid hi
      have H9 := Lib.hid hk9
      clear hi hk9 hlb
      refine wpIn_block (regionIn_any (ro := some l) (by rintro ⟨_, _, h⟩; exact h) (by intro o ho c hc; simp at ho; rcases ho with rfl | rfl | rfl | rfl | rfl | rfl | rfl <;> cases hc) ?_)
      obtain ⟨v, hcc, hrr⟩ := HI.out.c
      have kc1 := blk_cell hcc 1
      have HCC := Lib.hid hcc
      have HRR := Lib.hid hrr
      have hlen : (pre.map (·.1)).length < 4096 := by simpa using hlt
      obtain ⟨m0, hm0⟩ : ∃ m0, m0 = pre.map (·.1) := ⟨_, rfl⟩
      rw [← hm0] at HRR hlen
      have HM := Lib.hid hm0
      clear hcc hrr hm0
      go_wp2_with (first | ((with_reducible refine gate_dst (N := 29) rfl ?_); refine wpList_load_any rfl 44 (.tmp 9) rfl ⟨k9, 0, none⟩ rfl (enC x.1) _ (rng_of (range_blk H9.out)) Try.underlying44 rfl (by rw [enC_len x.2]; kernel_rfl) ?_) | ((with_reducible refine gate_dst (N := 30) rfl ?_); refine wpList_bs44 rfl (.tmp 29) rfl x.1 x.2 rfl ?_; intro W8 hW8 hb8 hs8) | ((with_reducible refine gate_dst (N := 31) rfl ?_); at_builtin; refine Kd.R_append_rows kEn (w0 := w) w.heap.size rfl (.tmp 28) (.tmp 30) 22 44 (enV en0) 56 rfl Try.underlying22 info44 rfl (by decide) (by omega) v m0 [x.1] (some ⟨W.heap.size, 0, none⟩) 1 1 (fun _ => True) (fun _ => False) rfl rfl (Kd.R_below HRR.out hb8) (C_one44 hW8 x.2) (fun _ _ h => h) (fun _ h => h.elim) (fun _ _ => trivial) (below_then HI.out.below HI.out.below.size hb8) (Nat.le_trans HI.out.below.size hb8.size) (by omega) ?_; intro v1 w1 ho hb hg _; obtain ⟨g9, cap9, rfl, _, _, _⟩ := Kd.R_form ho (by simp); have hcg := (hg.block _ (blk_lt (blk_below HCC.out hb8)) (Kd.R_ne (Kd.R_below HRR.out hb8) (blk_below HCC.out hb8) (by decide))).trans (blk_below HCC.out hb8); have HO := Lib.hid ho; have HBn := Lib.hid hb; have HGn := Lib.hid hg; have HB8 := Lib.hid hb8; have q1 := blk_cell hcg 1; have q2 := blk_frozen hcg 1; clear hcg ho hb hg hW8 hb8 kc1))
      have hK := body_keeps HB8.out (Kd.R_below HRR.out HB8.out) HGn.out (blk_below HCC.out HB8.out) (by omega) (.slice (some ⟨g9, 0, none⟩) (m0.length + 1) cap9)
      have hsz : W.heap.size ≤ (w1.setCell ⟨gc, 1, none⟩ (.slice (some ⟨g9, 0, none⟩) (m0.length + 1) cap9)).heap.size := by
        have h1 := HB8.out.size
        have h2 := HGn.out.size
        have h3 := (set_only w1 gc 1 (.slice (some ⟨g9, 0, none⟩) (m0.length + 1) cap9)).size
        omega
      have hO := HO.out
      rw [List.length_append, List.length_singleton] at hO
      have hM := HM.out
      subst hM
      exact ⟨⟨hsz, fun k o _ hk hc => hK k o hk (.inr (.inl hc))⟩, ⟨hsz, fun k o hk hx => hK k o hk (hx.elim .inl (fun h => .inr (.inr h)))⟩, body_I (by omega) (by omega) (HI.out.below' HB8.out) (blk_below HCC.out HB8.out) (Kd.R_below HRR.out HB8.out) hO HBn.out HGn.out⟩
    case done =>
      intro D xs W hD hi hE hK
      obtain ⟨v, hcc, hrr⟩ := hi.c
      obtain ⟨r, es, x0, hrd, htold, he1, he2, he3⟩ := hE
      obtain ⟨k0, k1, k2, k3, k4, k5, k6, k7⟩ := hrd.cells (Below.refl _ _)
      obtain ⟨Av, cv, rfl, hcv, _⟩ := Kd.R_reads hrr
      have q0 := blk_cell hcc 0
      have q1 := blk_cell hcc 1
      have HTs : Hid (toldS b = (xs.map (·.1), es, x0)) := Lib.hid (HT.out.trans htold)
      have HI := Lib.hid hi
      have HD := Lib.hid hK
      have HCC := Lib.hid hcc
      have HRR := Lib.hid hrr
      have HE23 := Lib.hid (And.intro he2 he3)
      have h2 := hi.t2
      have c0 := blk_cell h2 0
      have c1 := blk_cell h2 1
      have f0 := blk_frozen h2 0
      have f1 := blk_frozen h2 1
      rw [he1] at k6
      clear hK hi hcc hrr hrd htold he1 he2 he3 k0 k1 k2 k3 k4 k7 HB HRd0 HBx HAb HI0 hlb
      refine HK0.out _ _ ?_
      clear HK0
      dsimp only
      by_cases hx : x0.2 = 0
      · have d0 : (x0.2 != 0) = false := by simpa using hx
        go_wp2
        have hg2 := grown_set2 W w.heap.size (.int .i64 L) (.slice Av xs.length cv)
        have hz : (toldS b).2.2.2 = 0 := by rw [HTs.out]; exact hx
        refine dec_fin (x := .int .i64 L) (v := .slice Av xs.length cv) (l := xs.map (·.1)) (p := 0) (q := 0) (blk_set (blk_set HI.out.t2 0 (.int .i64 L)) 1 (.slice Av xs.length cv)) ((hg2.block _ (blk_lt HD.out) (fun e => ?_)).trans HD.out) (by omega) ((HI.out.below.setCell (p := ⟨w.heap.size, 0, none⟩) (Nat.le_refl _) _).setCell (p := ⟨w.heap.size, 1, none⟩) (Nat.le_refl _) _)
          ?_ rfl rfl rfl ?_ ?_ ?_ ?_
        · injection e with e
          omega
        · have hr := R_stay HRR.out hg2 (fun k e => by injection e with e; subst e; exact ⟨_, HI.out.t2, fun _ _ e => by cases e⟩)
          rw [List.length_map] at hr
          exact hr
        · unfold decL; rw [if_pos hz, HLg.out]
        · unfold decE; rw [if_pos hz, HTs.out]
        · rw [HTs.out]; exact (HE23.out.2 hx).symm
        · exact hz.symm
      · have d0 : (x0.2 != 0) = true := by simpa using hx
        go_upto_region 9 with (fail)
        go_region
        go_wp2
        have hg2 := grown_set2 W w.heap.size (.int .i64 0) (.slice none 0 0)
        have hz : ¬ (toldS b).2.2.2 = 0 := by rw [HTs.out]; exact hx
        refine dec_fin (x := .int .i64 0) (v := .slice none 0 0) (l := []) (p := r.fault) (q := x0.2) (blk_set (blk_set HI.out.t2 0 (.int .i64 0)) 1 (.slice none 0 0)) ((hg2.block _ (blk_lt HD.out) (fun e => ?_)).trans HD.out) (by omega) (below_drew ((HI.out.below.setCell (p := ⟨w.heap.size, 0, none⟩) (Nat.le_refl _) _).setCell (p := ⟨w.heap.size, 1, none⟩) (Nat.le_refl _) _))
          (Kd.R_nil _ _ _ _ _) rfl rfl rfl ?_ ?_ ?_ ?_
        · injection e with e
          omega
        · unfold decL; rw [if_neg hz]
        · unfold decE; rw [if_neg hz]
        · rw [HTs.out]; exact HE23.out.1 hx
        · rw [HTs.out]
end Go.Proofs.Ytfbdnfokoakfaaa.Ct
namespace Go.Proofs.Ytfbdnfokoakfaaa.Ct
open Go.RowKit Go.Proofs.YtfbdnfokoakfaaaW.PrintWords Go.Proofs.YtfbdnfokoakfaaaW.PrintLast Go.Proofs.YtfbdnfokoakfaaaW.PrintMore
set_option linter.unusedVariables false
set_option linter.unusedSimpArgs false

theorem told_ok (b : List Int) (h : (toldS b).2.2.2 = 0) : ∃ L n, headS b = .inr (L, n) ∧ (toldS b).2.2.1 = 0 := by
  cases hh : headS b with
  | inl x =>
    exfalso
    have : toldS b = ([], [], (x.1, (x.2 : Int))) := by unfold toldS; rw [hh]
    rw [this] at h
    exact headS_err b x hh h
  | inr x =>
    obtain ⟨L, n⟩ := x
    refine ⟨L, n, rfl, ?_⟩
    have ht : toldS b = toldF b L n 6 (-1) := by unfold toldS; rw [hh]
    rw [ht] at h ⊢
    clear ht hh
    have : ∀ (n p : Nat) (last : Int), (toldF b L n p last).2.2.2 = 0 → (toldF b L n p last).2.2.1 = 0 := by
      intro n
      induction n with
      | zero =>
        intro p last h
        rw [toldF] at h ⊢
        by_cases c : p < b.length
        · rw [if_pos c] at h; cases h
        · rw [if_neg c]
      | succ n ih =>
        intro p last h
        rw [toldF] at h ⊢
        cases ho : oneS b L p last with
        | inl x => rw [ho] at h; exact absurd h (oneS_err b L p last x ho)
        | inr x => rw [ho] at h; exact ih _ _ h
    exact this _ _ _ h

set_option maxHeartbeats 2000000 in
set_option maxRecDepth 100000 in
theorem rdecode_c (A : Option Addr) (c : Nat) (b : List Int) (w : World) (h : ByR w A c b) : Calls Try.prog 30 #[.slice A b.length c] w (DcPost b w) := by
  have HB := Lib.hid h
  have HC := Lib.hid (fun W (hb : Below w.heap.size w W) => told_c A c b W (h.next hb))
  have hl48 := h.l
  have HTo := Lib.hid (told_ok b)
  have HHd := Lib.hid (fun x hx => headS_ok b h.y x hx)
  clear h
  by_cases hz : (toldS b).2.2.2 = 0
  · obtain ⟨L, n, hh, hp⟩ := HTo.out hz
    have h6 := (HHd.out _ hh).1
    obtain ⟨ad, rfl, hx⟩ := HB.out.cell 3 (by omega)
    have r3 := gB_range b HB.out.y 3
    have e1 : decL b = gB b 3 := by unfold decL; rw [if_pos hz]
    have e2 : decE b = (toldS b).1 := by unfold decE; rw [if_pos hz]
    have HE : Hid (∀ W e w', TdPost b W e w' → ∃ A10 c10 v11, e = .returned (.tuple #[.slice A10 (decE b).length c10, v11, .int .i64 0, .int .i64 0]) ∧ Kd.R kEn 44 w' W.heap.size (fun _ => True) (.slice A10 (decE b).length c10) (decE b) ∧ Below W.heap.size W w') := Lib.hid (fun W e w' he => by
      obtain ⟨v10, v11, he, h1, h2, h3⟩ := he
      rw [e2]
      obtain ⟨A10, c10, rfl, _, _⟩ := Kd.R_reads h1
      exact ⟨A10, c10, v11, by rw [he, hp, hz], h1, h3⟩)
    have HL := Lib.hid e1
    have HZ := Lib.hid (And.intro hp hz)
    obtain ⟨M, hM⟩ : ∃ M, M = gB b 3 := ⟨_, rfl⟩
    have HX := Lib.hid (fun W (hb : Below w.heap.size w W) => show W.cell? (ad.add 3) = some (.int .u8 M) by rw [hM]; exact (hb.cell (World.block_lt_of_cell? w _ hx)).trans hx)
    rw [← hM] at r3 HL
    have d9 : decide ((3 : Int) < (b.length : Int)) = true := decide_eq_true (by omega)
    clear hz hh hp hx e1 e2 hM HTo HHd
    go_enter Try.func30, Try.ntmps30
    go_wp2_with (first | (go_at_call 28; refine (HC.out _ (below_alloc (Below.refl _ _) _)).mono ?_; intro e w5 he; obtain ⟨A10, c10, v11, rfl, hr5, hb5⟩ := HE.out _ e w5 he; clear he; have HR5 := Lib.hid hr5; have HB5 := Lib.hid hb5; have H2 := Lib.hid (blk_below (blk_new w _) HB5.out); have c0 := blk_cell H2.out 0; have c1 := blk_cell H2.out 1; have f0 := blk_frozen H2.out 0; have f1 := blk_frozen H2.out 1; have hx := HX.out w5 (below_then (below_alloc (Below.refl _ _) _) (by simp) hb5); simp only [Addr.add, show ¬ (3 : Nat) = 0 by decide, if_false] at hx; clear hr5 hb5))
    have h3 := blk_set (blk_set H2.out 0 (.int .i64 M)) 1 (.slice A10 (decE b).length c10)
    refine bodyPost_ret (ret_cert rfl _ w.heap.size h3 rfl) rfl ?_
    have hg2 := grown_set2 w5 w.heap.size (.int .i64 M) (.slice A10 (decE b).length c10)
    refine ⟨.slice A10 (decE b).length c10, ?_, ?_, ?_⟩
    · rw [HZ.out.1, HZ.out.2, HL.out]; rfl
    · exact Kd.R_lower (R_stay HR5.out hg2 (fun k e => by injection e with e; subst e; exact ⟨_, H2.out, fun _ _ e => by cases e⟩)) (by simp)
    · exact ((below_then (below_alloc (Below.refl _ _) _) (by simp) HB5.out).setCell (p := ⟨w.heap.size, 0, none⟩) (Nat.le_refl _) _).setCell (p := ⟨w.heap.size, 1, none⟩) (Nat.le_refl _) _
  · have e1 : decL b = 0 := by unfold decL; rw [if_neg hz]
    have e2 : decE b = [] := by unfold decE; rw [if_neg hz]
    obtain ⟨p, hp⟩ : ∃ p, p = (toldS b).2.2.1 := ⟨_, rfl⟩
    obtain ⟨q, hq⟩ : ∃ q, q = (toldS b).2.2.2 := ⟨_, rfl⟩
    rw [← hq] at hz
    have d0 : (q != 0) = true := by simpa using hz
    have HE : Hid (∀ W e w', TdPost b W e w' → ∃ v10 v11, e = .returned (.tuple #[v10, v11, .int .i64 p, .int .i64 q]) ∧ Below W.heap.size W w') := Lib.hid (fun W e w' he => by
      obtain ⟨v10, v11, he, h1, h2, h3⟩ := he
      exact ⟨v10, v11, by rw [he, hp, hq], h3⟩)
    have HZ := Lib.hid (And.intro hp hq)
    have HL := Lib.hid (And.intro e1 e2)
    clear hz e1 e2 hp hq HTo HHd
    go_enter Try.func30, Try.ntmps30
    go_wp2_with (first | (go_at_call 28; refine (HC.out _ (below_alloc (Below.refl _ _) _)).mono ?_; intro e w5 he; obtain ⟨v10, v11, rfl, hb5⟩ := HE.out _ e w5 he; clear he; have HB5 := Lib.hid hb5; have H2 := Lib.hid (blk_below (blk_new w _) HB5.out); have c0 := blk_cell H2.out 0; have c1 := blk_cell H2.out 1; have f0 := blk_frozen H2.out 0; have f1 := blk_frozen H2.out 1; clear hb5))
    have h3 := blk_set (blk_set H2.out 0 (.int .i64 0)) 1 (.slice none 0 0)
    refine bodyPost_ret (ret_cert rfl _ w.heap.size h3 rfl) rfl ?_
    refine ⟨.slice none 0 0, ?_, ?_, ?_⟩
    · rw [← HZ.out.1, ← HZ.out.2, HL.out.1]; rfl
    · rw [HL.out.2]; exact Kd.R_nil _ _ _ _ _
    · exact ((below_then (below_alloc (Below.refl _ _) _) (by simp) HB5.out).setCell (p := ⟨w.heap.size, 0, none⟩) (Nat.le_refl _) _).setCell (p := ⟨w.heap.size, 1, none⟩) (Nat.le_refl _) _
end Go.Proofs.Ytfbdnfokoakfaaa.Ct
