/- What the reader's iterator keeps and how it leaves: plain words. The reader's iterator: its walk. -/
import Derived.Test.YtfbdnfokoakfaaaReadsP
import Derived.Test.YtfbdnfokoakfaaaNoneLaw
import Derived.Test.YtfbdnfokoakfaaaListIn
namespace Go.Proofs.Ytfbdnfokoakfaaa.Ct
open Go.RowKit Go.Proofs.YtfbdnfokoakfaaaW.PrintWords Go.Proofs.YtfbdnfokoakfaaaW.PrintLast Go.Proofs.YtfbdnfokoakfaaaW.PrintMore
set_option linter.unusedVariables false
set_option linter.unusedSimpArgs false

theorem told_end2 (b : List Int) (L : Int) (r : RdS) (es : List Int) (x : Int × Int) (he : r.e = 0) (h : toldF b L r.left r.at_ r.last = ([], es, x)) :
    ∃ r', nextS b L r = ((en0, false, x.2), r') ∧ r'.at_ = r.at_ ∧ r'.e = x.2 ∧ (x.2 ≠ 0 → r'.fault = x.1) ∧ (x.2 = 0 → x.1 = 0) := by
  cases hm : r.left with
  | zero =>
    rw [hm, toldF] at h
    by_cases c : r.at_ < b.length
    · rw [if_pos c] at h
      obtain rfl : x = ((r.at_ : Int), 3) := by
        have := congrArg (fun t => t.2.2) h
        exact this.symm
      exact ⟨_, nextS_a he hm c, rfl, rfl, fun _ => rfl, fun h => by cases h⟩
    · rw [if_neg c] at h
      obtain rfl : x = (0, 0) := by
        have := congrArg (fun t => t.2.2) h
        exact this.symm
      exact ⟨_, nextS_b he hm c, rfl, he, fun h => absurd rfl h, fun _ => rfl⟩
  | succ m =>
    rw [hm, toldF] at h
    cases ho : oneS b L r.at_ r.last with
    | inl y =>
      rw [ho] at h
      obtain rfl : x = y := by
        have := congrArg (fun t => t.2.2) h
        exact this.symm
      exact ⟨_, nextS_inl he (by omega) ho, rfl, rfl, fun _ => rfl, fun h => absurd h (oneS_err b L _ _ _ ho)⟩
    | inr y =>
      rw [ho] at h
      have := congrArg (fun t => t.1) h
      cases this

abbrev EnW := { x : En // x.fr.wf }
/-- What the iterator does between two rounds. -/
def WrT (g : Nat) (A B : World) : Prop := ∃ cs, Nx A g B cs
/-- What a round keeps for it. -/
structure KpB (B0 : Nat) (A B : World) : Prop where
  size : A.heap.size ≤ B.heap.size
  same : ∀ (k : Nat) (o : Obj), A.heap[k]? = some o → (k < B0 ∨ ∃ cs t f, o = .cells cs t f ∧ t ≠ 44 ∧ t ≠ 24) → B.heap[k]? = some o
theorem KpB.trans {B0 : Nat} {A B C : World} (h : KpB B0 A B) (k : KpB B0 B C) : KpB B0 A C := ⟨Nat.le_trans h.size k.size, fun i o hi ho => k.same i o (h.same i o hi ho) ho⟩
theorem KpB.put {B0 B : Nat} (hB : B0 ≤ B) (W : World) (l : Nat) (o o' : Obj) (hl : B ≤ l) (h : W.heap[l]? = some o) (hc : o.isCells = false) : KpB B0 W (W.putObj l o') := by
  have hg := grownBy_putObj' W l o'
  refine ⟨hg.size, fun k x hk hx => ?_⟩
  by_cases e : k = l
  · subst e
    rw [h] at hk
    cases hk
    rcases hx with hx | ⟨cs, t, f, rfl, _⟩
    · omega
    · cases hc
  · exact (hg.block k (Array.getElem?_eq_some_iff.1 hk).1 (by intro e1; injection e1 with e1; exact e e1)).trans hk
theorem RdB.keep {W W1 : World} {g : Nat} {A : Option Addr} {c : Nat} {b : List Int} {n : Nat} {r : RdS} (h : RdB W g A c b n r) (hg : W1.heap[g]? = W.heap[g]?) (hA : ∀ ad, A = some ad → W1.heap[ad.block]? = W.heap[ad.block]?) : RdB W1 g A c b n r :=
  ⟨hg.trans h.a, ⟨C_keep h.y.r (fun ad e _ => hA ad e), h.y.c, h.y.y, h.y.l⟩, h.p, h.six, h.L⟩
theorem RdB.kp {W W1 : World} {g : Nat} {A : Option Addr} {c : Nat} {b : List Int} {n : Nat} {r : RdS} {B0 : Nat} (h : RdB W g A c b n r) (hA : ∀ ad, A = some ad → ad.block < B0) (hk : KpB B0 W W1) : RdB W1 g A c b n r := by
  refine h.keep ((hk.same g _ h.a (.inr ⟨_, _, _, rfl, by decide, by decide⟩)).trans h.a.symm) (fun ad e => ?_)
  have h1 := (h.else ad e).2
  have h2 : W.heap[ad.block]? = some W.heap[ad.block] := by simp [h1]
  exact (hk.same _ _ h2 (.inl (hA ad e))).trans h2.symm
/-- A cell's block is a block of cells. -/
theorem RdB.cells_at {W : World} {g : Nat} {A : Option Addr} {c : Nat} {b : List Int} {n : Nat} {r : RdS} (h : RdB W g A c b n r) (ad : Addr) (e : A = some ad) : ∃ o, W.heap[ad.block]? = some o ∧ o.isCells = true := by
  have h6 := h.six
  obtain ⟨ad', e', hc⟩ := h.y.cell 0 (by omega)
  cases e.symm.trans e'
  have hz : ad.add 0 = ad := by simp [Addr.add]
  rw [hz] at hc
  have h2 := World.block_lt_of_cell? W _ hc
  have h3 : W.heap[ad.block]? = some W.heap[ad.block] := by simp [h2]
  refine ⟨_, h3, ?_⟩
  unfold World.cell? at hc
  rw [h3] at hc
  cases ho : W.heap[ad.block] with
  | cells _ _ _ => rfl
  | _ => rw [ho] at hc; simp at hc
/-- How the iterator leaves. -/
def ItEnd (g : Nat) (A : Option Addr) (c : Nat) (b : List Int) (n : Nat) (L : Int) (xs : List EnW) (W : World) : Prop :=
  ∃ (r : RdS) (es : List Int) (x : Int × Int), RdB W g A c b n r ∧ toldF b L n 6 (-1) = (xs.map (·.1), es, x) ∧ r.e = x.2 ∧ (x.2 ≠ 0 → r.fault = x.1) ∧ (x.2 = 0 → x.1 = 0)
theorem itEnd_own {B g : Nat} {A : Option Addr} {c : Nat} {b : List Int} {n : Nat} {L : Int} : OwnFrom B (ItEnd g A c b n L) := by
  rintro xs W W' row ⟨r, es, x, hr, h2⟩ hg hrow
  refine ⟨r, es, x, hr.keep (hg.block g (blk_lt hr.a) (fun e => ?_)) (fun ad e => hg.block _ (hr.else ad e).2 (fun e1 => ?_)), h2⟩
  · obtain ⟨_, o, ho, hc⟩ := hrow g e.symm
    rw [hr.a] at ho
    cases ho
    cases hc
  · obtain ⟨_, o, ho, hc⟩ := hrow _ e1.symm
    obtain ⟨o', ho', hc'⟩ := hr.cells_at ad e
    rw [ho'] at ho
    cases ho
    rw [hc'] at hc
    cases hc
end Go.Proofs.Ytfbdnfokoakfaaa.Ct
namespace Go.Proofs.Ytfbdnfokoakfaaa.Ct
open Go.RowKit Go.Proofs.YtfbdnfokoakfaaaW.PrintWords Go.Proofs.YtfbdnfokoakfaaaW.PrintLast Go.Proofs.YtfbdnfokoakfaaaW.PrintMore
set_option linter.unusedVariables false
set_option linter.unusedSimpArgs false

def ItPost (J : List EnW → World → Prop) (g : Nat) (A : Option Addr) (c : Nat) (b : List Int) (n : Nat) (L : Int) (e : Ending) (W' : World) : Prop :=
  (∃ v, e = .returned v) ∧ ∃ xs, J xs W' ∧ ItEnd g A c b n L xs W'
structure ItSt (J : List EnW → World → Prop) (W : World) (g Bn : Nat) (A : Option Addr) (c : Nat) (b : List Int) (n : Nat) (r : RdS) (pre : List EnW) : Prop where
  j : J pre W
  rd : RdB W g A c b n r
  bx : W.heap[Bn]? = some (.cells #[.pointer (some ⟨g, 0, none⟩)] 35 (0, 0))

set_option maxHeartbeats 4000000 in
set_option maxRecDepth 100000 in
theorem iter_c (l m B0 g Bn : Nat) (A : Option Addr) (c : Nat) (b : List Int) (n : Nat) (L : Int) (J : List EnW → World → Prop) (W : World)
    (hA : ∀ ad, A = some ad → ad.block < B0) (hne : Bn ≠ g) (hn : n ≤ 4096) (hL : L = gB b 3)
    (hJ : ∀ s A B, J s A → WrT g A B → J s B)
    (hY : ∀ pre (x : EnW) W1, J pre W1 → pre.length < 4096 → YieldAt Fence.wide (m - 1) Try.prog l #[.agg (enC x.1).toArray] W1 fun e W' => e = .returned (.bool true) ∧ J (pre ++ [x]) W' ∧ KpB B0 W1 W')
    (h0 : ItSt J W g Bn A c b n ⟨6, -1, n, 0, 0⟩ []) :
    Calls Try.prog 48 #[.func (.yield l) #[] #[], .pointer (some ⟨Bn, 0, none⟩)] W (ItPost J g A c b n L) := by
  obtain ⟨l0, es0, x0, hto⟩ : ∃ l0 es0 x0, toldF b L n 6 (-1) = (l0, es0, x0) := ⟨_, _, _, rfl⟩
  have hlen := told_len b L n 6 (-1)
  rw [hto] at hlen
  have hl0 : l0.length ≤ 4096 := Nat.le_trans hlen.2 hn
  have H0 := Lib.hid h0
  have HTo := Lib.hid hto
  have HJ := Lib.hid hJ
  have HY := Lib.hid hY
  have HA := Lib.hid hA
  have HL := Lib.hid hL
  have HNe := Lib.hid hne
  clear h0 hto hJ hY hlen hA hL hne
  go_enter Try.func48, Try.ntmps48
  go_wp2
  go_loopg [] (n + 1) (fun k wr => ∃ (pre : List EnW) (r : RdS) (rest : List En) (es : List Int), r.left + 1 = k ∧ r.left ≤ n ∧ Hid (ItSt J wr g Bn A c b n r pre) ∧ Hid (r.e = 0 ∧ l0 = pre.map (·.1) ++ rest ∧ toldF b L r.left r.at_ r.last = (rest, es, x0)))
  case atStart => exact ⟨[], _, l0, es0, rfl, Nat.le_refl _, H0, Lib.hid ⟨rfl, rfl, HTo.out⟩⟩
  case round =>
    obtain ⟨pre, r, rest, es, hk, hln, St, HT⟩ := hrel
    have hbx : wr.cell? ⟨Bn, 0, none⟩ = some (.pointer (some ⟨g, 0, none⟩)) := blk_cell St.out.bx 0
    obtain ⟨k, rfl⟩ : ∃ k, gk = k + 1 := ⟨gk - 1, by omega⟩
    have HN := Lib.hid (next_c g A c b n r wr St.out.rd (by omega))
    cases rest with
    | nil =>
      obtain ⟨he, hpre, htf⟩ := HT.out
      obtain ⟨r', hn1, hn2, hn3, hn4, hn5⟩ := told_end2 b L r es x0 he htf
      have HE : Hid (∀ e w', NxPost wr g A c b n r e w' → e = .returned (.tuple #[.agg (enC en0).toArray, .bool false, .int .i64 x0.2]) ∧ Nx wr g w' (rdC A c b n r')) := Lib.hid (fun e w' he => by
        unfold NxPost at he
        rw [← HL.out, hn1] at he
        exact he)
      have HR := Lib.hid (And.intro hn2 (And.intro hn3 (And.intro hn4 hn5)))
      have HP := Lib.hid hpre
      clear hn1 hn2 hn3 hn4 hn5 he hpre htf HT
      go_wp2_with (first | (go_at_call 20; refine HN.out.mono ?_; intro e w8 he; obtain ⟨rfl, hnx⟩ := HE.out e w8 he; clear he; have HNX := Lib.hid hnx; clear hnx) | ((with_reducible refine gate_dst (N := 3) rfl ?_); refine wpList_alloc_box rfl rfl ?_; intro W6 hW6 hbe6 hs6) | ((with_reducible refine gate_store (t := 44) (p := 3) rfl ?_); refine wpList_store_box rfl (.tmp 3) (.tmp 9) rfl w8.heap.size hW6 fr0_wf en0 fr0_wf rfl rfl ?_; intro W7 hW7 ho7))
      refine bodyPost_ret (results_none rfl _ _ _) rfl ?_
      have hgw := blk_lt St.out.rd.a
      have hsz := HNX.out.but.size
      have hnx7 : Nx wr g W7 (rdC A c b n r') := (HNX.out.below hbe6).only ho7 hsz hgw
      exact ⟨⟨_, rfl⟩, pre, HJ.out _ _ _ St.out.j ⟨_, hnx7⟩, r', es0, x0, St.out.rd.after hnx7 (by rw [HR.out.1]; exact St.out.rd.p), by rw [HTo.out, HP.out]; simp, HR.out.2.1, HR.out.2.2.1, HR.out.2.2.2⟩
    | cons y rest =>
      obtain ⟨he, hpre, htf⟩ := HT.out
      obtain ⟨q, es', hes, hone, hnx1, htl⟩ := told_more b L r _ _ _ _ he htf
      have hLb : 0 ≤ L := by rw [HL.out]; exact (gB_range b St.out.rd.y.y 3).1
      have hnext := oneS_next b L r.at_ r.last _ q hLb St.out.rd.y.y hone
      have hqb := hnext.2.1
      have hwf := hnext.2.2
      have HE : Hid (∀ e w', NxPost wr g A c b n r e w' → e = .returned (.tuple #[.agg (enC y).toArray, .bool true, .int .i64 0]) ∧ Nx wr g w' (rdC A c b n { r with at_ := q, last := y.at_, left := r.left - 1 })) := Lib.hid (fun e w' he => by
        unfold NxPost at he
        rw [← HL.out, hnx1] at he
        exact he)
      have HW := Lib.hid hwf
      have HTn := Lib.hid htl
      have HE0 := Lib.hid he
      have HP := Lib.hid hpre
      have hleft : 0 < r.left := by
        rcases Nat.eq_zero_or_pos r.left with h | h
        · rw [h, toldF] at htf
          have := congrArg (fun t => t.1) htf
          cases this
        · exact h
      have hpl : pre.length < 4096 := by
        have := congrArg List.length hpre
        simp at this
        omega
      clear hes hone hnext hnx1 htl htf he hpre hwf HT
      go_upto_region 1 with (first | (go_at_call 20; refine HN.out.mono ?_; intro e w8 he; obtain ⟨rfl, hnx⟩ := HE.out e w8 he; clear he; have HNX := Lib.hid hnx; clear hnx) | ((with_reducible refine gate_dst (N := 3) rfl ?_); refine wpList_alloc_box rfl rfl ?_; intro W6 hW6 hbe6 hs6) | ((with_reducible refine gate_store (t := 44) (p := 3) rfl ?_); refine wpList_store_box rfl (.tmp 3) (.tmp 9) rfl w8.heap.size hW6 fr0_wf y HW.out rfl rfl ?_; intro W7 hW7 ho7))
      have hgw := blk_lt St.out.rd.a
      have hsz := HNX.out.but.size
      have hnx7 : Nx wr g W7 (rdC A c b n { r with at_ := q, last := y.at_, left := r.left - 1 }) := (HNX.out.below hbe6).only ho7 hsz hgw
      have hj7 := HJ.out _ _ _ St.out.j ⟨_, hnx7⟩
      have hbx7 : W7.heap[Bn]? = some (.cells #[.pointer (some ⟨g, 0, none⟩)] 35 (0, 0)) := (hnx7.but.block _ (blk_lt St.out.bx) (fun e => HNe.out (by injection e))).trans St.out.bx
      have hrd7 := St.out.rd.after hnx7 hqb
      have hy := HY.out pre ⟨y, HW.out⟩ W7 hj7 hpl
      have hb3 := rng_of (range_blk hW7)
      refine (wpIn_wide (n := m)).1 (wpIn_region_lit (show wpListIn (wideAt none) m Try.prog _ _ _ _ _ from ?_))
      refine in_value (v := .bool true) (w1 := W7) (by rfl) (by intro c h; cases h) (by go_simp) ?_
      refine in_value (v := .bool false) (w1 := W7) (by rfl) (by intro c h; cases h) (by go_simp) ?_
      refine in_value (v := .bool false) (w1 := W7) (by rfl) (by intro c h; cases h) (by go_simp) ?_
      refine in_value (v := .func (.yield l) #[] #[]) (w1 := W7) (by rfl) (by intro c h; cases h) (by go_simp) ?_
      refine in_value (v := .agg (enC y).toArray) (w1 := W7) (by rfl) (by intro c h; cases h) (exec_load_any (ty := 44) (x := .tmp 3) (p := ⟨w8.heap.size, 0, none⟩) (cs := enC y) rfl rfl hb3 Try.underlying44 rfl (by rw [enC_len HW.out]; kernel_rfl)) ?_
      refine in_yield (l := l) (args := #[.agg (enC y).toArray]) (by rfl) (by intro c h; cases h) ?_ hy ?_
      · intro r w' hy
        go_simp
      · rintro e W8 ⟨rfl, hj8, hk8⟩
        refine ⟨_, rfl, ?_⟩
        refine in_value (v := .bool false) (w1 := W8) (by rfl) (by intro c h; cases h) (by go_simp) ?_
        refine in_value (v := .bool false) (w1 := W8) (by rfl) (by intro c h; cases h) (by go_simp) ?_
        have hrd8 := hrd7.kp HA.out hk8
        have hbx8 : W8.heap[Bn]? = some (.cells #[.pointer (some ⟨g, 0, none⟩)] 35 (0, 0)) := hk8.same _ _ hbx7 (.inr ⟨_, _, _, rfl, by decide, by decide⟩)
        have HS8 : Hid (ItSt J W8 g Bn A c b n { r with at_ := q, last := y.at_, left := r.left - 1 } (pre ++ [⟨y, HW.out⟩])) := Lib.hid ⟨hj8, hrd8, hbx8⟩
        have HT8 : Hid (r.e = 0 ∧ l0 = (pre ++ [(⟨y, HW.out⟩ : EnW)]).map (·.1) ++ rest ∧ toldF b L (r.left - 1) q y.at_ = (rest, es', x0)) := Lib.hid ⟨HE0.out, by rw [HP.out]; simp, HTn.out⟩
        clear hy hj8 hk8 hrd8 hbx8 hj7 hbx7 hrd7 hb3 hnx7 hW7 ho7 hW6 hbe6 hs6 hsz hgw hqb
        simp only [Act.put, List.setIfInBounds_toArray, List.set_cons_zero, List.set_cons_succ]
        refine ‹∀ (a : Act) (w : World), Code.wp Try.prog (Code.cond (Operand.tmp 19) Code.ret Code.skip) _ a w → _› _ _ ?_
        go_wp2
        go_roundg k
        case measure => omega
        case rel => exact ⟨pre ++ [⟨y, HW.out⟩], { r with at_ := q, last := y.at_, left := r.left - 1 }, rest, es', by show r.left - 1 + 1 = k; omega, by show r.left - 1 ≤ n; omega, HS8, HT8⟩
end Go.Proofs.Ytfbdnfokoakfaaa.Ct
