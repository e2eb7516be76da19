/- provisoplain.Shelf.Own: what holds between its steps. -/
import Derived.Test.YtcfpiamdkdedlaaMarkedC
namespace Go.Proofs.Ytcfpiamdkdedlaa.DecodeC
open Go.RowKit Go.Proofs.YtcfpiamdkdedlaaW.PrintWords Go.Proofs.YtcfpiamdkdedlaaW.PrintLast Go.Proofs.YtcfpiamdkdedlaaW.PrintMore Go.Proofs.Ytcfpiamdkdedlaa.PCodePatches Go.Proofs.Ytcfpiamdkdedlaa.CloneC
set_option linter.unusedVariables false
set_option linter.unusedSimpArgs false

/-- The two rows on the shelf, and the one beside it. -/
def vsF (Av : Nat → Option Addr) (nv cv : Nat → Nat) (va : Value) (j : Nat) : Value := if j < 2 then .slice (Av j) (nv j) (cv j) else va
theorem vsF_lt {Av : Nat → Option Addr} {nv cv : Nat → Nat} {va : Value} {j : Nat} (h : j < 2) : vsF Av nv cv va j = .slice (Av j) (nv j) (cv j) := by unfold vsF; rw [if_pos h]
theorem vsF_two {Av : Nat → Option Addr} {nv cv : Nat → Nat} {va : Value} : vsF Av nv cv va 2 = va := by unfold vsF; rw [if_neg (by omega)]
structure OaSt (w0 W : World) (gs gb cb : Nat) (Av : Nat → Option Addr) (nv cv : Nat → Nat) (va : Value) (ls : Nat → List Int) : Prop where
  bs : W.heap[gs]? = some (.cells #[.slice (some ⟨gb, 0, none⟩) 2 cb, .slice none 0 0] 57 (0, 0))
  rb : Kd.R kV 30 W w0.heap.size (fun _ => True) (.slice (some ⟨gb, 0, none⟩) 2 cb) [.slice (Av 0) (nv 0) (cv 0), .slice (Av 1) (nv 1) (cv 1)]
  rows : Rows8 W w0.heap.size 3 (vsF Av nv cv va) ls
  below : Below w0.heap.size w0 W
theorem OaSt.next {w0 W W1 : World} {gs gb cb : Nat} {Av : Nat → Option Addr} {nv cv : Nat → Nat} {va : Value} {ls : Nat → List Int} (h : OaSt w0 W gs gb cb Av nv cv va ls) (hb : Below W.heap.size W W1) : OaSt w0 W1 gs gb cb Av nv cv va ls :=
  ⟨blk_below h.bs hb, Kd.R_below h.rb hb, h.rows.below hb, below_then h.below h.below.size hb⟩
theorem V_cell {W : World} {base gb cb : Nat} {ok : Nat → Prop} {v0 v1 : Value} (h : Kd.R kV 30 W base ok (.slice (some ⟨gb, 0, none⟩) 2 cb) [v0, v1]) : W.cell? ⟨gb, 0, none⟩ = some v0 ∧ W.cell? ⟨gb, 1, none⟩ = some v1 := by
  obtain ⟨_, _, h3⟩ := (Kd.R_reads' h).2.2
  obtain ⟨ad, e, h4⟩ := h3 (by simp)
  injection e with e
  subst e
  obtain ⟨c0, _, ⟨rfl, _⟩, h7⟩ := h4 0 v0 rfl
  obtain ⟨c1, _, ⟨rfl, _⟩, h8⟩ := h4 1 v1 rfl
  have e0 := h7 0 _ rfl
  have e1 := h8 0 _ rfl
  simp [Addr.add] at e0
  refine ⟨e0, ?_⟩
  have hs : (1 * kV.sz + 0) = 1 := rfl
  rw [hs, Addr.add_mid] at e1
  simpa using e1
theorem OaSt.cell {w0 W : World} {gs gb cb : Nat} {Av : Nat → Option Addr} {nv cv : Nat → Nat} {va : Value} {ls : Nat → List Int} (h : OaSt w0 W gs gb cb Av nv cv va ls) (j : Nat) (hj : j < 2) : W.cell? ⟨gb, j, none⟩ = some (.slice (Av j) (nv j) (cv j)) := by
  have := V_cell h.rb
  match j, hj with
  | 0, _ => exact this.1
  | 1, _ => exact this.2
theorem blk_row {α : Type} {d : Kd α} {e : Nat} {W w1 : World} {base : Nat} {ok : Nat → Prop} {v : Value} {xs : List α} {g t : Nat} {cs : Array Value} (hr : d.R e W base ok v xs) (hg : W.grownBy w1 v.ownBlock) (h : W.heap[g]? = some (.cells cs t (0, 0))) (ht : e ≠ t) : w1.heap[g]? = some (.cells cs t (0, 0)) :=
  (hg.block _ (blk_lt h) (Kd.R_ne hr h ht)).trans h
theorem OaSt.write {w0 W w1 : World} {gs gb cb : Nat} {Av : Nat → Option Addr} {nv cv : Nat → Nat} {va : Value} {ls : Nat → List Int} (h : OaSt w0 W gs gb cb Av nv cv va ls) (i : Nat) (hi : i < 2) {l' : List Int} (hr : Kd.R (Kd.int .u8) 5 w1 w0.heap.size (fun _ => True) (.slice (Av i) (nv i) (cv i)) l') (hg : W.grownBy w1 (Value.slice (Av i) (nv i) (cv i)).ownBlock) (hb : Below w0.heap.size w0 w1) : OaSt w0 w1 gs gb cb Av nv cv va (upd ls i l') := by
  have h0 := h.rows.r i (by omega)
  rw [vsF_lt hi] at h0
  refine ⟨blk_row h0 hg h.bs (by decide), R_sep rfl h.rb hg (sep_type h0 h.rb (by decide)), ?_, hb⟩
  exact h.rows.write i (by omega) (by rw [vsF_lt hi]; exact hr) (by rw [vsF_lt hi]; exact hg)

theorem grown_wide {W w1 : World} (h : W.grownBy w1 none) (r : Option Nat) : W.grownBy w1 r := ⟨h.os, h.tape, h.output, h.size, fun k hk _ => h.block k hk (by simp)⟩
theorem slice_own (ad : Addr) (n c : Nat) : (Value.slice (some ad) n c).ownBlock = some ad.block := rfl
structure OcSt (w0 W : World) (gs gb cb : Nat) (Av : Nat → Option Addr) (nv cv : Nat → Nat) (vm : Value) (i : Nat) (cur : Nat → Value) (cl : Nat → List Int) : Prop where
  bs : W.heap[gs]? = some (.cells #[.slice (some ⟨gb, 0, none⟩) 2 cb, .slice none 0 0] 57 (0, 0))
  rb : Kd.R kV 30 W w0.heap.size (fun _ => True) (.slice (some ⟨gb, 0, none⟩) 2 cb) [.slice (Av 0) (nv 0) (cv 0), .slice (Av 1) (nv 1) (cv 1)]
  rm : Kd.R kV 30 W w0.heap.size (fun _ => True) vm ((List.range i).map cur)
  sepb : Sep vm (.slice (some ⟨gb, 0, none⟩) 2 cb)
  rows : Rows8 W w0.heap.size 3 cur cl
  rv : ∀ j, j < 2 → Kd.C (Kd.int .u8) W (Av j) (nv j) (List.replicate (nv j) (mkI j))
  ty : ∀ j, j < 2 → ∀ k, (Value.slice (Av j) (nv j) (cv j)).ownBlock = some k → ∃ cells, W.heap[k]? = some (.cells cells 5 (0, 0))
  sepv : ∀ j j', j < 3 → j' < 2 → j ≠ j' → Sep (cur j) (.slice (Av j') (nv j') (cv j'))
  below : Below w0.heap.size w0 W
theorem OcSt.next {w0 W W1 : World} {gs gb cb : Nat} {Av : Nat → Option Addr} {nv cv : Nat → Nat} {vm : Value} {i : Nat} {cur : Nat → Value} {cl : Nat → List Int} (h : OcSt w0 W gs gb cb Av nv cv vm i cur cl) (hb : Below W.heap.size W W1) : OcSt w0 W1 gs gb cb Av nv cv vm i cur cl :=
  ⟨blk_below h.bs hb, Kd.R_below h.rb hb, Kd.R_below h.rm hb, h.sepb, h.rows.below hb, fun j hj => Kd.C_below (h.rv j hj) hb, fun j hj k hk => by obtain ⟨cs, hc⟩ := h.ty j hj k hk; exact ⟨cs, blk_below hc hb⟩, h.sepv, below_then h.below h.below.size hb⟩
theorem OcSt.cell {w0 W : World} {gs gb cb : Nat} {Av : Nat → Option Addr} {nv cv : Nat → Nat} {vm : Value} {i : Nat} {cur : Nat → Value} {cl : Nat → List Int} (h : OcSt w0 W gs gb cb Av nv cv vm i cur cl) (j : Nat) (hj : j < 2) : W.cell? ⟨gb, j, none⟩ = some (.slice (Av j) (nv j) (cv j)) := by
  have := V_cell h.rb
  match j, hj with
  | 0, _ => exact this.1
  | 1, _ => exact this.2
/-- A byte was appended to row i. -/
theorem OcSt.app {w0 W w1 : World} {gs gb cb : Nat} {Av : Nat → Option Addr} {nv cv : Nat → Nat} {vm : Value} {i : Nat} {cur : Nat → Value} {cl : Nat → List Int} (hform : ∀ j, j < 2 → 0 < nv j → ∃ g, Av j = some ⟨g, 0, none⟩) (h : OcSt w0 W gs gb cb Av nv cv vm i cur cl) (hi : i < 2) {v1 : Value} {y : Int} (hpre : (cl i).take (nv i) = List.replicate (nv i) (mkI i)) (hlen : nv i ≤ (cl i).length)
    (hr : Kd.R (Kd.int .u8) 5 w1 w0.heap.size (fun _ => True) v1 (cl i ++ [y])) (hg : (v1.ownBlock = (cur i).ownBlock ∧ W.grownBy w1 (cur i).ownBlock) ∨ (∃ b, v1.ownBlock = some b ∧ W.heap.size ≤ b ∧ W.grownBy w1 none)) (hb : Below w0.heap.size w0 w1) :
    OcSt w0 w1 gs gb cb Av nv cv vm i (upd cur i v1) (upd cl i (cl i ++ [y])) := by
  have h0 := h.rows.r i (by omega)
  have hgw : W.grownBy w1 (cur i).ownBlock := by
    rcases hg with ⟨_, hg⟩ | ⟨_, _, _, hg⟩
    · exact hg
    · exact grown_wide hg _
  have hv : v1.ownBlock = (cur i).ownBlock ∨ ∃ b, v1.ownBlock = some b ∧ W.heap.size ≤ b := by
    rcases hg with ⟨e, _⟩ | ⟨b, e, hb, _⟩
    · exact .inl e
    · exact .inr ⟨b, e, hb⟩
  have emap : (List.range i).map (upd cur i v1) = (List.range i).map cur := List.map_congr_left (fun j hj => upd_ne _ _ _ _ (by have := List.mem_range.1 hj; omega))
  refine ⟨blk_row h0 hgw h.bs (by decide), R_sep rfl h.rb hgw (sep_type h0 h.rb (by decide)), by rw [emap]; exact R_sep rfl h.rm hgw (sep_type h0 h.rm (by decide)), h.sepb, h.rows.app i (by omega) hr hgw hv, ?_, ?_, ?_, hb⟩
  · intro j hj
    by_cases hn0 : nv j = 0
    · have := h.rv j hj
      exact C_keep8 this (fun ad e hp => by omega)
    · obtain ⟨g, hA⟩ := hform j hj (by omega)
      rcases hg with ⟨e1, hg⟩ | ⟨b, e1, hb1, hg⟩
      · by_cases es : (cur i).ownBlock = some g
        · by_cases ej : j = i
          · subst ej
            obtain ⟨g', cap, rfl, _, _, _⟩ := Kd.R_form hr (by simp)
            have eg : some g' = some g := (slice_own ⟨g', 0, none⟩ _ cap).symm.trans (e1.trans es)
            injection eg with eg
            subst eg
            have hc := Kd.C_take (m := nv j) (Kd.R_reads' hr).2.2 (by rw [List.length_append]; simp; omega)
            rw [List.take_append_of_le_length hlen, hpre, List.length_replicate] at hc
            rw [hA]
            exact hc
          · exfalso
            exact h.sepv i j (by omega) hj (fun e => ej e.symm) g es (by rw [hA]; rfl)
        · refine C_keep8 (h.rv j hj) (fun ad e _ => ?_)
          rw [hA] at e
          injection e with e
          subst e
          obtain ⟨_, hc⟩ := h.ty j hj g (by rw [hA]; rfl)
          exact hg.block g (blk_lt hc) (fun e => es e.symm)
      · refine C_keep8 (h.rv j hj) (fun ad e _ => ?_)
        rw [hA] at e
        injection e with e
        subst e
        obtain ⟨_, hc⟩ := h.ty j hj g (by rw [hA]; rfl)
        exact hg.block g (blk_lt hc) (by simp)
  · intro j hj k hk
    obtain ⟨cs, hc⟩ := h.ty j hj k hk
    by_cases es : (cur i).ownBlock = some k
    · rcases hg with ⟨e1, hg⟩ | ⟨b, e1, hb1, hg⟩
      · obtain ⟨_, ho⟩ := Kd.R_own hr
        exact own_typed ho k (e1.trans es)
      · exact ⟨cs, (hg.block k (blk_lt hc) (by simp)).trans hc⟩
    · exact ⟨cs, (hgw.block k (blk_lt hc) (fun e => es e.symm)).trans hc⟩
  · intro j j' hj hj' hne
    by_cases e : j = i
    · subst e
      rw [upd_same]
      intro k hk hk'
      rcases hv with e1 | ⟨b, e1, hb1⟩
      · exact h.sepv j j' hj hj' hne k (e1 ▸ hk) hk'
      · rw [e1] at hk
        injection hk with hk
        obtain ⟨_, hc⟩ := h.ty j' hj' k hk'
        have := blk_lt hc
        omega
    · rw [upd_ne _ _ _ _ e]
      exact h.sepv j j' hj hj' hne
/-- A row was put to the others. -/
theorem OcSt.push {w0 W w1 : World} {gs gb cb : Nat} {Av : Nat → Option Addr} {nv cv : Nat → Nat} {vm vm' : Value} {i : Nat} {cur : Nat → Value} {cl : Nat → List Int} (h : OcSt w0 W gs gb cb Av nv cv vm i cur cl)
    (hr : Kd.R kV 30 w1 w0.heap.size (fun _ => True) vm' ((List.range i).map cur ++ [cur i])) (hg : W.grownBy w1 vm.ownBlock) (hv : vm'.ownBlock = vm.ownBlock ∨ ∃ b, vm'.ownBlock = some b ∧ W.heap.size ≤ b) (hb : Below w0.heap.size w0 w1) :
    OcSt w0 w1 gs gb cb Av nv cv vm' (i + 1) cur cl := by
  have hty : ∀ j, j < 2 → ∀ k, (Value.slice (Av j) (nv j) (cv j)).ownBlock = some k → ∃ cells, W.heap[k]? = some (.cells cells 5 (0, 0)) ∧ w1.heap[k]? = W.heap[k]? := by
    intro j hj k hk
    obtain ⟨cs, hc⟩ := h.ty j hj k hk
    refine ⟨cs, hc, hg.block k (blk_lt hc) (fun e => ?_)⟩
    exact Kd.R_ne h.rm hc (by decide) e
  refine ⟨blk_row h.rm hg h.bs (by decide), R_sep rfl h.rb hg h.sepb, by rw [List.range_succ, List.map_append]; exact hr, sep_new h.rb h.sepb hv, h.rows.sepd hg (fun j hj => sep_type h.rm (h.rows.r j hj) (by decide)), fun j hj => C_keep8 (h.rv j hj) (fun ad e _ => ?_), fun j hj k hk => ?_, h.sepv, hb⟩
  · obtain ⟨_, _, h2⟩ := hty j hj ad.block (by rw [e]; rfl)
    exact h2
  · obtain ⟨cs, h1, h2⟩ := hty j hj k hk
    exact ⟨cs, h2.trans h1⟩
end Go.Proofs.Ytcfpiamdkdedlaa.DecodeC
