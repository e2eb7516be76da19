/- provisoplain.Shelf.Bytes: its walk. -/
import Derived.Test.YtcfpiamdkdedlaaOwnC
namespace Go.Proofs.Ytcfpiamdkdedlaa.DecodeC
open Go.RowKit Go.Proofs.YtcfpiamdkdedlaaW.PrintWords Go.Proofs.YtcfpiamdkdedlaaW.PrintLast Go.Proofs.YtcfpiamdkdedlaaW.PrintMore Go.Proofs.Ytcfpiamdkdedlaa.PCodePatches Go.Proofs.Ytcfpiamdkdedlaa.CloneC
set_option linter.unusedVariables false
set_option linter.unusedSimpArgs false
attribute [local go_sem] drewN_set drewN_new

theorem set_grown (W : World) (b : Nat) (v : Value) : W.grownBy (W.setCell ⟨b, 0, none⟩ v) (some b) := ⟨rfl, rfl, rfl, (by show W.heap.size ≤ (W.heap.modify b _).size; rw [Array.size_modify]; exact Nat.le_refl _), fun k _ hk => Below.heap_setCell _ _ _ k (fun e => hk (by rw [e]))⟩
theorem sep_late {W W' : World} {α β : Type} {d : Kd α} {d' : Kd β} {e e' base : Nat} {v v' : Value} {xs : List α} {ys : List β} (h : d.R e W base (fun _ => True) v xs) (h' : d'.R e' W' W.heap.size (fun _ => True) v' ys) : Sep v' v := by
  intro k hk' hk
  have h1 := (Kd.R_bound h).1 k hk
  have h2 := (Kd.R_bound h').1 k hk'
  have := h1.2.2.1
  have := h2.2.1
  omega

set_option maxHeartbeats 4000000 in
set_option maxRecDepth 100000 in
theorem bytes_c (w0 : World) (gs : Nat) (vb : Value) (xs : List Value) (A : Option Addr) (n c : Nat) (w : World) (hx : xs.length ≤ 8) (hbs : w.heap[gs]? = some (.cells #[vb, .slice none 0 0] 57 (0, 0))) (hgs : w0.heap.size ≤ gs) (hr : Kd.R kV 30 w w0.heap.size (fun _ => True) vb xs) (hb : Below w0.heap.size w0 w) :
    Calls Try.prog 36 #[.pointer (some ⟨gs, 0, none⟩), .slice A n c] w fun e w' => e = .returned (.tuple #[]) ∧ ∃ vb', w'.heap[gs]? = some (.cells #[vb', .slice none 0 0] 57 (0, 0)) ∧ Kd.R kV 30 w' w0.heap.size (fun _ => True) vb' (xs ++ [.slice A n c]) ∧ Below w0.heap.size w0 w' ∧ (∀ u l b, Kd.R (Kd.int .u8) 5 w b (fun _ => True) u l → Kd.R (Kd.int .u8) 5 w' b (fun _ => True) u l) := by
  have HBs := Lib.hid hbs
  have HR := Lib.hid hr
  have HB := Lib.hid hb
  have hf : ∃ A0 n0 c0, vb = .slice A0 n0 c0 := by
    obtain ⟨A0, c0, e, _⟩ := Kd.R_reads hr
    exact ⟨A0, _, c0, e⟩
  obtain ⟨A0, n0, c0, rfl⟩ := hf
  have b0 := blk_cell hbs 0
  simp only [List.getElem?_toArray, List.getElem?_cons_zero, List.getElem?_cons_succ] at b0
  clear hbs hr hb
  go_enter Try.func36, Try.ntmps36
  go_wp2_with ((with_reducible refine gate_dst (N := 11) rfl ?_); at_builtin; refine Kd.R_append_rows kV (w0 := w0) w0.heap.size rfl (.tmp 8) (.tmp 10) 54 30 (.slice none 0 0) 24 rfl Try.underlying54 info30 rfl (by decide) (by omega) (.slice A0 n0 c0) xs [.slice A n c] (some ⟨w.heap.size, 0, none⟩) 1 1 (fun _ => True) (fun _ => False) rfl rfl (Kd.R_alloc HR.out _) (C_oneV (blk_new w _) rfl) (fun _ _ h => h) (fun _ h => h.elim) (fun _ _ => trivial) (HB.out.alloc HB.out.size _) (by have := HB.out.size; rw [World.size_alloc]; omega) (by omega) ?_; intro v1 w1 hr1 hb1 hg1 hv1; obtain ⟨g1, cap1, rfl, _, _, _⟩ := Kd.R_form hr1 (by simp); rw [List.length_append, List.length_singleton] at hr1 ⊢; have HG1 := Lib.hid hg1; have HBs1 := Lib.hid (blk_row (Kd.R_alloc HR.out (.cells #[.slice A n c] 30)) hg1 (blk_alloc HBs.out _) (by decide)); have HR1 := Lib.hid hr1; have HB1 := Lib.hid hb1; have a0 := blk_cell HBs1.out 0; simp only [List.getElem?_toArray, List.getElem?_cons_zero, List.getElem?_cons_succ] at a0; have f0 : w1.frozen? ⟨gs, 0, none⟩ = false := blk_frozen HBs1.out 0; clear hr1 hb1 hg1 hv1)
  go_end0
  have HR2 := HR1.out
  have hset : w1.grownBy (w1.setCell ⟨gs, 0, none⟩ (.slice (some ⟨g1, 0, none⟩) (xs.length + 1) cap1)) (some gs) := set_grown _ _ _
  refine ⟨rfl, _, (blk_put HBs1.out 0 _ rfl).trans rfl, R_other rfl HR1.out hset HBs1.out (by decide), below_set HB1.out hgs, fun u l b h => ?_⟩
  have h1 := Kd.R_alloc h (.cells #[.slice A n c] 30)
  have h2 := R_sep rfl h1 HG1.out (sep_type (Kd.R_alloc HR.out (.cells #[.slice A n c] 30)) h1 (by decide))
  exact R_other rfl h2 hset HBs1.out (by decide)
end Go.Proofs.Ytcfpiamdkdedlaa.DecodeC
