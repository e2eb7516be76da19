/- slices.Clone of bytes, and provisoplain.Roomy: what they hand back, and that nothing that was there turns. -/
import Derived.Test.YtcfpiamdkdedlaaPCodePatchesx0
import Derived.Lib.SliceRun
import Derived.Lib.Hide
import Derived.WalkSpells
namespace Go.Proofs.Ytcfpiamdkdedlaa.CloneC
open Go.RowKit Go.Proofs.YtcfpiamdkdedlaaW.PrintWords Go.Proofs.YtcfpiamdkdedlaaW.PrintLast Go.Proofs.YtcfpiamdkdedlaaW.PrintMore Go.Proofs.Ytcfpiamdkdedlaa.PCodePatches

set_option linter.unusedVariables false

/-- A new block that holds bytes is a row of the call's own. -/
theorem lit_R (W : World) (l : List Int) (hl : l.length ≤ 1000) : Kd.R (Kd.int .u8) 5 (W.alloc (.cells (nums .u8 l).toArray 5)) W.heap.size (fun _ => True) (.slice (some ⟨W.heap.size, 0, none⟩) l.length l.length) l := by
  refine ⟨fun _ _ => trivial, nums .u8 l, ?_, ?_⟩
  · have h2 := World.ownsRow_lit (base := W.heap.size) (e := 5) (size := 1) W (nums .u8 l).toArray l.length (Nat.le_refl _) (by simp only [maxLen]; omega) (by simp [nums])
    have h3 : (W.alloc (.cells (nums .u8 l).toArray 5)).ownsRow W.heap.size 5 1 (.slice (some ⟨W.heap.size, 0, none⟩) l.length l.length) l.length (nums .u8 l) := by simpa using h2
    exact h3
  · exact Kd.reps_scalar l

set_option maxHeartbeats 1000000 in
set_option maxRecDepth 100000 in
theorem clone_any (A : Option Addr) (c : Nat) (l : List Int) (w : World) (hr : Kd.C (Kd.int .u8) w A l.length l) (hc : l.length ≤ c) (hl : l.length ≤ 140737488355328) :
    Calls Try.prog 33 #[.slice A l.length c] w fun e w' => ∃ v0, e = .returned v0 ∧ Kd.R (Kd.int .u8) 5 w' w.heap.size (fun _ => True) v0 l ∧ Below w.heap.size w w' := by
  have hnil := fun (W : World) => Lib.run_eql_slice_nil (P := Try.prog) W 30 5 A l.length c 0 0 Try.underlying30
  rcases A with _ | ad
  · have e0 : l = [] := by
      rcases Nat.eq_zero_or_pos l.length with h | h
      · exact List.eq_nil_of_length_eq_zero h
      · obtain ⟨ad, h, _⟩ := hr.2.2 h
        cases h
    have HL := Lib.hid e0
    clear e0
    go_enter Try.func33, Try.ntmps33
    go_wp2
    go_ret
    exact ⟨_, rfl, by rw [HL.out]; exact Kd.R_nil _ _ _ _ _, Below.refl _ _⟩
  · have HR := Lib.hid hr
    clear hr
    go_enter Try.func33, Try.ntmps33
    have hO : Kd.R (Kd.int .u8) 5 (w.alloc (.cells #[] 5)) w.heap.size (fun _ => True) (.slice (some ⟨w.heap.size, 0, none⟩) 0 0) [] := by
      refine ⟨fun _ _ => trivial, [], ?_, ?_⟩
      · have h2 := World.ownsRow_lit (base := w.heap.size) (e := 5) (size := 1) w #[] 0 (Nat.le_refl _) (by simp [maxLen]) (by simp)
        have h3 : (w.alloc (.cells #[] 5)).ownsRow w.heap.size 5 1 (.slice (some ⟨w.heap.size, 0, none⟩) 0 0) 0 [] := by simpa using h2
        exact h3
      · exact ⟨by simp, fun j p hj => by simp at hj⟩
    have HO := Lib.hid hO
    clear hO
    go_wp2_with (at_builtin; refine Kd.R_append_rows (Kd.int .u8) (w0 := w) w.heap.size rfl (.tmp 5) (.tmp 6) 30 5 (.int .u8 0) 1 rfl Try.underlying30 info5 rfl (by decide) (by omega) _ [] l (some ad) l.length c (fun _ => True) (fun _ => False) rfl rfl HO.out ?aR (fun _ _ h => h) (fun _ h => h.elim) (fun _ _ => trivial) ?aB ?aS ?aL ?_; (case aR => exact Kd.C_alloc HR.out _); (case aB => exact below_alloc (Below.refl _ _) _); (case aS => simp); (case aL => simp; omega); intro v1 w1 ho hb _ _; have H1 := Lib.hid ho; have H2 := Lib.hid hb; clear ho hb)
    go_ret
    exact ⟨_, rfl, H1.out, H2.out⟩

set_option maxHeartbeats 1000000 in
set_option maxRecDepth 100000 in
theorem roomy_any (A : Option Addr) (c : Nat) (l : List Int) (w : World) (hr : Kd.C (Kd.int .u8) w A l.length l) (hc : l.length ≤ c) (hl : l.length ≤ 140737488351232) :
    Calls Try.prog 24 #[.slice A l.length c] w fun e w' => ∃ (g : Addr) (cap : Nat), e = .returned (.tuple #[.slice (some g) l.length cap, .slice (some g) (l.length + 4) cap]) ∧
      Kd.R (Kd.int .u8) 5 w' w.heap.size (fun _ => True) (.slice (some g) (l.length + 4) cap) (l ++ [165, 90, 195, 60]) ∧ l.length + 4 ≤ cap ∧ Below w.heap.size w w' := by
  have E4 : Hid ((l ++ ([165, 90, 195, 60] : List Int)).length = l.length + 4) := Lib.hid (by simp)
  go_enter Try.func24, Try.ntmps24
  go_wp2_with (first
    | (go_at_call 33; refine (clone_any A c l _ hr hc (by omega)).mono ?_; rintro e w1 ⟨v0, rfl, ho, hb⟩; have H1 := Lib.hid ho; have H2 := Lib.hid hb; clear ho hb)
    | (at_builtin; go_must (refine Kd.R_append_rows (Kd.int .u8) (w0 := w) w.heap.size rfl (.tmp 6) (.tmp 7) 30 5 (.int .u8 0) 1 rfl Try.underlying30 info5 rfl (by decide) (by omega) v0 l [165, 90, 195, 60] (some ⟨w1.heap.size, 0, none⟩) 4 4 (fun _ => True) (fun k => some k ≠ v0.ownBlock) rfl rfl ?aO ?aR (fun _ _ h => h) (fun k h => ⟨trivial, h⟩) (fun _ _ => trivial) ?aB ?aS ?aL ?_); (case aO => go_must (exact Kd.R_alloc H1.out _)); (case aR => go_must (exact (Kd.R_reads' (lit_R w1 [165, 90, 195, 60] (by decide))).2.2)); (case aB => go_must (exact below_alloc H2.out _)); (case aS => go_must (have := H2.out.size; simp; omega)); (case aL => simp; omega); intro v1 w2 ho hb _ _; go_must (obtain ⟨g, cap, rfl, hg1, hg2, hcs⟩ := Kd.R_form ho (by simp)); go_must (rw [E4.out] at ho ⊢); have hcap := (Kd.R_reads' ho).2.1; have H3 := Lib.hid ho; have H4 := Lib.hid hb; clear ho hb hg1 hg2 hcs))
  go_ret2
  exact ⟨_, _, rfl, H3.out, hcap, H4.out⟩
end Go.Proofs.Ytcfpiamdkdedlaa.CloneC
