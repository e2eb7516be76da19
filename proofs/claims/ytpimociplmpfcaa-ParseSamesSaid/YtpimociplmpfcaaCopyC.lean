/- slices.Clone of parameters, Stmts and Program: what they hand back. -/
import Derived.Test.YtpimociplmpfcaaCopyV
import Derived.Test.YtpimociplmpfcaaRefD
import Derived.Lib.SliceRun
import Derived.WalkSpells
namespace Go.Proofs.Ytpimociplmpfcaa.Sam
open Go.RowKit Go.Proofs.YtpimociplmpfcaaW.PrintWords Go.Proofs.YtpimociplmpfcaaW.PrintLast Go.Proofs.YtpimociplmpfcaaW.PrintMore Go.Proofs.Ytpimociplmpfcaa.PParseSames
set_option linter.unusedVariables false
set_option linter.unusedSimpArgs false
attribute [local go_sem] drewN_set drewN_new

theorem info34 : (Try.prog.info? 34).map (fun i => (i.zero, i.size, i.bytes)) = some (some (.agg #[(.int .i64 0), (.string ⟨#[]⟩), (.string ⟨#[]⟩), (.int .u8 0)]), 4, 48) := by kernel_rfl

set_option maxHeartbeats 1000000 in
set_option maxRecDepth 100000 in
theorem clone8 (A : Option Addr) (c : Nat) (l : List S34) (w : World) (hr : Kd.C k34 w A l.length l) (hc : l.length ≤ c) (hl : l.length * 48 ≤ 140737488355328) :
    Calls Try.prog 8 #[.slice A l.length c] w fun e w' => ∃ v0, e = .returned v0 ∧ Kd.R k34 34 w' w.heap.size (fun _ => True) v0 l ∧ Below w.heap.size w w' := by
  have hnil := fun (W : World) => Lib.run_eql_slice_nil (P := Try.prog) W 28 34 A l.length c 0 0 Try.underlying28
  rcases A with _ | ad
  · have e0 : l = [] := by
      rcases Nat.eq_zero_or_pos l.length with h | h
      · exact List.eq_nil_of_length_eq_zero h
      · obtain ⟨ad, h, _⟩ := hr.2.2 h
        cases h
    have HL := Lib.hid e0
    clear e0
    go_enter Try.func8, Try.ntmps8
    go_wp2
    go_ret
    exact ⟨_, rfl, by rw [HL.out]; exact Kd.R_nil _ _ _ _ _, Below.refl _ _⟩
  · have HR := Lib.hid hr
    clear hr
    go_enter Try.func8, Try.ntmps8
    have hO : Kd.R k34 34 (w.alloc (.cells #[] 34)) w.heap.size (fun _ => True) (.slice (some ⟨w.heap.size, 0, none⟩) 0 0) [] := by
      refine ⟨fun _ _ => trivial, [], ?_, ?_⟩
      · have h2 := World.ownsRow_lit (base := w.heap.size) (e := 34) (size := 4) w #[] 0 (Nat.le_refl _) (by simp [maxLen]) (by simp)
        have h3 : (w.alloc (.cells #[] 34)).ownsRow w.heap.size 34 4 (.slice (some ⟨w.heap.size, 0, none⟩) 0 0) 0 [] := by simpa using h2
        exact h3
      · exact ⟨by simp, fun j p hj => by simp at hj⟩
    have HO := Lib.hid hO
    clear hO
    go_wp2_with (at_builtin; go_must (refine Kd.R_append_rows k34 (Rr := k34.K w) (w0 := w) w.heap.size rfl (.tmp 5) (.tmp 6) 28 34 (.agg #[(.int .i64 0), (.string ⟨#[]⟩), (.string ⟨#[]⟩), (.int .u8 0)]) 48 rfl Try.underlying28 info34 rfl (by decide) (by omega) (.slice (some ⟨w.heap.size, 0, none⟩) 0 0) [] l (some ad) l.length c (fun _ => True) (fun _ => False) (by rfl) (by rfl) HO.out ?aR ?aK (fun _ h => h.elim) (fun _ _ => trivial) ?aB ?aS ?aL ?_); (case aR => exact (Kd.C_alloc HR.out _ : Kd.C k34 (w.alloc (.cells #[] 34)) (some ad) l.length l)); (case aK => intro x cs h; have h2 := k34_open h; rw [h2]; exact k34_mkM _ _ _ x); (case aB => exact below_alloc (Below.refl _ _) _); (case aS => simp); (case aL => simp; omega); intro v1 w1 ho hb _ _; have H1 := Lib.hid ho; have H2 := Lib.hid hb; clear ho hb)
    go_ret
    exact ⟨_, rfl, H1.out, H2.out⟩

theorem stmts9 {l : List S47} (h : OkS l) (A : Option Addr) (c : Nat) (w : World) (hr : Kd.C k47 w A l.length l) (hc : l.length ≤ c) :
    Calls Try.prog 9 #[.slice A l.length c] w fun e w' => ∃ v0, e = .returned v0 ∧ Kd.R k47 47 w' w.heap.size (fun _ => True) v0 l ∧ Below w.heap.size w w' := by
  obtain ⟨K, hK⟩ := stmts_is h
  exact provisoplain_Stmts.calls K A c l l w hr hc hK
end Go.Proofs.Ytpimociplmpfcaa.Sam
