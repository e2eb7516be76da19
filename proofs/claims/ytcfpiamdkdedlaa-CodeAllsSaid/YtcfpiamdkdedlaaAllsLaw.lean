/- slices.Clone of instructions, and provisolaw04.CodeAlls: their walks. -/
import Derived.Test.YtcfpiamdkdedlaaPureAlls
import Derived.Lib.SliceRun
import Derived.Lib.Hide
import Derived.WalkSpells
namespace Go.Proofs.Ytcfpiamdkdedlaa.AllsLaw
open Go.RowKit Go.Proofs.YtcfpiamdkdedlaaW.PrintWords Go.Proofs.YtcfpiamdkdedlaaW.PrintLast Go.Proofs.YtcfpiamdkdedlaaW.PrintMore Go.Proofs.Ytcfpiamdkdedlaa.PCodeAlls Go.Proofs.Ytcfpiamdkdedlaa.AllsPure
set_option linter.unusedVariables false
set_option linter.unusedSimpArgs false

theorem info29 : (Try.prog.info? 29).map (fun i => (i.zero, i.size, i.bytes)) = some (some (.agg #[.int .i64 0, .int .u8 0, .int .i64 0, .int .i64 0]), 4, 32) := by kernel_rfl

set_option maxHeartbeats 1000000 in
set_option maxRecDepth 100000 in
theorem clone_any (A : Option Addr) (c : Nat) (l : List S29) (w : World) (hr : Kd.C k29 w A l.length l) (hc : l.length ≤ c) (hl : l.length * 32 ≤ 140737488351232) :
    Calls Try.prog 28 #[.slice A l.length c] w fun e w' => ∃ v0, e = .returned v0 ∧ Kd.R k29 29 w' w.heap.size (fun _ => True) v0 l ∧ Below w.heap.size w w' := by
  have hnil := fun (W : World) => Lib.run_eql_slice_nil (P := Try.prog) W 41 29 A l.length c 0 0 Try.underlying41
  rcases A with _ | ad
  · have e0 : l = [] := by
      rcases Nat.eq_zero_or_pos l.length with h | h
      · exact List.eq_nil_of_length_eq_zero h
      · obtain ⟨ad, h, _⟩ := hr.2.2 h
        cases h
    have HL := Lib.hid e0
    clear e0
    go_enter Try.func28, Try.ntmps28
    go_wp2
    go_ret
    exact ⟨_, rfl, by rw [HL.out]; exact Kd.R_nil _ _ _ _ _, Below.refl _ _⟩
  · have HR := Lib.hid hr
    clear hr
    go_enter Try.func28, Try.ntmps28
    have hO : Kd.R k29 29 (w.alloc (.cells #[] 29)) w.heap.size (fun _ => True) (.slice (some ⟨w.heap.size, 0, none⟩) 0 0) [] := by
      refine ⟨fun _ _ => trivial, [], ?_, ?_⟩
      · have h2 := World.ownsRow_lit (base := w.heap.size) (e := 29) (size := 4) w #[] 0 (Nat.le_refl _) (by simp [maxLen]) (by simp)
        have h3 : (w.alloc (.cells #[] 29)).ownsRow w.heap.size 29 4 (.slice (some ⟨w.heap.size, 0, none⟩) 0 0) 0 [] := by simpa using h2
        exact h3
      · exact ⟨by simp, fun j p hj => by simp at hj⟩
    have HO := Lib.hid hO
    clear hO
    go_wp2_with (at_builtin; refine Kd.R_append_rows k29 (w0 := w) w.heap.size rfl (.tmp 5) (.tmp 6) 41 29 (.agg #[.int .i64 0, .int .u8 0, .int .i64 0, .int .i64 0]) 32 rfl Try.underlying41 info29 rfl (by decide) (by omega) _ [] l (some ad) l.length c (fun _ => True) (fun _ => False) rfl rfl HO.out ?aR (fun _ _ h => h) (fun _ h => h.elim) (fun _ _ => trivial) ?aB ?aS ?aL ?_; (case aR => exact Kd.C_alloc HR.out _); (case aB => exact below_alloc (Below.refl _ _) _); (case aS => simp); (case aL => simp; omega); intro v1 w1 ho hb _ _; have H1 := Lib.hid ho; have H2 := Lib.hid hb; clear ho hb)
    go_ret
    exact ⟨_, rfl, H1.out, H2.out⟩

set_option maxHeartbeats 2000000 in
set_option maxRecDepth 100000 in
theorem alls_law (A : Option Addr) (c : Nat) (l : List S29) (w : World) (hr : Kd.C k29 w A l.length l) (hc : l.length ≤ c) (hl : l.length * 32 ≤ 140737488351232) (hb : ∀ x ∈ l, 0 ≤ x.f1 ∧ x.f1 ≤ 255) :
    Calls Try.prog 6 #[.slice A l.length c] w fun e w' => e = .returned (.bool true) ∧ Below w.heap.size w w' := by
  have HR := Lib.hid hr
  have HA := Lib.hid (all_f l (by omega) hb)
  have HRA := Lib.hid (rall_f l (by omega) hb)
  have HE := Lib.hid (eq_bytes_f _ (allS_len l))
  have HEI := Lib.hid (eq_instrs_f l (by omega))
  obtain ⟨⟨b, n, e⟩, hbn⟩ : ∃ x, x = allS l := ⟨_, rfl⟩
  rw [← hbn] at HA HRA HE
  simp only at HE
  clear hbn hr
  go_enter Try.func6, Try.ntmps6
  go_wp2_with fail
  refine (clone_any A c l _ HR.out hc hl).mono ?_
  rintro e1 w1 ⟨v1, rfl, ho1, b1⟩
  obtain ⟨A1, c1, rfl⟩ := Kd.R_slice ho1
  have HO1 := Lib.hid ho1
  have hc1 := (Kd.R_reads' ho1).2.1
  have HB1 := Lib.hid b1
  clear ho1 b1
  go_wp2_with fail
  refine (code_All.calls _ A1 c1 l b n e w1 (Kd.R_reads' HO1.out).2.2 hc1 HA.out).mono ?_
  rintro e2 w2 ⟨v2, rfl, ho2, b2⟩
  obtain ⟨A2, c2, rfl⟩ := Kd.R_slice ho2
  have HO2 := Lib.hid ho2
  have hc2 := (Kd.R_reads' ho2).2.1
  have HB2 := Lib.hid (HB1.out.trans (b2.mono HB1.out.size))
  have HO1b := Lib.hid (Kd.R_below HO1.out b2)
  have HRb := Lib.hid (Kd.C_below (Kd.C_below HR.out HB1.out) (b2.mono (Nat.le_refl _)))
  clear ho2 b2
  go_wp2_with fail
  refine (provisoref04_All.calls _ A c l b n e w2 HRb.out hc HRA.out).mono ?_
  rintro e3 w3 ⟨v3, rfl, ho3, b3⟩
  obtain ⟨A3, c3, rfl⟩ := Kd.R_slice ho3
  have HO3 := Lib.hid ho3
  have hc3 := (Kd.R_reads' ho3).2.1
  have HB3 := Lib.hid (HB2.out.trans (b3.mono HB2.out.size))
  have HO1c := Lib.hid (Kd.R_below HO1b.out b3)
  have HO2c := Lib.hid (Kd.R_below HO2.out b3)
  have HRc := Lib.hid (Kd.C_below HRb.out b3)
  clear ho3 b3
  go_wp2_with fail
  refine (slices_Equal_byte_byte.calls 5000 A2 c2 b A3 c3 b true w3 (Kd.R_reads' HO2c.out).2.2 hc2 (Kd.R_reads' HO3.out).2.2 hc3 HE.out).mono ?_
  rintro e4 w4 ⟨rfl, ⟨⟨n4, rfl⟩⟩⟩
  go_wp2_with fail
  refine (api_Instr_31.calls _ A1 c1 l A c l true _ (Kd.C_below (Kd.R_reads' HO1c.out).2.2 (pw_below_drewN (Below.refl _ _) _)) hc1 (Kd.C_below HRc.out (pw_below_drewN (Below.refl _ _) _)) hc HEI.out).mono ?_
  rintro e5 w5 ⟨rfl, ⟨⟨n5, rfl⟩⟩⟩
  go_wp2
  go_ret
  exact ⟨rfl, pw_below_drewN HB3.out _⟩
end Go.Proofs.Ytcfpiamdkdedlaa.AllsLaw
