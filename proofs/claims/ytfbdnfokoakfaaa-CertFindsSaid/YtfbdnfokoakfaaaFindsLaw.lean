/- provisolaw06.CertFinds: its walk. -/
import Derived.Test.YtfbdnfokoakfaaaFindC
import Derived.Test.YtfbdnfokoakfaaaBackP
import Derived.Test.YtfbdnfokoakfaaaReadsLaw
namespace Go.Proofs.Ytfbdnfokoakfaaa.Ct
open Go.RowKit Go.Proofs.YtfbdnfokoakfaaaW.PrintWords Go.Proofs.YtfbdnfokoakfaaaW.PrintLast Go.Proofs.YtfbdnfokoakfaaaW.PrintMore Go.Proofs.Ytfbdnfokoakfaaa.CloneC
set_option linter.unusedVariables false
set_option linter.unusedSimpArgs false

theorem decE_wf (b : List Int) (hb : ∀ x, x ∈ b → 0 ≤ x ∧ x ≤ 255) : ∀ x, x ∈ decE b → x.fr.wf := by
  unfold decE
  by_cases hz : (toldS b).2.2.2 = 0
  · rw [if_pos hz]
    obtain ⟨L, n, hh, _⟩ := told_ok b hz
    exact (encS_told b hb L n hh hz).2.2
  · rw [if_neg hz]; intro x hx; cases hx
theorem findE_wf (l : List En) (h : ∀ x, x ∈ l → x.fr.wf) (a : Int) : (findE l a).1.fr.wf := by
  unfold findE
  cases e : l.find? (fun x => x.at_ == a) with
  | none => exact fr0_wf
  | some x => exact h x (List.mem_of_find?_eq_some e)
theorem findR_wf (b : List Int) (hb : ∀ x, x ∈ b → 0 ≤ x ∧ x ≤ 255) (a : Int) : (findR b a).1.fr.wf := by
  unfold findR
  by_cases hz : (toldS b).2.2.2 = 0
  · rw [if_pos hz]; exact findE_wf _ (decE_wf b hb) a
  · rw [if_neg hz]; exact fr0_wf

set_option maxHeartbeats 8000000 in
set_option maxRecDepth 100000 in
theorem finds_law (A : Option Addr) (c : Nat) (b : List Int) (a : Int) (w : World) (h : ByR w A c b) : Calls Try.prog 9 #[.slice A b.length c, .int .i64 a] w fun e w' => e = .returned (.bool true) ∧ Below w.heap.size w w' := by
  have HB := Lib.hid h
  have hl48 := h.l
  have HRo := Lib.hid (roomy_any A c b w h.r h.c h.l)
  have E4 : Hid ((b ++ ([165, 90, 195, 60] : List Int)).length = b.length + 4) := Lib.hid (by simp)
  have HD1 := Lib.hid (fun A c W (h : ByR W A c b) => find_c A c b a W h)
  have HD2 := Lib.hid (fun A c W (h : ByR W A c b) => rfind_c A c b a W h)
  have HWf := Lib.hid (findR_wf b h.y a)
  unfold FdPost at HD1 HD2
  obtain ⟨⟨x, f, q⟩, hr⟩ : ∃ r, r = findR b a := ⟨_, rfl⟩
  rw [← hr] at HD1 HD2 HWf
  clear h hr
  go_enter Try.func9, Try.ntmps9
  go_upto_region 3 with (first | (go_at_call 26; refine HRo.out.mono ?_; rintro e w1 ⟨g0, cap, rfl, ho, hcap, hb1⟩; have HAll := Lib.hid ho; have HB1 := Lib.hid hb1; have HCap := Lib.hid hcap; clear ho hb1 hcap) | (go_at_call 31; refine (HD1.out _ _ _ ⟨front HAll.out, by have := HCap.out; omega, HB.out.y, HB.out.l⟩).mono ?_; rintro e w2 ⟨rfl, hb2⟩; have HB2 := Lib.hid hb2; clear hb2) | ((with_reducible refine gate_dst (N := 7) rfl ?_); refine wpList_alloc_box rfl rfl ?_; intro W3 hW3 hbe3 hs3) | ((with_reducible refine gate_store (t := 44) (p := 7) rfl ?_); refine wpList_store_box rfl (.tmp 7) (.tmp 22) rfl w2.heap.size hW3 fr0_wf x HWf.out rfl rfl ?_; intro W4 hW4 ho4))
  have hb4 := below_only hbe3 ho4 (Nat.le_refl _)
  have H7 := Lib.hid hW4
  have hb24 := below_then HB2.out HB2.out.size hb4
  have HBa := Lib.hid (below_then HB1.out HB1.out.size hb24)
  have HAlla := Lib.hid (Kd.R_below HAll.out hb24)
  obtain ⟨g7, hg7⟩ : ∃ g7, g7 = w2.heap.size := ⟨_, rfl⟩
  rw [← hg7] at H7 ⊢
  clear hW4 ho4 hW3 hbe3 hs3 hb4 hb24 HB2 HB1 HAll hg7 HRo
  go_upto_region 4 with (first | (go_at_call 32; refine (HD2.out _ _ _ (HB.out.next HBa.out)).mono ?_; rintro e w5 ⟨rfl, hb5⟩; have HB5 := Lib.hid hb5; clear hb5) | ((with_reducible refine gate_dst (N := 10) rfl ?_); refine wpList_alloc_box rfl rfl ?_; intro W6 hW6 hbe6 hs6) | ((with_reducible refine gate_store (t := 44) (p := 10) rfl ?_); refine wpList_store_box rfl (.tmp 10) (.tmp 29) rfl w5.heap.size hW6 fr0_wf x HWf.out rfl rfl ?_; intro W7 hW7 ho7))
  have hb7 := below_only hbe6 ho7 (Nat.le_refl _)
  have H10 := Lib.hid hW7
  have hb57 := below_then HB5.out HB5.out.size hb7
  have HBb := Lib.hid (below_then HBa.out HBa.out.size hb57)
  have HAllb := Lib.hid (Kd.R_below HAlla.out hb57)
  have H7b := Lib.hid (blk_below H7.out hb57)
  obtain ⟨g10, hg10⟩ : ∃ g10, g10 = w5.heap.size := ⟨_, rfl⟩
  rw [← hg10] at H10 ⊢
  clear hW7 ho7 hW6 hbe6 hs6 hb7 hb57 HB5 HBa HAlla hg10 H7 HD1 HD2
  have HU := Lib.hid (PCertReads.provisoplain_Untouched.calls (b.length + 1) (some g0) cap (b ++ [165, 90, 195, 60]) A c b true W7 (Kd.R_reads' HAllb.out).2.2 (by simp; exact HCap.out) (HB.out.next HBb.out).r HB.out.c (untouched_is b hl48))
  rw [E4.out] at HU
  go_wp2_with (first | ((with_reducible refine gate_dst (N := 32) rfl ?_); refine wpList_load_any rfl 44 (.tmp 7) rfl ⟨g7, 0, none⟩ rfl (enC x) _ (rng_of (range_blk H7b.out)) Try.underlying44 rfl (by rw [enC_len HWf.out]; kernel_rfl) ?_) | ((with_reducible refine gate_dst (N := 33) rfl ?_); refine wpList_load_any rfl 44 (.tmp 10) rfl ⟨g10, 0, none⟩ rfl (enC x) _ (rng_of (range_blk H10.out)) Try.underlying44 rfl (by rw [enC_len HWf.out]; kernel_rfl) ?_) | ((with_reducible refine gate_dst (N := 34) rfl ?_); refine Kd.event_run rfl (run_eql44 (f := x) (g := x) rfl rfl rfl HWf.out HWf.out _) ?_; rw [eqE_self]) | (go_at_call 29; refine HU.out.mono ?_; rintro e w9 ⟨rfl, ⟨⟨n9, rfl⟩⟩⟩))
  go_ret
  exact ⟨by first | rfl | simp, pw_below_drewN HBb.out _⟩
theorem finds_row (A : Option Addr) (c : Nat) (l : List Int) (a : Int) (W : World) (y : l.length * 1 ≤ 140737488351232) (hc : l.length ≤ c) (hC : Kd.C (Kd.int .u8) W A l.length l) (hw : ∀ n ∈ l, (Lit.int .u8 n).wf = true) (ha : (Lit.int .i64 a).wf = true) :
    Calls Try.prog 9 #[.slice A l.length c, .int .i64 a] W fun e W' => e = .returned (.bool true) ∧ Below W.heap.size W W' :=
  finds_law A c l a W ⟨hC, hc, u8_rows hw, by omega⟩
end Go.Proofs.Ytfbdnfokoakfaaa.Ct
