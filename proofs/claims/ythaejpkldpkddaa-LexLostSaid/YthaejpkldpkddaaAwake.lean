/- provisolaw10's awake and blank. -/
import Derived.Test.YthaejpkldpkddaaViewV
namespace Go.Proofs.Ythaejpkldpkddaa.Scn
open Go.RowKit Go.Proofs.YthaejpkldpkddaaW.PrintWords Go.Proofs.YthaejpkldpkddaaW.PrintLast Go.Proofs.YthaejpkldpkddaaW.PrintMore
set_option linter.unusedVariables false
set_option linter.unusedSimpArgs false
attribute [local go_sem] drewN_set drewN_new

def awakeL : List Tok := [⟨1, 0, 1, 0, ⟨#[97]⟩⟩, ⟨40, 1, 3, 0, ⟨#[]⟩⟩, ⟨2, 3, 4, 7, ⟨#[]⟩⟩]
theorem awake_v : scanV ⟨#[97, 60, 61, 55]⟩ = .ok awakeL := by kernel_rfl

set_option maxHeartbeats 2000000 in
set_option maxRecDepth 100000 in
theorem awake_any (w : World) : Calls Try.prog 15 #[] w fun e w' => e = .returned (.bool true) ∧ Below w.heap.size w w' := by
  have HS := Lib.hid (show ∀ W, Calls Try.prog 16 #[.string ⟨#[97, 60, 61, 55]⟩] W (ScanPost (.ok awakeL) W) from fun W => by have h := scan_any ⟨#[97, 60, 61, 55]⟩ W; rw [awake_v] at h; exact h)
  have hu36 := Try.underlying36
  go_enter Try.func15, Try.ntmps15
  go_wp2_with (go_at_call 16; refine (HS.out _).mono ?_; rintro e w1 ⟨A, c, rfl, ho, b1⟩; have hr := (Kd.R_reads' ho).2.2; obtain ⟨ad, e1, hx0, hx1, hx2, hx3, hx4⟩ := PLexScans.at_T36 hr 1 (by decide) (by decide); obtain ⟨ad', e2, hy0, hy1, hy2, hy3, hy4⟩ := PLexScans.at_T36 hr 2 (by decide) (by decide); cases e1; cases e2; simp only [show PLexScans.rd_T36 awakeL 1 = ⟨40, 1, 3, 0, ⟨#[]⟩⟩ from rfl, show PLexScans.rd_T36 awakeL 2 = ⟨2, 3, 4, 7, ⟨#[]⟩⟩ from rfl, show awakeL.length = 3 from rfl] at hx0 hx1 hx2 hx3 hx4 hy0 hy1 hy2 hy3 hy4 ⊢; simp [Addr.add] at hx0 hy3; clear hx1 hx2 hx3 hx4 hy0 hy1 hy2 hy4)
  go_ret
  exact ⟨rfl, b1⟩

theorem blank_any (s : ByteArray) (hs : s.size ≤ 65536) (w : World) : Calls Try.prog 17 #[.string s] w fun e w' => e = .returned (.bool (decide (blankV s 0 = s.size))) ∧ Drawn0 w w' := by
  have HB := Lib.hid (fun W => PLexScans.provisoref10_Blanks.calls _ s 0 (blankV s 0) W (ref_blank_v s hs 0 _ (Nat.zero_le _) (Nat.le_refl _)))
  go_enter Try.func17, Try.ntmps17
  go_wp2_with (go_at_call 25; refine (HB.out _).mono ?_; rintro e w1 ⟨rfl, ⟨⟨n1, rfl⟩⟩⟩)
  go_ret
  refine ⟨?_, ⟨⟨n1, rfl⟩⟩⟩
  simp
  by_cases h : blankV s 0 = s.size
  · simp [h]
  · rw [decide_eq_false h]; simp; omega
end Go.Proofs.Ythaejpkldpkddaa.Scn
