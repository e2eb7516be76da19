/- provisolaw10's awake and blank. -/
import Derived.Test.YthaejpkldpkddaaDoorViewV
import Derived.Test.YthaejpkldpkddaaDoorScnScan
namespace Go.Proofs.YthaejpkldpkddaaDoor.Scn
open Go.RowKit Go.Proofs.YthaejpkldpkddaaDoorW.PrintWords Go.Proofs.YthaejpkldpkddaaDoorW.PrintLast Go.Proofs.YthaejpkldpkddaaDoorW.PrintMore
set_option linter.unusedVariables false
set_option linter.unusedSimpArgs false
attribute [local go_sem] drewN_set drewN_new

def awakeL : List Tok := [⟨1, 0, 1, 0, ⟨#[97]⟩⟩, ⟨40, 1, 3, 0, ⟨#[]⟩⟩, ⟨2, 3, 4, 7, ⟨#[]⟩⟩]
theorem awake_v : scanV ⟨#[97, 60, 61, 55]⟩ = .ok awakeL := by kernel_rfl

set_option maxHeartbeats 2000000 in
set_option maxRecDepth 100000 in
theorem awake_any (w : World) : Calls Tryd.prog 4 #[] w fun e w' => e = .returned (.bool true) ∧ Below w.heap.size w w' := by
  have HS := Lib.hid (show ∀ W, Calls Tryd.prog 5 #[.string ⟨#[97, 60, 61, 55]⟩] W (ScanPost (.ok awakeL) W) from fun W => by have h := scan_any ⟨#[97, 60, 61, 55]⟩ W; rw [awake_v] at h; exact h)
  have hu36 := Tryd.underlying31
  go_enter Tryd.func4, Tryd.ntmps4
  go_wp2_with (go_at_call 5; refine (HS.out _).mono ?_; rintro e w1 ⟨A, c, rfl, ho, b1⟩; have hr := (Kd.R_reads' ho).2.2; obtain ⟨ad, e1, hx0, hx1, hx2, hx3, hx4⟩ := PLexBlanks.at_T31 hr 1 (by decide) (by decide); obtain ⟨ad', e2, hy0, hy1, hy2, hy3, hy4⟩ := PLexBlanks.at_T31 hr 2 (by decide) (by decide); cases e1; cases e2; simp only [show PLexBlanks.rd_T31 awakeL 1 = ⟨40, 1, 3, 0, ⟨#[]⟩⟩ from rfl, show PLexBlanks.rd_T31 awakeL 2 = ⟨2, 3, 4, 7, ⟨#[]⟩⟩ from rfl, show awakeL.length = 3 from rfl] at hx0 hx1 hx2 hx3 hx4 hy0 hy1 hy2 hy3 hy4 ⊢; simp [Addr.add] at hx0 hy3; clear hx1 hx2 hx3 hx4 hy0 hy1 hy2 hy4)
  go_ret
  exact ⟨rfl, b1⟩

end Go.Proofs.YthaejpkldpkddaaDoor.Scn
