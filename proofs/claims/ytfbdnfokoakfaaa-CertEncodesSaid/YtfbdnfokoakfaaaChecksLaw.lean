/- provisolaw06.CertChecks: its walk. -/
import Derived.Test.YtfbdnfokoakfaaaSameC
namespace Go.Proofs.Ytfbdnfokoakfaaa.Ct
open Go.RowKit Go.Proofs.YtfbdnfokoakfaaaW.PrintWords Go.Proofs.YtfbdnfokoakfaaaW.PrintLast Go.Proofs.YtfbdnfokoakfaaaW.PrintMore
set_option linter.unusedVariables false
set_option linter.unusedSimpArgs false

/-- The box of a certificate, with what lies in it. -/
structure CtBox (W : World) (g : Nat) (L : Int) (A : Option Addr) (c : Nat) (l : List En) : Prop where
  a : W.heap[g]? = some (.cells #[.int .i64 L, .slice A l.length c] 24 (0, 0))
  r : Kd.C kEn W A l.length l
theorem CtBox.next {W W2 : World} {g : Nat} {L : Int} {A : Option Addr} {c : Nat} {l : List En} (h : CtBox W g L A c l) (b : Below W.heap.size W W2) : CtBox W2 g L A c l :=
  ⟨blk_below h.a b, Kd.C_below h.r b⟩
theorem CtBox.drewN {W : World} {g : Nat} {L : Int} {A : Option Addr} {c : Nat} {l : List En} (h : CtBox W g L A c l) (n : Nat) : CtBox (W.drewN n) g L A c l := h.next (pw_below_drewN (Below.refl _ _) n)

set_option maxHeartbeats 2000000 in
set_option maxRecDepth 100000 in
theorem checks_law (L : Int) (A : Option Addr) (c : Nat) (l : List En) (w : World) (hr : Kd.C kEn w A l.length l) (hc : l.length ≤ c) (hl : l.length * 56 ≤ 140737488351232) :
    Calls Try.prog 3 #[.agg #[.int .i64 L, .slice A l.length c]] w fun e w' => e = .returned (.bool true) ∧ Below w.heap.size w w' := by
  have HC := Lib.hid (fun W h => copied_c L A c l W h hc hl)
  have HK := Lib.hid (fun A c W h => check_c L A c l W h)
  have HQ := Lib.hid (fun A c W h => rcheck_c L A c l W h)
  have HS := Lib.hid (fun A1 A2 c1 c2 W h1 h2 => same_c L A1 A2 c1 c2 l W h1 h2)
  obtain ⟨⟨n, e⟩, hne⟩ : ∃ x, x = checkS L l := ⟨_, rfl⟩
  rw [← hne] at HK HQ
  have HR := Lib.hid hr
  clear hne hr
  go_enter Try.func3, Try.ntmps3
  go_wp2_with fail
  refine (HC.out _ (Kd.C_alloc HR.out _)).mono ?_
  rintro e1 w1 ⟨A1, c1, rfl, ho1, b1⟩
  have B0 : CtBox w1 w.heap.size L A c l := CtBox.next ⟨blk_new w _, Kd.C_alloc HR.out _⟩ b1
  have HB0 := Lib.hid B0
  have HO1 := Lib.hid ho1
  have HL1 := Lib.hid (b1.mono (w := w.alloc (.cells #[.int .i64 L, .slice A l.length c] 24)) (Nat.le_refl _))
  clear B0 ho1 b1
  go_wp2_with fail
  have B1 : CtBox (w1.alloc (.cells #[.int .i64 L, .slice A1 l.length c1] 24)) w1.heap.size L A1 c1 l := ⟨blk_new w1 _, Kd.C_alloc (Kd.R_reads' HO1.out).2.2 _⟩
  have HBW := Lib.hid (show Below w.heap.size w (w1.alloc (.cells #[.int .i64 L, .slice A1 l.length c1] 24)) from below_alloc ((below_alloc (Below.refl _ _) _).trans (HL1.out.mono (Nat.le_of_lt (by rw [World.size_alloc]; exact Nat.lt_succ_self _)))) _)
  refine (HK.out _ _ _ B1.r).mono ?_
  rintro e2 w2 ⟨rfl, b2⟩
  have B1' := B1.next b2
  have B0' := (HB0.out.next (below_alloc (Below.refl _ _) (.cells #[.int .i64 L, .slice A1 l.length c1] 24))).next b2
  have k0 := blk_cell B0'.a 0
  have k1 := blk_cell B0'.a 1
  simp only [List.getElem?_toArray, List.getElem?_cons_zero, List.getElem?_cons_succ] at k0 k1
  have HB2 := Lib.hid (HBW.out.trans (b2.mono HBW.out.size))
  have H1 := Lib.hid B1'
  have H0 := Lib.hid B0'
  clear B1 B1' B0' b2
  go_wp2_with fail
  refine (HQ.out _ _ _ H0.out.r).mono ?_
  rintro e3 w3 ⟨rfl, b3⟩
  have B1 := H1.out.next b3
  have B0 := H0.out.next b3
  have j0 := blk_cell B0.a 0
  have j1 := blk_cell B0.a 1
  have m0 := blk_cell B1.a 0
  have m1 := blk_cell B1.a 1
  simp only [List.getElem?_toArray, List.getElem?_cons_zero, List.getElem?_cons_succ] at j0 j1 m0 m1
  have HB3 := Lib.hid (HB2.out.trans (b3.mono HB2.out.size))
  have G1 := Lib.hid B1
  have G0 := Lib.hid B0
  clear B1 B0 b3 k0 k1
  go_wp2_with fail
  refine (HS.out _ _ _ _ _ G1.out.r G0.out.r).mono ?_
  rintro e4 w4 ⟨rfl, b4⟩
  have HB4 := Lib.hid (HB3.out.trans (b4.mono HB3.out.size))
  go_wp2
  go_ret
  exact ⟨rfl, HB4.out⟩
theorem checks_row (L : Int) (A : Option Addr) (c : Nat) (l : List En) (w : World) (hl : l.length * 56 ≤ 140737488351232) (hc : l.length ≤ c) (hr : Kd.C kEn w A l.length l) :
    Calls Try.prog 3 #[.agg #[.int .i64 L, .slice A l.length c]] w fun e w' => e = .returned (.bool true) ∧ Below w.heap.size w w' := checks_law L A c l w hr hc hl
end Go.Proofs.Ytfbdnfokoakfaaa.Ct
