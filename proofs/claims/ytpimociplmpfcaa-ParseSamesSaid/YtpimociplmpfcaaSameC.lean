/- parse.sameExprs, sameParams, sameStmts: their walks. -/
import Derived.Test.YtpimociplmpfcaaCloC
namespace Go.Proofs.Ytpimociplmpfcaa.Sam
open Go.RowKit Go.Proofs.YtpimociplmpfcaaW.PrintWords Go.Proofs.YtpimociplmpfcaaW.PrintLast Go.Proofs.YtpimociplmpfcaaW.PrintMore Go.Proofs.Ytpimociplmpfcaa.PParseSames
set_option linter.unusedVariables false
set_option linter.unusedSimpArgs false
attribute [local go_sem] drewN_set drewN_new

set_option maxHeartbeats 2000000 in
set_option maxRecDepth 100000 in
theorem exprs_c : ∀ (n : Nat) (a b : List S49) (A : Option Addr) (c : Nat) (A' : Option Addr) (c' : Nat) (w : World), SizeOf.sizeOf a ≤ n → Kd.C k49 w A a.length a → a.length ≤ c → Kd.C k49 w A' b.length b → b.length ≤ c' →
    Calls Try.prog 25 #[.slice A a.length c, .slice A' b.length c'] w fun e w' => e = .returned (.bool (sameE n a b)) ∧ Below w.heap.size w w'
  | 0, a, b, A, c, A', c', w, hz, _, _, _, _ => by have := list_pos a; omega
  | n + 1, a, b, A, c, A', c', w, hz, ha, hca, hb, hcb => by
    have HQ := Lib.hid (q28 (eqX (sameE n)) a b A c A' c' w ha hca hb hcb (fun x y hx hy A4a c4a A4b c4b W ga la gb lb => e29 (sameE n) x.f0 x.f1 x.f2 x.f3 x.f4 x.f5 x.f6 x.f7 y.f0 y.f1 y.f2 y.f3 y.f4 y.f5 y.f6 y.f7 A4a c4a A4b c4b W (fun W' hW' => exprs_c n x.f4 y.f4 A4a c4a A4b c4b W' (by have := kids_lt hx; omega) (Kd.C_below ga hW') la (Kd.C_below gb hW') lb)))
    clear ha hca hb hcb hz
    go_enter Try.func25, Try.ntmps25
    go_wp2_with fail
    refine HQ.out.mono ?_
    rintro e w1 ⟨rfl, hb1⟩
    go_wp2
    go_ret
    exact ⟨rfl, hb1⟩

set_option maxHeartbeats 2000000 in
set_option maxRecDepth 100000 in
theorem params_c (a b : List S34) (A : Option Addr) (c : Nat) (A' : Option Addr) (c' : Nat) (w : World) (ha : Kd.C k34 w A a.length a) (hca : a.length ≤ c) (hb : Kd.C k34 w A' b.length b) (hcb : b.length ≤ c') :
    Calls Try.prog 12 #[.slice A a.length c, .slice A' b.length c'] w fun e w' => e = .returned (.bool (sameP a b)) ∧ Below w.heap.size w w' := by
  have HQ := Lib.hid (q21 eqP a b A c A' c' w ha hca hb hcb (fun x y hx hy W => e22 x y W))
  clear ha hca hb hcb
  go_enter Try.func12, Try.ntmps12
  go_wp2_with fail
  refine HQ.out.mono ?_
  rintro e w1 ⟨rfl, hb1⟩
  go_wp2
  go_ret
  exact ⟨rfl, hb1⟩

set_option maxHeartbeats 2000000 in
set_option maxRecDepth 100000 in
theorem stmts_c : ∀ (n : Nat) (a b : List S47) (A : Option Addr) (c : Nat) (A' : Option Addr) (c' : Nat) (w : World), SizeOf.sizeOf a ≤ n → Kd.C k47 w A a.length a → a.length ≤ c → Kd.C k47 w A' b.length b → b.length ≤ c' →
    Calls Try.prog 15 #[.slice A a.length c, .slice A' b.length c'] w fun e w' => e = .returned (.bool (sameS n a b)) ∧ Below w.heap.size w w'
  | 0, a, b, A, c, A', c', w, hz, _, _, _, _ => by have := list_pos a; omega
  | n + 1, a, b, A, c, A', c', w, hz, ha, hca, hb, hcb => by
    have HQ := Lib.hid (q23 (eqS (sameE n) (sameS n)) a b A c A' c' w ha hca hb hcb (fun x y hx hy A5a c5a A6a c6a A7a c7a A5b c5b A6b c6b A7b c7b W g5a l5a g6a l6a g7a l7a g5b l5b g6b l6b g7b l7b =>
      e24 (sameE n) (sameS n) x y A5a c5a A6a c6a A7a c7a A5b c5b A6b c6b A7b c7b W
        (fun W' hW' => exprs_c n x.f5 y.f5 _ _ _ _ W' (by have := stmt_lt hx; omega) (Kd.C_below g5a hW') l5a (Kd.C_below g5b hW') l5b)
        (fun W' hW' => stmts_c n x.f6 y.f6 _ _ _ _ W' (by have := stmt_lt hx; omega) (Kd.C_below g6a hW') l6a (Kd.C_below g6b hW') l6b)
        (fun W' hW' => stmts_c n x.f7 y.f7 _ _ _ _ W' (by have := stmt_lt hx; omega) (Kd.C_below g7a hW') l7a (Kd.C_below g7b hW') l7b)))
    clear ha hca hb hcb hz
    go_enter Try.func15, Try.ntmps15
    go_wp2_with fail
    refine HQ.out.mono ?_
    rintro e w1 ⟨rfl, hb1⟩
    go_wp2
    go_ret
    exact ⟨rfl, hb1⟩

set_option maxHeartbeats 2000000 in
set_option maxRecDepth 100000 in
theorem same_c (n : Nat) (ra rb : List S30) (fa fb : List S37) (Ar : Option Addr) (cr : Nat) (Af : Option Addr) (cf : Nat) (Br : Option Addr) (dr : Nat) (Bf : Option Addr) (df : Nat) (w : World) (hz : ∀ x, x ∈ fa → SizeOf.sizeOf x.f4 ≤ n)
    (h1 : Kd.C k30 w Ar ra.length ra) (l1 : ra.length ≤ cr) (h2 : Kd.C k37 w Af fa.length fa) (l2 : fa.length ≤ cf) (h3 : Kd.C k30 w Br rb.length rb) (l3 : rb.length ≤ dr) (h4 : Kd.C k37 w Bf fb.length fb) (l4 : fb.length ≤ df) :
    Calls Try.prog 5 #[.agg #[.slice Ar ra.length cr, .slice Af fa.length cf], .agg #[.slice Br rb.length dr, .slice Bf fb.length df]] w fun e w' => e = .returned (.bool (sameG n ra rb fa fb)) ∧ Below w.heap.size w w' := by
  have HR := Lib.hid (fun W (hW : Below w.heap.size w W) => q10 eqR ra rb Ar cr Br dr W (Kd.C_below h1 hW) l1 (Kd.C_below h3 hW) l3 (fun x y hx hy A3a c3a A3b c3b W ga la gb lb => e11 x y A3a c3a A3b c3b W (fun W' hW' => params_c x.f3 y.f3 _ _ _ _ W' (Kd.C_below ga hW') la (Kd.C_below gb hW') lb)))
  have HF := Lib.hid (fun W (hW : Below w.heap.size w W) => q13 (eqF n) fa fb Af cf Bf df W (Kd.C_below h2 hW) l2 (Kd.C_below h4 hW) l4 (fun x y hx hy A3a c3a A4a c4a A3b c3b A4b c4b W g3a l3a g4a l4a g3b l3b g4b l4b => e14 n x y A3a c3a A4a c4a A3b c3b A4b c4b W
    (fun W' hW' => params_c x.f3 y.f3 _ _ _ _ W' (Kd.C_below g3a hW') l3a (Kd.C_below g3b hW') l3b)
    (fun W' hW' => stmts_c n x.f4 y.f4 _ _ _ _ W' (hz x hx) (Kd.C_below g4a hW') l4a (Kd.C_below g4b hW') l4b)))
  have hu := Try.underlying25
  have hb0 : Hid (Below w.heap.size w ((w.alloc (.cells #[.slice Ar ra.length cr, .slice Af fa.length cf] 25)).alloc (.cells #[.slice Br rb.length dr, .slice Bf fb.length df] 25))) := Lib.hid (below_alloc (below_alloc (Below.refl _ _) _) _)
  have kx0 : Hid (((w.alloc (.cells #[.slice Ar ra.length cr, .slice Af fa.length cf] 25)).alloc (.cells #[.slice Br rb.length dr, .slice Bf fb.length df] 25)).heap[w.heap.size]? = some (.cells #[.slice Ar ra.length cr, .slice Af fa.length cf] 25 (0, 0))) := Lib.hid (blk_alloc (blk_new w _) _)
  have ky0 : Hid (((w.alloc (.cells #[.slice Ar ra.length cr, .slice Af fa.length cf] 25)).alloc (.cells #[.slice Br rb.length dr, .slice Bf fb.length df] 25)).heap[w.heap.size + 1]? = some (.cells #[.slice Br rb.length dr, .slice Bf fb.length df] 25 (0, 0))) := Lib.hid (by have := blk_new (w.alloc (.cells #[.slice Ar ra.length cr, .slice Af fa.length cf] 25)) (.cells #[.slice Br rb.length dr, .slice Bf fb.length df] 25); rwa [World.size_alloc] at this)
  clear h1 h2 h3 h4 hz
  unfold sameG
  obtain ⟨r, hr⟩ : ∃ r, r = sameL eqR ra rb := ⟨_, rfl⟩
  have HRr := Lib.hid hr
  cases r with
  | true =>
    rw [← hr]
    simp only [Bool.true_and]
    clear hr
    go_enter Try.func5, Try.ntmps5
    go_wp2_with fail
    refine (HR.out _ hb0.out).mono ?_
    rintro e w1 ⟨rfl, hb⟩
    have hb1 := Lib.hid (hb0.out.trans (hb.mono hb0.out.size))
    have kx1 := Lib.hid (blk_below kx0.out hb)
    have ky1 := Lib.hid (blk_below ky0.out hb)
    have fx : w1.cell? ⟨w.heap.size, 1, none⟩ = some (.slice Af fa.length cf) := (blk_cell kx1.out 1).trans rfl
    have fy : w1.cell? ⟨w.heap.size + 1, 1, none⟩ = some (.slice Bf fb.length df) := (blk_cell ky1.out 1).trans rfl
    clear hb
    rw [← HRr.out]
    go_wp2_with fail
    refine (HF.out _ hb1.out).mono ?_
    rintro e w2 ⟨rfl, hb⟩
    have hb2 := Lib.hid (hb1.out.trans (hb.mono hb1.out.size))
    clear hb
    go_wp2
    go_ret
    exact ⟨by simp, hb2.out⟩
  | false =>
    rw [← hr]
    simp only [Bool.false_and]
    clear hr
    go_enter Try.func5, Try.ntmps5
    go_wp2_with fail
    refine (HR.out _ hb0.out).mono ?_
    rintro e w1 ⟨rfl, hb⟩
    have hb1 := Lib.hid (hb0.out.trans (hb.mono hb0.out.size))
    have kx1 := Lib.hid (blk_below kx0.out hb)
    have ky1 := Lib.hid (blk_below ky0.out hb)
    have fx : w1.cell? ⟨w.heap.size, 1, none⟩ = some (.slice Af fa.length cf) := (blk_cell kx1.out 1).trans rfl
    have fy : w1.cell? ⟨w.heap.size + 1, 1, none⟩ = some (.slice Bf fb.length df) := (blk_cell ky1.out 1).trans rfl
    clear hb
    rw [← HRr.out]
    go_wp2
    go_ret
    exact ⟨by simp, hb1.out⟩
end Go.Proofs.Ytpimociplmpfcaa.Sam
