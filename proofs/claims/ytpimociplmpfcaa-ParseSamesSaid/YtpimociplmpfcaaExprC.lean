/- The closures over two expressions: parse.sameExprs$1 (29) and the reference's sameExpr (30). Printed by tools/mk11e.py. -/
import Derived.Test.YtpimociplmpfcaaTreeV
import Derived.StillTailTactics
namespace Go.Proofs.Ytpimociplmpfcaa.Sam
open Go.RowKit Go.Proofs.YtpimociplmpfcaaW.PrintWords Go.Proofs.YtpimociplmpfcaaW.PrintLast Go.Proofs.YtpimociplmpfcaaW.PrintMore Go.Proofs.Ytpimociplmpfcaa.PParseSames
set_option linter.unusedVariables false
set_option linter.unusedSimpArgs false
theorem drewN_set (w : World) (n : Nat) (a : Addr) (v : Value) : (w.drewN n).setCell a v = (w.setCell a v).drewN n := rfl
theorem drewN_new (w : World) (n : Nat) (o : Obj) : (w.drewN n).alloc o = (w.alloc o).drewN n := rfl
attribute [local go_sem] drewN_set drewN_new

set_option maxHeartbeats 2000000 in
set_option maxRecDepth 100000 in
theorem e29 (E : List S49 → List S49 → Bool) (x0 x1 : Int) (x2 : ByteArray) (x3 : Int) (x4 : List S49) (x5 x6 x7 y0 y1 : Int) (y2 : ByteArray) (y3 : Int) (y4 : List S49) (y5 y6 y7 : Int) (A : Option Addr) (c : Nat) (A' : Option Addr) (c' : Nat) (w : World)
    (hk : ∀ W, Below w.heap.size w W → Calls Try.prog 25 #[.slice A x4.length c, .slice A' y4.length c'] W fun e w' => e = .returned (.bool (E x4 y4)) ∧ Below W.heap.size W w') :
    Calls Try.prog 29 #[.agg #[.int .i64 x0, .int .i64 x1, .string x2, .int .i64 x3, .slice A x4.length c, .int .u8 x5, .int .i64 x6, .int .i64 x7], .agg #[.int .i64 y0, .int .i64 y1, .string y2, .int .i64 y3, .slice A' y4.length c', .int .u8 y5, .int .i64 y6, .int .i64 y7]] w fun e w' => e = .returned (.bool (eqX E ⟨x0, x1, x2, x3, x4, x5, x6, x7⟩ ⟨y0, y1, y2, y3, y4, y5, y6, y7⟩)) ∧ Below w.heap.size w w' := by
  have HK := Lib.hid hk
  have hu49 := Try.underlying49
  have hb2 : Hid (∀ (o1 o2 : Obj), Below w.heap.size w ((w.alloc o1).alloc o2)) := Lib.hid (fun o1 o2 => below_alloc (below_alloc (Below.refl _ _) _) _)
  unfold eqX
  simp only
  clear hk
  by_cases c0 : x0 = y0
  · have d0 : (x0 == y0) = true := beq_iff_eq.2 c0
    by_cases c2 : (x2.toList == y2.toList) = true
    · have d2 := c2
      by_cases c3 : x3 = y3
      · have d3 : (x3 == y3) = true := beq_iff_eq.2 c3
        rw [d0, d2, d3]
        simp only [Bool.true_and]
        clear c0 c2 c3
        go_enter Try.func29, Try.ntmps29
        go_wp2_with (go_at_call 25; refine (HK.out _ (hb2.out _ _)).mono ?_; rintro e w1 ⟨rfl, hb1⟩; have HB1 := Lib.hid hb1; clear hb1)
        go_ret
        exact ⟨by simp, (hb2.out _ _).trans (HB1.out.mono (hb2.out _ _).size)⟩
      · have d3 : (x3 == y3) = false := beq_eq_false_iff_ne.2 c3
        rw [d0, d2, d3]
        simp only [Bool.true_and, Bool.false_and]
        clear c0 c2 c3
        go_enter Try.func29, Try.ntmps29
        go_wp2
        go_ret
        exact ⟨by simp, hb2.out _ _⟩
    · have d2 : (x2.toList == y2.toList) = false := by simpa using c2
      rw [d0, d2]
      simp only [Bool.true_and, Bool.false_and]
      clear c0 c2
      go_enter Try.func29, Try.ntmps29
      go_wp2
      go_ret
      exact ⟨by simp, hb2.out _ _⟩
  · have d0 : (x0 == y0) = false := beq_eq_false_iff_ne.2 c0
    rw [d0]
    simp only [Bool.false_and]
    clear c0
    go_enter Try.func29, Try.ntmps29
    go_wp2
    go_ret
    exact ⟨by simp, hb2.out _ _⟩

set_option maxHeartbeats 2000000 in
set_option maxRecDepth 100000 in
theorem e30 (E : List S49 → List S49 → Bool) (x0 x1 : Int) (x2 : ByteArray) (x3 : Int) (x4 : List S49) (x5 x6 x7 y0 y1 : Int) (y2 : ByteArray) (y3 : Int) (y4 : List S49) (y5 y6 y7 : Int) (A : Option Addr) (c : Nat) (A' : Option Addr) (c' : Nat) (w : World)
    (hk : ∀ W, Below w.heap.size w W → Calls Try.prog 26 #[.slice A x4.length c, .slice A' y4.length c'] W fun e w' => e = .returned (.bool (E x4 y4)) ∧ Below W.heap.size W w') :
    Calls Try.prog 30 #[.agg #[.int .i64 x0, .int .i64 x1, .string x2, .int .i64 x3, .slice A x4.length c, .int .u8 x5, .int .i64 x6, .int .i64 x7], .agg #[.int .i64 y0, .int .i64 y1, .string y2, .int .i64 y3, .slice A' y4.length c', .int .u8 y5, .int .i64 y6, .int .i64 y7]] w fun e w' => e = .returned (.bool (eqX E ⟨x0, x1, x2, x3, x4, x5, x6, x7⟩ ⟨y0, y1, y2, y3, y4, y5, y6, y7⟩)) ∧ Below w.heap.size w w' := by
  have HK := Lib.hid hk
  have hu49 := Try.underlying49
  have hb2 : Hid (∀ (o1 o2 : Obj), Below w.heap.size w ((w.alloc o1).alloc o2)) := Lib.hid (fun o1 o2 => below_alloc (below_alloc (Below.refl _ _) _) _)
  unfold eqX
  simp only
  clear hk
  by_cases c0 : x0 = y0
  · have d0 : (x0 == y0) = true := beq_iff_eq.2 c0
    by_cases c2 : (x2.toList == y2.toList) = true
    · have d2 := c2
      by_cases c3 : x3 = y3
      · have d3 : (x3 == y3) = true := beq_iff_eq.2 c3
        rw [d0, d2, d3]
        simp only [Bool.true_and]
        clear c0 c2 c3
        go_enter Try.func30, Try.ntmps30
        go_wp2_with (go_at_call 26; refine (HK.out _ (hb2.out _ _)).mono ?_; rintro e w1 ⟨rfl, hb1⟩; have HB1 := Lib.hid hb1; clear hb1)
        go_ret
        exact ⟨by simp, (hb2.out _ _).trans (HB1.out.mono (hb2.out _ _).size)⟩
      · have d3 : (x3 == y3) = false := beq_eq_false_iff_ne.2 c3
        rw [d0, d2, d3]
        simp only [Bool.true_and, Bool.false_and]
        clear c0 c2 c3
        go_enter Try.func30, Try.ntmps30
        go_wp2
        go_ret
        exact ⟨by simp, hb2.out _ _⟩
    · have d2 : (x2.toList == y2.toList) = false := by simpa using c2
      rw [d0, d2]
      simp only [Bool.true_and, Bool.false_and]
      clear c0 c2
      go_enter Try.func30, Try.ntmps30
      go_wp2
      go_ret
      exact ⟨by simp, hb2.out _ _⟩
  · have d0 : (x0 == y0) = false := beq_eq_false_iff_ne.2 c0
    rw [d0]
    simp only [Bool.false_and]
    clear c0
    go_enter Try.func30, Try.ntmps30
    go_wp2
    go_ret
    exact ⟨by simp, hb2.out _ _⟩
end Go.Proofs.Ytpimociplmpfcaa.Sam
