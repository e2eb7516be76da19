/- The closures over parameters, statements, records and functions (parse.sameParams$1 22, sameStmts$1 24, Same$1 11, Same$2 14). Printed by tools/mk11c.py. -/
import Derived.Test.YtpimociplmpfcaaEqualC
namespace Go.Proofs.Ytpimociplmpfcaa.Sam
open Go.RowKit Go.Proofs.YtpimociplmpfcaaW.PrintWords Go.Proofs.YtpimociplmpfcaaW.PrintLast Go.Proofs.YtpimociplmpfcaaW.PrintMore Go.Proofs.Ytpimociplmpfcaa.PParseSames
set_option linter.unusedVariables false
set_option linter.unusedSimpArgs false
attribute [local go_sem] drewN_set drewN_new
set_option maxHeartbeats 4000000 in
set_option maxRecDepth 100000 in
theorem e22 (x y : S34)  (w : World)  : Calls Try.prog 22 #[.agg #[.int .i64 x.f0, .string x.f1, .string x.f2, .int .u8 x.f3], .agg #[.int .i64 y.f0, .string y.f1, .string y.f2, .int .u8 y.f3]] w fun e w' => e = .returned (.bool (eqP x y)) ∧ Below w.heap.size w w' := by
  have hu := Try.underlying34
  have hb0 : Hid (Below w.heap.size w ((w.alloc (.cells #[.int .i64 x.f0, .string x.f1, .string x.f2, .int .u8 x.f3] 34)).alloc (.cells #[.int .i64 y.f0, .string y.f1, .string y.f2, .int .u8 y.f3] 34))) := Lib.hid (below_alloc (below_alloc (Below.refl _ _) _) _)
  unfold eqP
  by_cases c1 : (x.f1.toList == y.f1.toList) = true
  · have d1 := c1
    clear c1
    by_cases c2 : (x.f2.toList == y.f2.toList) = true
    · have d2 := c2
      clear c2
      rw [d1, d2]
      simp only [Bool.true_and, Bool.false_and, Bool.and_true]
      go_enter Try.func22, Try.ntmps22
      go_wp2
      go_ret
      exact ⟨by simp, hb0.out⟩
    · have d2 : (x.f2.toList == y.f2.toList) = false := by simpa using c2
      clear c2
      rw [d1, d2]
      simp only [Bool.true_and, Bool.false_and, Bool.and_true]
      go_enter Try.func22, Try.ntmps22
      go_wp2
      go_ret
      exact ⟨by simp, hb0.out⟩
  · have d1 : (x.f1.toList == y.f1.toList) = false := by simpa using c1
    clear c1
    rw [d1]
    simp only [Bool.true_and, Bool.false_and, Bool.and_true]
    go_enter Try.func22, Try.ntmps22
    go_wp2
    go_ret
    exact ⟨by simp, hb0.out⟩
set_option maxHeartbeats 4000000 in
set_option maxRecDepth 100000 in
theorem e24 (E : List S49 → List S49 → Bool) (T : List S47 → List S47 → Bool) (x y : S47) (A5a : Option Addr) (c5a : Nat) (A6a : Option Addr) (c6a : Nat) (A7a : Option Addr) (c7a : Nat) (A5b : Option Addr) (c5b : Nat) (A6b : Option Addr) (c6b : Nat) (A7b : Option Addr) (c7b : Nat) (w : World) (hk5 : ∀ W, Below w.heap.size w W → Calls Try.prog 25 #[.slice A5a x.f5.length c5a, .slice A5b y.f5.length c5b] W fun e w' => e = .returned (.bool (E x.f5 y.f5)) ∧ Below W.heap.size W w') (hk6 : ∀ W, Below w.heap.size w W → Calls Try.prog 15 #[.slice A6a x.f6.length c6a, .slice A6b y.f6.length c6b] W fun e w' => e = .returned (.bool (T x.f6 y.f6)) ∧ Below W.heap.size W w') (hk7 : ∀ W, Below w.heap.size w W → Calls Try.prog 15 #[.slice A7a x.f7.length c7a, .slice A7b y.f7.length c7b] W fun e w' => e = .returned (.bool (T x.f7 y.f7)) ∧ Below W.heap.size W w') : Calls Try.prog 24 #[.agg #[.int .i64 x.f0, .int .i64 x.f1, .string x.f2, .string x.f3, .int .i64 x.f4, .slice A5a x.f5.length c5a, .slice A6a x.f6.length c6a, .slice A7a x.f7.length c7a, .int .u8 x.f8, .int .i64 x.f9], .agg #[.int .i64 y.f0, .int .i64 y.f1, .string y.f2, .string y.f3, .int .i64 y.f4, .slice A5b y.f5.length c5b, .slice A6b y.f6.length c6b, .slice A7b y.f7.length c7b, .int .u8 y.f8, .int .i64 y.f9]] w fun e w' => e = .returned (.bool (eqS E T x y)) ∧ Below w.heap.size w w' := by
  have HK5 := Lib.hid hk5
  have HK6 := Lib.hid hk6
  have HK7 := Lib.hid hk7
  have hu := Try.underlying47
  have hb0 : Hid (Below w.heap.size w ((w.alloc (.cells #[.int .i64 x.f0, .int .i64 x.f1, .string x.f2, .string x.f3, .int .i64 x.f4, .slice A5a x.f5.length c5a, .slice A6a x.f6.length c6a, .slice A7a x.f7.length c7a, .int .u8 x.f8, .int .i64 x.f9] 47)).alloc (.cells #[.int .i64 y.f0, .int .i64 y.f1, .string y.f2, .string y.f3, .int .i64 y.f4, .slice A5b y.f5.length c5b, .slice A6b y.f6.length c6b, .slice A7b y.f7.length c7b, .int .u8 y.f8, .int .i64 y.f9] 47))) := Lib.hid (below_alloc (below_alloc (Below.refl _ _) _) _)
  have kx0 : Hid (((w.alloc (.cells #[.int .i64 x.f0, .int .i64 x.f1, .string x.f2, .string x.f3, .int .i64 x.f4, .slice A5a x.f5.length c5a, .slice A6a x.f6.length c6a, .slice A7a x.f7.length c7a, .int .u8 x.f8, .int .i64 x.f9] 47)).alloc (.cells #[.int .i64 y.f0, .int .i64 y.f1, .string y.f2, .string y.f3, .int .i64 y.f4, .slice A5b y.f5.length c5b, .slice A6b y.f6.length c6b, .slice A7b y.f7.length c7b, .int .u8 y.f8, .int .i64 y.f9] 47)).heap[w.heap.size]? = some (.cells #[.int .i64 x.f0, .int .i64 x.f1, .string x.f2, .string x.f3, .int .i64 x.f4, .slice A5a x.f5.length c5a, .slice A6a x.f6.length c6a, .slice A7a x.f7.length c7a, .int .u8 x.f8, .int .i64 x.f9] 47 (0, 0))) := Lib.hid (blk_alloc (blk_new w _) _)
  have ky0 : Hid (((w.alloc (.cells #[.int .i64 x.f0, .int .i64 x.f1, .string x.f2, .string x.f3, .int .i64 x.f4, .slice A5a x.f5.length c5a, .slice A6a x.f6.length c6a, .slice A7a x.f7.length c7a, .int .u8 x.f8, .int .i64 x.f9] 47)).alloc (.cells #[.int .i64 y.f0, .int .i64 y.f1, .string y.f2, .string y.f3, .int .i64 y.f4, .slice A5b y.f5.length c5b, .slice A6b y.f6.length c6b, .slice A7b y.f7.length c7b, .int .u8 y.f8, .int .i64 y.f9] 47)).heap[w.heap.size + 1]? = some (.cells #[.int .i64 y.f0, .int .i64 y.f1, .string y.f2, .string y.f3, .int .i64 y.f4, .slice A5b y.f5.length c5b, .slice A6b y.f6.length c6b, .slice A7b y.f7.length c7b, .int .u8 y.f8, .int .i64 y.f9] 47 (0, 0))) := Lib.hid (by have := blk_new (w.alloc (.cells #[.int .i64 x.f0, .int .i64 x.f1, .string x.f2, .string x.f3, .int .i64 x.f4, .slice A5a x.f5.length c5a, .slice A6a x.f6.length c6a, .slice A7a x.f7.length c7a, .int .u8 x.f8, .int .i64 x.f9] 47)) (.cells #[.int .i64 y.f0, .int .i64 y.f1, .string y.f2, .string y.f3, .int .i64 y.f4, .slice A5b y.f5.length c5b, .slice A6b y.f6.length c6b, .slice A7b y.f7.length c7b, .int .u8 y.f8, .int .i64 y.f9] 47); rwa [World.size_alloc] at this)
  unfold eqS
  clear hk5 hk6 hk7
  by_cases c0 : (x.f0 == y.f0) = true
  · have d0 := c0
    clear c0
    by_cases c2 : (x.f2.toList == y.f2.toList) = true
    · have d2 := c2
      clear c2
      by_cases c3 : (x.f3.toList == y.f3.toList) = true
      · have d3 := c3
        clear c3
        by_cases c4 : (x.f4 == y.f4) = true
        · have d4 := c4
          clear c4
          obtain ⟨r, r5⟩ : ∃ r, r = E x.f5 y.f5 := ⟨_, rfl⟩
          have HR5 := Lib.hid r5
          cases r with
          | true =>
            obtain ⟨r, r6⟩ : ∃ r, r = T x.f6 y.f6 := ⟨_, rfl⟩
            have HR6 := Lib.hid r6
            cases r with
            | true =>
              rw [d0, d2, d3, d4, ← r5, ← r6]
              simp only [Bool.true_and, Bool.false_and, Bool.and_true]
              clear r5 r6
              go_enter Try.func24, Try.ntmps24
              go_wp2_with fail
              refine (HK5.out _ hb0.out).mono ?_
              rintro e w1 ⟨rfl, hb⟩
              have hb1 := Lib.hid (hb0.out.trans (hb.mono hb0.out.size))
              have kx1 := Lib.hid (blk_below kx0.out hb)
              have ky1 := Lib.hid (blk_below ky0.out hb)
              have fx1_6 : w1.cell? ⟨w.heap.size, 6, none⟩ = some (.slice A6a x.f6.length c6a) := (blk_cell kx1.out 6).trans rfl
              have fy1_6 : w1.cell? ⟨w.heap.size + 1, 6, none⟩ = some (.slice A6b y.f6.length c6b) := (blk_cell ky1.out 6).trans rfl
              have fx1_7 : w1.cell? ⟨w.heap.size, 7, none⟩ = some (.slice A7a x.f7.length c7a) := (blk_cell kx1.out 7).trans rfl
              have fy1_7 : w1.cell? ⟨w.heap.size + 1, 7, none⟩ = some (.slice A7b y.f7.length c7b) := (blk_cell ky1.out 7).trans rfl
              clear hb
              rw [← HR5.out]
              go_wp2_with fail
              refine (HK6.out _ hb1.out).mono ?_
              rintro e w2 ⟨rfl, hb⟩
              have hb2 := Lib.hid (hb1.out.trans (hb.mono hb1.out.size))
              have kx2 := Lib.hid (blk_below kx1.out hb)
              have ky2 := Lib.hid (blk_below ky1.out hb)
              have fx2_7 : w2.cell? ⟨w.heap.size, 7, none⟩ = some (.slice A7a x.f7.length c7a) := (blk_cell kx2.out 7).trans rfl
              have fy2_7 : w2.cell? ⟨w.heap.size + 1, 7, none⟩ = some (.slice A7b y.f7.length c7b) := (blk_cell ky2.out 7).trans rfl
              clear hb
              rw [← HR6.out]
              go_wp2_with fail
              refine (HK7.out _ hb2.out).mono ?_
              rintro e w3 ⟨rfl, hb⟩
              have hb3 := Lib.hid (hb2.out.trans (hb.mono hb2.out.size))
              clear hb
              go_wp2
              go_ret
              exact ⟨by simp, hb3.out⟩
            | false =>
              rw [d0, d2, d3, d4, ← r5, ← r6]
              simp only [Bool.true_and, Bool.false_and, Bool.and_true]
              clear r5 r6
              go_enter Try.func24, Try.ntmps24
              go_wp2_with fail
              refine (HK5.out _ hb0.out).mono ?_
              rintro e w1 ⟨rfl, hb⟩
              have hb1 := Lib.hid (hb0.out.trans (hb.mono hb0.out.size))
              have kx1 := Lib.hid (blk_below kx0.out hb)
              have ky1 := Lib.hid (blk_below ky0.out hb)
              have fx1_6 : w1.cell? ⟨w.heap.size, 6, none⟩ = some (.slice A6a x.f6.length c6a) := (blk_cell kx1.out 6).trans rfl
              have fy1_6 : w1.cell? ⟨w.heap.size + 1, 6, none⟩ = some (.slice A6b y.f6.length c6b) := (blk_cell ky1.out 6).trans rfl
              have fx1_7 : w1.cell? ⟨w.heap.size, 7, none⟩ = some (.slice A7a x.f7.length c7a) := (blk_cell kx1.out 7).trans rfl
              have fy1_7 : w1.cell? ⟨w.heap.size + 1, 7, none⟩ = some (.slice A7b y.f7.length c7b) := (blk_cell ky1.out 7).trans rfl
              clear hb
              rw [← HR5.out]
              go_wp2_with fail
              refine (HK6.out _ hb1.out).mono ?_
              rintro e w2 ⟨rfl, hb⟩
              have hb2 := Lib.hid (hb1.out.trans (hb.mono hb1.out.size))
              clear hb
              rw [← HR6.out]
              go_wp2
              go_ret
              exact ⟨by simp, hb2.out⟩
          | false =>
            rw [d0, d2, d3, d4, ← r5]
            simp only [Bool.true_and, Bool.false_and, Bool.and_true]
            clear r5
            go_enter Try.func24, Try.ntmps24
            go_wp2_with fail
            refine (HK5.out _ hb0.out).mono ?_
            rintro e w1 ⟨rfl, hb⟩
            have hb1 := Lib.hid (hb0.out.trans (hb.mono hb0.out.size))
            clear hb
            rw [← HR5.out]
            go_wp2
            go_ret
            exact ⟨by simp, hb1.out⟩
        · have d4 : (x.f4 == y.f4) = false := by simpa using c4
          clear c4
          rw [d0, d2, d3, d4]
          simp only [Bool.true_and, Bool.false_and, Bool.and_true]
          go_enter Try.func24, Try.ntmps24
          go_wp2
          go_ret
          exact ⟨by simp, hb0.out⟩
      · have d3 : (x.f3.toList == y.f3.toList) = false := by simpa using c3
        clear c3
        rw [d0, d2, d3]
        simp only [Bool.true_and, Bool.false_and, Bool.and_true]
        go_enter Try.func24, Try.ntmps24
        go_wp2
        go_ret
        exact ⟨by simp, hb0.out⟩
    · have d2 : (x.f2.toList == y.f2.toList) = false := by simpa using c2
      clear c2
      rw [d0, d2]
      simp only [Bool.true_and, Bool.false_and, Bool.and_true]
      go_enter Try.func24, Try.ntmps24
      go_wp2
      go_ret
      exact ⟨by simp, hb0.out⟩
  · have d0 : (x.f0 == y.f0) = false := by simpa using c0
    clear c0
    rw [d0]
    simp only [Bool.true_and, Bool.false_and, Bool.and_true]
    go_enter Try.func24, Try.ntmps24
    go_wp2
    go_ret
    exact ⟨by simp, hb0.out⟩
set_option maxHeartbeats 4000000 in
set_option maxRecDepth 100000 in
theorem e11 (x y : S30) (A3a : Option Addr) (c3a : Nat) (A3b : Option Addr) (c3b : Nat) (w : World) (hk3 : ∀ W, Below w.heap.size w W → Calls Try.prog 12 #[.slice A3a x.f3.length c3a, .slice A3b y.f3.length c3b] W fun e w' => e = .returned (.bool (sameP x.f3 y.f3)) ∧ Below W.heap.size W w') : Calls Try.prog 11 #[.agg #[.int .i64 x.f0, .string x.f1, .string x.f2, .slice A3a x.f3.length c3a], .agg #[.int .i64 y.f0, .string y.f1, .string y.f2, .slice A3b y.f3.length c3b]] w fun e w' => e = .returned (.bool (eqR x y)) ∧ Below w.heap.size w w' := by
  have HK3 := Lib.hid hk3
  have hu := Try.underlying30
  have hb0 : Hid (Below w.heap.size w ((w.alloc (.cells #[.int .i64 x.f0, .string x.f1, .string x.f2, .slice A3a x.f3.length c3a] 30)).alloc (.cells #[.int .i64 y.f0, .string y.f1, .string y.f2, .slice A3b y.f3.length c3b] 30))) := Lib.hid (below_alloc (below_alloc (Below.refl _ _) _) _)
  unfold eqR
  clear hk3
  by_cases c1 : (x.f1.toList == y.f1.toList) = true
  · have d1 := c1
    clear c1
    by_cases c2 : (x.f2.toList == y.f2.toList) = true
    · have d2 := c2
      clear c2
      rw [d1, d2]
      simp only [Bool.true_and, Bool.false_and, Bool.and_true]
      go_enter Try.func11, Try.ntmps11
      go_wp2_with fail
      refine (HK3.out _ hb0.out).mono ?_
      rintro e w1 ⟨rfl, hb⟩
      have hb1 := Lib.hid (hb0.out.trans (hb.mono hb0.out.size))
      clear hb
      go_wp2
      go_ret
      exact ⟨by simp, hb1.out⟩
    · have d2 : (x.f2.toList == y.f2.toList) = false := by simpa using c2
      clear c2
      rw [d1, d2]
      simp only [Bool.true_and, Bool.false_and, Bool.and_true]
      go_enter Try.func11, Try.ntmps11
      go_wp2
      go_ret
      exact ⟨by simp, hb0.out⟩
  · have d1 : (x.f1.toList == y.f1.toList) = false := by simpa using c1
    clear c1
    rw [d1]
    simp only [Bool.true_and, Bool.false_and, Bool.and_true]
    go_enter Try.func11, Try.ntmps11
    go_wp2
    go_ret
    exact ⟨by simp, hb0.out⟩
set_option maxHeartbeats 4000000 in
set_option maxRecDepth 100000 in
theorem e14 (n : Nat) (x y : S37) (A3a : Option Addr) (c3a : Nat) (A4a : Option Addr) (c4a : Nat) (A3b : Option Addr) (c3b : Nat) (A4b : Option Addr) (c4b : Nat) (w : World) (hk3 : ∀ W, Below w.heap.size w W → Calls Try.prog 12 #[.slice A3a x.f3.length c3a, .slice A3b y.f3.length c3b] W fun e w' => e = .returned (.bool (sameP x.f3 y.f3)) ∧ Below W.heap.size W w') (hk4 : ∀ W, Below w.heap.size w W → Calls Try.prog 15 #[.slice A4a x.f4.length c4a, .slice A4b y.f4.length c4b] W fun e w' => e = .returned (.bool (sameS n x.f4 y.f4)) ∧ Below W.heap.size W w') : Calls Try.prog 14 #[.agg #[.int .i64 x.f0, .string x.f1, .string x.f2, .slice A3a x.f3.length c3a, .slice A4a x.f4.length c4a, .int .u8 x.f5, .int .i64 x.f6], .agg #[.int .i64 y.f0, .string y.f1, .string y.f2, .slice A3b y.f3.length c3b, .slice A4b y.f4.length c4b, .int .u8 y.f5, .int .i64 y.f6]] w fun e w' => e = .returned (.bool (eqF n x y)) ∧ Below w.heap.size w w' := by
  have HK3 := Lib.hid hk3
  have HK4 := Lib.hid hk4
  have hu := Try.underlying37
  have hb0 : Hid (Below w.heap.size w ((w.alloc (.cells #[.int .i64 x.f0, .string x.f1, .string x.f2, .slice A3a x.f3.length c3a, .slice A4a x.f4.length c4a, .int .u8 x.f5, .int .i64 x.f6] 37)).alloc (.cells #[.int .i64 y.f0, .string y.f1, .string y.f2, .slice A3b y.f3.length c3b, .slice A4b y.f4.length c4b, .int .u8 y.f5, .int .i64 y.f6] 37))) := Lib.hid (below_alloc (below_alloc (Below.refl _ _) _) _)
  have kx0 : Hid (((w.alloc (.cells #[.int .i64 x.f0, .string x.f1, .string x.f2, .slice A3a x.f3.length c3a, .slice A4a x.f4.length c4a, .int .u8 x.f5, .int .i64 x.f6] 37)).alloc (.cells #[.int .i64 y.f0, .string y.f1, .string y.f2, .slice A3b y.f3.length c3b, .slice A4b y.f4.length c4b, .int .u8 y.f5, .int .i64 y.f6] 37)).heap[w.heap.size]? = some (.cells #[.int .i64 x.f0, .string x.f1, .string x.f2, .slice A3a x.f3.length c3a, .slice A4a x.f4.length c4a, .int .u8 x.f5, .int .i64 x.f6] 37 (0, 0))) := Lib.hid (blk_alloc (blk_new w _) _)
  have ky0 : Hid (((w.alloc (.cells #[.int .i64 x.f0, .string x.f1, .string x.f2, .slice A3a x.f3.length c3a, .slice A4a x.f4.length c4a, .int .u8 x.f5, .int .i64 x.f6] 37)).alloc (.cells #[.int .i64 y.f0, .string y.f1, .string y.f2, .slice A3b y.f3.length c3b, .slice A4b y.f4.length c4b, .int .u8 y.f5, .int .i64 y.f6] 37)).heap[w.heap.size + 1]? = some (.cells #[.int .i64 y.f0, .string y.f1, .string y.f2, .slice A3b y.f3.length c3b, .slice A4b y.f4.length c4b, .int .u8 y.f5, .int .i64 y.f6] 37 (0, 0))) := Lib.hid (by have := blk_new (w.alloc (.cells #[.int .i64 x.f0, .string x.f1, .string x.f2, .slice A3a x.f3.length c3a, .slice A4a x.f4.length c4a, .int .u8 x.f5, .int .i64 x.f6] 37)) (.cells #[.int .i64 y.f0, .string y.f1, .string y.f2, .slice A3b y.f3.length c3b, .slice A4b y.f4.length c4b, .int .u8 y.f5, .int .i64 y.f6] 37); rwa [World.size_alloc] at this)
  unfold eqF
  clear hk3 hk4
  by_cases c1 : (x.f1.toList == y.f1.toList) = true
  · have d1 := c1
    clear c1
    by_cases c2 : (x.f2.toList == y.f2.toList) = true
    · have d2 := c2
      clear c2
      obtain ⟨r, r3⟩ : ∃ r, r = sameP x.f3 y.f3 := ⟨_, rfl⟩
      have HR3 := Lib.hid r3
      cases r with
      | true =>
        rw [d1, d2, ← r3]
        simp only [Bool.true_and, Bool.false_and, Bool.and_true]
        clear r3
        go_enter Try.func14, Try.ntmps14
        go_wp2_with fail
        refine (HK3.out _ hb0.out).mono ?_
        rintro e w1 ⟨rfl, hb⟩
        have hb1 := Lib.hid (hb0.out.trans (hb.mono hb0.out.size))
        have kx1 := Lib.hid (blk_below kx0.out hb)
        have ky1 := Lib.hid (blk_below ky0.out hb)
        have fx1_4 : w1.cell? ⟨w.heap.size, 4, none⟩ = some (.slice A4a x.f4.length c4a) := (blk_cell kx1.out 4).trans rfl
        have fy1_4 : w1.cell? ⟨w.heap.size + 1, 4, none⟩ = some (.slice A4b y.f4.length c4b) := (blk_cell ky1.out 4).trans rfl
        clear hb
        rw [← HR3.out]
        go_wp2_with fail
        refine (HK4.out _ hb1.out).mono ?_
        rintro e w2 ⟨rfl, hb⟩
        have hb2 := Lib.hid (hb1.out.trans (hb.mono hb1.out.size))
        clear hb
        go_wp2
        go_ret
        exact ⟨by simp, hb2.out⟩
      | false =>
        rw [d1, d2, ← r3]
        simp only [Bool.true_and, Bool.false_and, Bool.and_true]
        clear r3
        go_enter Try.func14, Try.ntmps14
        go_wp2_with fail
        refine (HK3.out _ hb0.out).mono ?_
        rintro e w1 ⟨rfl, hb⟩
        have hb1 := Lib.hid (hb0.out.trans (hb.mono hb0.out.size))
        clear hb
        rw [← HR3.out]
        go_wp2
        go_ret
        exact ⟨by simp, hb1.out⟩
    · have d2 : (x.f2.toList == y.f2.toList) = false := by simpa using c2
      clear c2
      rw [d1, d2]
      simp only [Bool.true_and, Bool.false_and, Bool.and_true]
      go_enter Try.func14, Try.ntmps14
      go_wp2
      go_ret
      exact ⟨by simp, hb0.out⟩
  · have d1 : (x.f1.toList == y.f1.toList) = false := by simpa using c1
    clear c1
    rw [d1]
    simp only [Bool.true_and, Bool.false_and, Bool.and_true]
    go_enter Try.func14, Try.ntmps14
    go_wp2
    go_ret
    exact ⟨by simp, hb0.out⟩
end Go.Proofs.Ytpimociplmpfcaa.Sam
