/- What it is that two programs are the same, places and types aside: plain. -/
import Derived.Test.YtpimociplmpfcaaPParseSamesx0
import Derived.Lib.Hide
namespace Go.Proofs.Ytpimociplmpfcaa.Sam
open Go.RowKit Go.Proofs.YtpimociplmpfcaaW.PrintWords Go.Proofs.YtpimociplmpfcaaW.PrintLast Go.Proofs.YtpimociplmpfcaaW.PrintMore Go.Proofs.Ytpimociplmpfcaa.PParseSames
set_option linter.unusedVariables false
set_option linter.unusedSimpArgs false

/-- Two lists, place by place. -/
def sameL {α : Type} (P : α → α → Bool) : List α → List α → Bool
  | [], [] => true
  | x :: a, y :: b => P x y && sameL P a b
  | _, _ => false
theorem sameL_len {α : Type} (P : α → α → Bool) : ∀ (a b : List α), sameL P a b = true → a.length = b.length
  | [], [], _ => rfl
  | x :: a, y :: b, h => by
    simp only [sameL, Bool.and_eq_true] at h
    simp [sameL_len P a b h.2]
  | [], _ :: _, h => by simp [sameL] at h
  | _ :: _, [], h => by simp [sameL] at h
theorem sameL_ne {α : Type} (P : α → α → Bool) (a b : List α) (h : a.length ≠ b.length) : sameL P a b = false := by
  cases hs : sameL P a b with
  | false => rfl
  | true => exact absurd (sameL_len P a b hs) h
theorem sameL_all {α : Type} (P : α → α → Bool) : ∀ (a b : List α), a.length = b.length → (∀ (i : Nat) (h1 : i < a.length) (h2 : i < b.length), P a[i] b[i] = true) → sameL P a b = true
  | [], [], _, _ => rfl
  | x :: a, y :: b, hl, h => by
    simp only [sameL, Bool.and_eq_true]
    refine ⟨h 0 (by simp) (by simp), sameL_all P a b (by simpa using hl) (fun i h1 h2 => ?_)⟩
    exact h (i + 1) (by simpa using h1) (by simpa using h2)
  | [], _ :: _, hl, _ => by simp at hl
  | _ :: _, [], hl, _ => by simp at hl
theorem sameL_bad {α : Type} (P : α → α → Bool) : ∀ (a b : List α) (i : Nat) (h1 : i < a.length) (h2 : i < b.length), P a[i] b[i] = false → sameL P a b = false
  | x :: a, y :: b, 0, _, _, h => by
    have h' : P x y = false := h
    simp [sameL, h']
  | x :: a, y :: b, i + 1, h1, h2, h => by
    simp only [sameL]
    rw [sameL_bad P a b i (by simpa using h1) (by simpa using h2) (by simpa using h), Bool.and_false]
theorem sameL_refl {α : Type} (P : α → α → Bool) : ∀ (a : List α), (∀ x, x ∈ a → P x x = true) → sameL P a a = true
  | [], _ => rfl
  | x :: a, h => by
    simp only [sameL, Bool.and_eq_true]
    exact ⟨h x List.mem_cons_self, sameL_refl P a (fun y hy => h y (List.mem_cons_of_mem _ hy))⟩

def eqX (E : List S49 → List S49 → Bool) (x y : S49) : Bool := x.f0 == y.f0 && ((x.f2.toList == y.f2.toList) && (x.f3 == y.f3 && E x.f4 y.f4))
def sameE : Nat → List S49 → List S49 → Bool
  | 0 => fun _ _ => false
  | n + 1 => sameL (eqX (sameE n))
theorem kids_lt {x : S49} {a : List S49} (h : x ∈ a) : SizeOf.sizeOf x.f4 < SizeOf.sizeOf a := by
  have h1 := List.sizeOf_lt_of_mem h
  have h2 : SizeOf.sizeOf x.f4 < SizeOf.sizeOf x := by cases x; simp; omega
  omega
theorem list_pos {α : Type} [SizeOf α] (a : List α) : 0 < SizeOf.sizeOf a := by cases a <;> simp <;> omega
theorem sameE_refl : ∀ (n : Nat) (a : List S49), SizeOf.sizeOf a ≤ n → sameE n a a = true
  | 0, a, h => by have := list_pos a; omega
  | n + 1, a, h => by
    refine sameL_refl _ a (fun x hx => ?_)
    have := kids_lt hx
    simp [eqX, sameE_refl n x.f4 (by omega)]
def eqP (x y : S34) : Bool := (x.f1.toList == y.f1.toList) && (x.f2.toList == y.f2.toList)
def sameP : List S34 → List S34 → Bool := sameL eqP
theorem sameP_refl (a : List S34) : sameP a a = true := sameL_refl _ a (fun x _ => by simp [eqP])
def eqS (E : List S49 → List S49 → Bool) (T : List S47 → List S47 → Bool) (x y : S47) : Bool := x.f0 == y.f0 && ((x.f2.toList == y.f2.toList) && ((x.f3.toList == y.f3.toList) && (x.f4 == y.f4 && (E x.f5 y.f5 && (T x.f6 y.f6 && T x.f7 y.f7)))))
def sameS : Nat → List S47 → List S47 → Bool
  | 0 => fun _ _ => false
  | n + 1 => sameL (eqS (sameE n) (sameS n))
theorem stmt_lt {x : S47} {a : List S47} (h : x ∈ a) : SizeOf.sizeOf x.f5 < SizeOf.sizeOf a ∧ SizeOf.sizeOf x.f6 < SizeOf.sizeOf a ∧ SizeOf.sizeOf x.f7 < SizeOf.sizeOf a := by
  have h1 := List.sizeOf_lt_of_mem h
  have h2 : SizeOf.sizeOf x.f5 < SizeOf.sizeOf x ∧ SizeOf.sizeOf x.f6 < SizeOf.sizeOf x ∧ SizeOf.sizeOf x.f7 < SizeOf.sizeOf x := by cases x; simp; omega
  omega
theorem sameS_refl : ∀ (n : Nat) (a : List S47), SizeOf.sizeOf a ≤ n → sameS n a a = true
  | 0, a, h => by have := list_pos a; omega
  | n + 1, a, h => by
    refine sameL_refl _ a (fun x hx => ?_)
    have := stmt_lt hx
    simp [eqS, sameE_refl n x.f5 (by omega), sameS_refl n x.f6 (by omega), sameS_refl n x.f7 (by omega)]
def eqR (x y : S30) : Bool := (x.f1.toList == y.f1.toList) && ((x.f2.toList == y.f2.toList) && sameP x.f3 y.f3)
def eqF (n : Nat) (x y : S37) : Bool := (x.f1.toList == y.f1.toList) && ((x.f2.toList == y.f2.toList) && (sameP x.f3 y.f3 && sameS n x.f4 y.f4))
/-- The same program. -/
def sameG (n : Nat) (ra rb : List S30) (fa fb : List S37) : Bool := sameL eqR ra rb && sameL (eqF n) fa fb
theorem sameG_refl (n : Nat) (ra : List S30) (fa : List S37) (h : ∀ x, x ∈ fa → SizeOf.sizeOf x.f4 ≤ n) : sameG n ra ra fa fa = true := by
  unfold sameG
  rw [sameL_refl _ ra (fun x _ => by simp [eqR, sameP_refl]), sameL_refl _ fa (fun x hx => by simp [eqF, sameP_refl, sameS_refl n x.f4 (h x hx)])]
  rfl
end Go.Proofs.Ytpimociplmpfcaa.Sam
