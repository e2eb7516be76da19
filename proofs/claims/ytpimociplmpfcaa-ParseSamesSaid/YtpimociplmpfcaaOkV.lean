/- Trees whose lists are not too long; a tree is the same as itself: plain. -/
import Derived.Test.YtpimociplmpfcaaTreeV
import Derived.Test.YtpimociplmpfcaaPParseSamesx4
import Derived.Test.YtpimociplmpfcaaPParseSamesx5
namespace Go.Proofs.Ytpimociplmpfcaa.Sam
open Go.RowKit Go.Proofs.YtpimociplmpfcaaW.PrintWords Go.Proofs.YtpimociplmpfcaaW.PrintLast Go.Proofs.YtpimociplmpfcaaW.PrintMore Go.Proofs.Ytpimociplmpfcaa.PParseSames
set_option linter.unusedVariables false
set_option linter.unusedSimpArgs false

/-- No list of the tree is too long for a row's reach. -/
inductive OkE : List S49 → Prop
  | mk (l : List S49) (h : l.length * 88 ≤ 140737488351232) (hk : ∀ x, x ∈ l → OkE x.f4) : OkE l
inductive OkS : List S47 → Prop
  | mk (l : List S47) (h : l.length * 144 ≤ 140737488351232) (he : ∀ x, x ∈ l → OkE x.f5) (hb : ∀ x, x ∈ l → OkS x.f6) (hx : ∀ x, x ∈ l → OkS x.f7) : OkS l
theorem OkE.len {l : List S49} (h : OkE l) : l.length * 88 ≤ 140737488351232 := by cases h; assumption
theorem OkE.kid {l : List S49} (h : OkE l) : ∀ x, x ∈ l → OkE x.f4 := by cases h; assumption
theorem OkS.len {l : List S47} (h : OkS l) : l.length * 144 ≤ 140737488351232 := by cases h; assumption
theorem OkS.ex {l : List S47} (h : OkS l) : ∀ x, x ∈ l → OkE x.f5 := by cases h; assumption
theorem OkS.bd {l : List S47} (h : OkS l) : ∀ x, x ∈ l → OkS x.f6 := by cases h; assumption
theorem OkS.el {l : List S47} (h : OkS l) : ∀ x, x ∈ l → OkS x.f7 := by cases h; assumption

theorem all_from {α : Type} {Q : Nat → α → Prop} : ∀ (l : List α), (∀ x, x ∈ l → ∃ K, ∀ k, K ≤ k → Q k x) → ∃ K, ∀ k, K ≤ k → ∀ x, x ∈ l → Q k x
  | [], _ => ⟨0, fun _ _ _ h => absurd h (List.not_mem_nil)⟩
  | a :: l, h => by
    obtain ⟨K1, h1⟩ := h a List.mem_cons_self
    obtain ⟨K2, h2⟩ := all_from l (fun x hx => h x (List.mem_cons_of_mem _ hx))
    refine ⟨K1 + K2, fun k hk x hx => ?_⟩
    rcases List.mem_cons.1 hx with rfl | hx
    · exact h1 k (by omega)
    · exact h2 k (by omega) x hx

theorem rd49 (l : List S49) (i : Nat) (h : i < l.length) : rd_T49 l (i : Int) = l[i] := by simp [rd_T49, List.getD_eq_getElem?_getD, h]
theorem rd47 (l : List S47) (i : Nat) (h : i < l.length) : rd_T47 l (i : Int) = l[i] := by simp [rd_T47, List.getD_eq_getElem?_getD, h]
theorem take_on {α : Type} (l : List α) (i : Nat) (h : i < l.length) : l.take i ++ [l[i]] = l.take (i + 1) := by simp

/-- An expression is the same as itself. -/
def smE (k : Nat) (x : S49) : Prop := provisoplain_SameExpr.f k x.f0 x.f1 x.f2 x.f3 x.f4 x.f5 x.f6 x.f7 x.f0 x.f1 x.f2 x.f3 x.f4 x.f5 x.f6 x.f7 = some true
theorem same_loop (l : List S49) (hl : l.length * 88 ≤ 140737488351232) (K : Nat) (hK : ∀ k, K ≤ k → ∀ x, x ∈ l → smE k x) (f0 f1 : Int) (f2 : ByteArray) (f3 f5 f6 f7 : Int) :
    ∀ (d i k : Nat), i + d = l.length → K + d < k → provisoplain_SameExpr.l0 k (l.length : Int) (i : Int) f0 f1 f2 f3 l f5 f6 f7 f0 f1 f2 f3 l f5 f6 f7 = some true
  | 0, i, k, h, hk => by
    obtain ⟨k, rfl⟩ : ∃ q, k = q + 1 := ⟨k - 1, by omega⟩
    rw [provisoplain_SameExpr.l0, if_neg (by omega)]
  | d + 1, i, k, h, hk => by
    obtain ⟨k, rfl⟩ : ∃ q, k = q + 1 := ⟨k - 1, by omega⟩
    have hi : i < l.length := by omega
    have e : wrap64 ((i : Int) + 1) = ((i + 1 : Nat) : Int) := by unfold wrap64; omega
    have hc : smE k l[i] := hK k (by omega) _ (List.getElem_mem hi)
    have ih := same_loop l hl K hK f0 f1 f2 f3 f5 f6 f7 d (i + 1) k (by omega) (by omega)
    unfold smE at hc
    rw [provisoplain_SameExpr.l0, if_pos (by omega), if_pos (by omega), if_pos (by omega), if_pos (by omega), rd49 l i hi, hc, e]
    rw [Option.bind_some, if_pos rfl, ih]
theorem expr_same {l : List S49} (h : OkE l) : ∃ K, ∀ k, K ≤ k → ∀ x, x ∈ l → smE k x := by
  induction h with
  | mk l hl hk ih =>
    refine all_from l (fun x hx => ?_)
    obtain ⟨K, hK⟩ := ih x hx
    refine ⟨K + x.f4.length + 3, fun k hk' => ?_⟩
    obtain ⟨k, rfl⟩ : ∃ q, k = q + 2 := ⟨k - 2, by omega⟩
    unfold smE
    rw [provisoplain_SameExpr.f, if_pos rfl, if_pos rfl, if_pos rfl, if_pos rfl, if_pos rfl, if_pos rfl, if_pos rfl, provisoplain_SameExpr.j0, if_neg (by simp)]
    have := same_loop x.f4 (hk x hx).len K hK x.f0 x.f1 x.f2 x.f3 x.f5 x.f6 x.f7 x.f4.length 0 k (by omega) (by omega)
    simpa using this
theorem params_loop (a : List S34) (hm : a.length ≤ 9223372036854775807) : ∀ (d i k : Nat), i + d = a.length → d < k → api_Param_18.l0 k a a (a.length : Int) (i : Int) = some true
  | 0, i, k, h, hk => by
    obtain ⟨k, rfl⟩ : ∃ q, k = q + 1 := ⟨k - 1, by omega⟩
    rw [api_Param_18.l0, if_neg (by omega)]
  | d + 1, i, k, h, hk => by
    obtain ⟨k, rfl⟩ : ∃ q, k = q + 1 := ⟨k - 1, by omega⟩
    have e : wrap64 ((i : Int) + 1) = ((i + 1 : Nat) : Int) := by unfold wrap64; omega
    have ih := params_loop a hm d (i + 1) k (by omega) (by omega)
    rw [api_Param_18.l0, if_pos (by omega), if_pos (by omega), if_pos (by omega), if_pos (by omega), e, if_neg (by simp)]
    exact ih
theorem params_same (a : List S34) (hm : a.length ≤ 9223372036854775807) : api_Param_18.f (a.length + 1) a a = some true := by
  unfold api_Param_18.f
  rw [if_pos rfl]
  have := params_loop a hm a.length 0 (a.length + 1) (by omega) (by omega)
  simpa using this
end Go.Proofs.Ytpimociplmpfcaa.Sam
