/- The reference's sameExprs and sameParams: what they answer. -/
import Derived.Test.YtpimociplmpfcaaRefC
import Derived.Test.YtpimociplmpfcaaPParseSamesx4
namespace Go.Proofs.Ytpimociplmpfcaa.Sam
open Go.RowKit Go.Proofs.YtpimociplmpfcaaW.PrintWords Go.Proofs.YtpimociplmpfcaaW.PrintLast Go.Proofs.YtpimociplmpfcaaW.PrintMore Go.Proofs.Ytpimociplmpfcaa.PParseSames
set_option linter.unusedVariables false
set_option linter.unusedSimpArgs false
attribute [local go_sem] drewN_set drewN_new

theorem rexprs_c : ∀ (n : Nat) (a b : List S49) (A : Option Addr) (c : Nat) (A' : Option Addr) (c' : Nat) (w : World), SizeOf.sizeOf a ≤ n → Kd.C k49 w A a.length a → a.length ≤ c → Kd.C k49 w A' b.length b → b.length ≤ c' →
    Calls Try.prog 26 #[.slice A a.length c, .slice A' b.length c'] w fun e w' => e = .returned (.bool (sameE n a b)) ∧ Below w.heap.size w w'
  | 0, a, b, A, c, A', c', w, hz, _, _, _, _ => by have := list_pos a; omega
  | n + 1, a, b, A, c, A', c', w, hz, ha, hca, hb, hcb =>
    q26 (eqX (sameE n)) a b A c A' c' w ha hca hb hcb (fun x y hx hy A4a c4a A4b c4b W ga la gb lb => e30 (sameE n) x.f0 x.f1 x.f2 x.f3 x.f4 x.f5 x.f6 x.f7 y.f0 y.f1 y.f2 y.f3 y.f4 y.f5 y.f6 y.f7 A4a c4a A4b c4b W (fun W' hW' => rexprs_c n x.f4 y.f4 A4a c4a A4b c4b W' (by have := kids_lt hx; omega) (Kd.C_below ga hW') la (Kd.C_below gb hW') lb))

theorem rparams_loop (a b : List S34) (hl : a.length = b.length) (hm : a.length ≤ 9223372036854775807) : ∀ (d i k : Nat), i + d = a.length → d < k → provisoref11_sameParams.l0 k a b (a.length : Int) (i : Int) = some (sameL eqP (a.drop i) (b.drop i))
  | 0, i, k, h, hk => by
    obtain ⟨k, rfl⟩ : ∃ q, k = q + 1 := ⟨k - 1, by omega⟩
    rw [provisoref11_sameParams.l0, if_neg (by omega), List.drop_eq_nil_of_le (by omega), List.drop_eq_nil_of_le (by omega)]
    rfl
  | d + 1, i, k, h, hk => by
    obtain ⟨k, rfl⟩ : ∃ q, k = q + 1 := ⟨k - 1, by omega⟩
    have ha : i < a.length := by omega
    have hb : i < b.length := by omega
    have era : rd_T34 a (i : Int) = a[i] := by simp [rd_T34, List.getD_eq_getElem?_getD, ha]
    have erb : rd_T34 b (i : Int) = b[i] := by simp [rd_T34, List.getD_eq_getElem?_getD, hb]
    have e : wrap64 ((i : Int) + 1) = ((i + 1 : Nat) : Int) := by unfold wrap64; omega
    rw [provisoref11_sameParams.l0, if_pos (by omega), if_pos (by omega), if_pos (by omega), if_pos (by omega), era, erb, e, rparams_loop a b hl hm d (i + 1) k (by omega) (by omega), List.drop_eq_getElem_cons ha, List.drop_eq_getElem_cons hb]
    simp only [sameL, eqP]
    by_cases c1 : a[i].f1.toList = b[i].f1.toList
    · by_cases c2 : a[i].f2.toList = b[i].f2.toList
      · rw [if_pos c1, if_pos c2]; simp [c1, c2]
      · rw [if_pos c1, if_neg c2]; simp [c1, c2]
    · rw [if_neg c1]; simp [c1]
theorem rparams_is (a b : List S34) (hm : a.length ≤ 9223372036854775807) : provisoref11_sameParams.f (a.length + 1) a b = some (sameP a b) := by
  unfold provisoref11_sameParams.f sameP
  by_cases h : a.length = b.length
  · rw [if_pos (by omega)]
    have := rparams_loop a b h hm a.length 0 (a.length + 1) (by omega) (by omega)
    simpa using this
  · rw [if_neg (by omega), sameL_ne _ _ _ h]
theorem rparams_c (a b : List S34) (A : Option Addr) (c : Nat) (A' : Option Addr) (c' : Nat) (w : World) (ha : Kd.C k34 w A a.length a) (hca : a.length ≤ c) (hb : Kd.C k34 w A' b.length b) (hcb : b.length ≤ c') :
    Calls Try.prog 16 #[.slice A a.length c, .slice A' b.length c'] w fun e w' => e = .returned (.bool (sameP a b)) ∧ Below w.heap.size w w' :=
  (provisoref11_sameParams.calls (a.length + 1) A c a A' c' b (sameP a b) w ha hca hb hcb (rparams_is a b ha.2.1)).mono (by
    rintro e w' ⟨rfl, h⟩
    exact ⟨rfl, by first | exact h | (obtain ⟨⟨n, rfl⟩⟩ := h; exact pw_below_drewN (Below.refl _ _) _)⟩)
end Go.Proofs.Ytpimociplmpfcaa.Sam
