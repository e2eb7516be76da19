/- The copies of expressions and statements are what was copied: plain. -/
import Derived.Test.YtpimociplmpfcaaOkV
import Derived.Test.YtpimociplmpfcaaExprK
import Derived.Test.YtpimociplmpfcaaStmtsK
namespace Go.Proofs.Ytpimociplmpfcaa.Sam
open Go.RowKit Go.Proofs.YtpimociplmpfcaaW.PrintWords Go.Proofs.YtpimociplmpfcaaW.PrintLast Go.Proofs.YtpimociplmpfcaaW.PrintMore Go.Proofs.Ytpimociplmpfcaa.PParseSames
set_option linter.unusedVariables false
set_option linter.unusedSimpArgs false

theorem eta49 (x : S49) : (⟨x.f0, x.f1, x.f2, x.f3, x.f4, x.f5, x.f6, x.f7⟩ : S49) = x := by cases x; rfl
theorem eta47 (x : S47) : (⟨x.f0, x.f1, x.f2, x.f3, x.f4, x.f5, x.f6, x.f7, x.f8, x.f9⟩ : S47) = x := by cases x; rfl
/-- The copy of one expression. -/
def cpE (k : Nat) (x : S49) : Prop := provisoplain_Expr.f k x.f0 x.f1 x.f2 x.f3 x.f4 x.f5 x.f6 x.f7 = some (x.f0, x.f1, x.f2, x.f3, x.f4, x.f5, x.f6, x.f7)

theorem expr_loop (l : List S49) (hl : l.length * 88 ≤ 140737488351232) (K : Nat) (hK : ∀ k, K ≤ k → ∀ x, x ∈ l → cpE k x) (f0 f1 : Int) (f2 : ByteArray) (f3 f5 f6 f7 : Int) :
    ∀ (d i k : Nat), i + d = l.length → K + d < k → provisoplain_Expr.l0 k l (l.length : Int) (i : Int) f0 f1 f2 f3 (l.take i) f5 f6 f7 = some (f0, f1, f2, f3, l, f5, f6, f7)
  | 0, i, k, h, hk => by
    obtain ⟨k, rfl⟩ : ∃ q, k = q + 1 := ⟨k - 1, by omega⟩
    rw [provisoplain_Expr.l0, if_neg (by omega), List.take_of_length_le (by omega)]
  | d + 1, i, k, h, hk => by
    obtain ⟨k, rfl⟩ : ∃ q, k = q + 1 := ⟨k - 1, by omega⟩
    have hi : i < l.length := by omega
    have e : wrap64 ((i : Int) + 1) = ((i + 1 : Nat) : Int) := by unfold wrap64; omega
    have hc : cpE k l[i] := hK k (by omega) _ (List.getElem_mem hi)
    have ih := expr_loop l hl K hK f0 f1 f2 f3 f5 f6 f7 d (i + 1) k (by omega) (by omega)
    unfold cpE at hc
    rw [provisoplain_Expr.l0, if_pos (by omega), if_pos (by omega), if_pos (by omega), rd49 l i hi, hc, e]
    rw [Option.bind_some, if_pos (by rw [List.length_take]; omega)]
    dsimp only
    rw [eta49, take_on l i hi, ih]

theorem expr_copy {l : List S49} (h : OkE l) : ∃ K, ∀ k, K ≤ k → ∀ x, x ∈ l → cpE k x := by
  induction h with
  | mk l hl hk ih =>
    refine all_from l (fun x hx => ?_)
    obtain ⟨K, hK⟩ := ih x hx
    refine ⟨K + x.f4.length + 2, fun k hk' => ?_⟩
    obtain ⟨k, rfl⟩ : ∃ q, k = q + 1 := ⟨k - 1, by omega⟩
    unfold cpE
    rw [provisoplain_Expr.f]
    have := expr_loop x.f4 (hk x hx).len K hK x.f0 x.f1 x.f2 x.f3 x.f5 x.f6 x.f7 x.f4.length 0 k (by omega) (by omega)
    simpa using this

def cpS (k : Nat) (l : List S47) : Prop := provisoplain_Stmts.f k l = some l

theorem stmt_in (x3 x9 : List S47) (x10 x11 : Int) (x : S47) (hl : x.f5.length * 88 ≤ 140737488351232) (K : Nat) (hK : ∀ k, K ≤ k → ∀ y, y ∈ x.f5 → cpE k y) (h6 : ∀ k, K ≤ k → cpS k x.f6) (h7 : ∀ k, K ≤ k → cpS k x.f7) (hx3 : x3.length < 977343669134) :
    ∀ (d i k : Nat), i + d = x.f5.length → K + d < k → ∃ k', k ≤ k' + d + 1 ∧ provisoplain_Stmts.l1 k x3 x9 x10 x11 x.f5 (x.f5.length : Int) (i : Int) x.f0 x.f1 x.f2 x.f3 x.f4 x.f5 x.f6 x.f7 x.f8 x.f9 x.f0 x.f1 x.f2 x.f3 x.f4 (x.f5.take i) x.f6 x.f7 x.f8 x.f9 = provisoplain_Stmts.l0 k' (x3 ++ [x]) x9 x10 (wrap64 (x11 + 1))
  | 0, i, k, h, hk => by
    obtain ⟨k, rfl⟩ : ∃ q, k = q + 1 := ⟨k - 1, by omega⟩
    have e6 := h6 k (by omega)
    have e7 := h7 k (by omega)
    unfold cpS at e6 e7
    refine ⟨k, by omega, ?_⟩
    rw [provisoplain_Stmts.l1, if_neg (by omega), e6, Option.bind_some, e7, Option.bind_some, if_pos hx3, List.take_of_length_le (by omega), eta47]
  | d + 1, i, k, h, hk => by
    obtain ⟨k, rfl⟩ : ∃ q, k = q + 1 := ⟨k - 1, by omega⟩
    have hi : i < x.f5.length := by omega
    have e : wrap64 ((i : Int) + 1) = ((i + 1 : Nat) : Int) := by unfold wrap64; omega
    have hc : cpE k x.f5[i] := hK k (by omega) _ (List.getElem_mem hi)
    obtain ⟨k', hk', ih⟩ := stmt_in x3 x9 x10 x11 x hl K hK h6 h7 hx3 d (i + 1) k (by omega) (by omega)
    unfold cpE at hc
    refine ⟨k', by omega, ?_⟩
    rw [provisoplain_Stmts.l1, if_pos (by omega), if_pos (by omega), if_pos (by omega), rd49 x.f5 i hi, hc, e]
    rw [Option.bind_some, if_pos (by rw [List.length_take]; omega)]
    dsimp only
    rw [eta49, take_on x.f5 i hi, ih]

theorem stmts_loop (l : List S47) (hl : l.length * 144 ≤ 140737488351232) (hb : ∀ x, x ∈ l → x.f5.length * 88 ≤ 140737488351232) (K M : Nat) (hM : ∀ x, x ∈ l → x.f5.length ≤ M) (hE : ∀ k, K ≤ k → ∀ x, x ∈ l → ∀ y, y ∈ x.f5 → cpE k y) (h6 : ∀ k, K ≤ k → ∀ x, x ∈ l → cpS k x.f6) (h7 : ∀ k, K ≤ k → ∀ x, x ∈ l → cpS k x.f7) :
    ∀ (d i k : Nat), i + d = l.length → K + d * (M + 3) + M + 2 < k → provisoplain_Stmts.l0 k (l.take i) l (l.length : Int) (i : Int) = some l
  | 0, i, k, h, hk => by
    obtain ⟨k, rfl⟩ : ∃ q, k = q + 1 := ⟨k - 1, by omega⟩
    rw [provisoplain_Stmts.l0, if_neg (by omega), List.take_of_length_le (by omega)]
  | d + 1, i, k, h, hk => by
    obtain ⟨k, rfl⟩ : ∃ q, k = q + 1 := ⟨k - 1, by omega⟩
    have hi : i < l.length := by omega
    have hm : l[i] ∈ l := List.getElem_mem hi
    have e : wrap64 ((i : Int) + 1) = ((i + 1 : Nat) : Int) := by unfold wrap64; omega
    have hMi := hM _ hm
    have hd : (d + 1) * (M + 3) = d * (M + 3) + (M + 3) := by rw [Nat.succ_mul]
    rw [hd] at hk
    obtain ⟨k', hk', ih⟩ := stmt_in (l.take i) l (l.length : Int) (i : Int) l[i] (hb _ hm) K (fun k hk => hE k hk _ hm) (fun k hk => h6 k hk _ hm) (fun k hk => h7 k hk _ hm) (by rw [List.length_take]; omega) l[i].f5.length 0 k (by omega) (by omega)
    rw [provisoplain_Stmts.l0, if_pos (by omega), if_pos (by omega), if_pos (by omega), rd47 l i hi]
    have ih' : provisoplain_Stmts.l1 k (l.take i) l (l.length : Int) (i : Int) l[i].f5 (l[i].f5.length : Int) 0 l[i].f0 l[i].f1 l[i].f2 l[i].f3 l[i].f4 l[i].f5 l[i].f6 l[i].f7 l[i].f8 l[i].f9 l[i].f0 l[i].f1 l[i].f2 l[i].f3 l[i].f4 ([] : List S49) l[i].f6 l[i].f7 l[i].f8 l[i].f9 = _ := ih
    rw [ih', take_on l i hi, e]
    exact stmts_loop l hl hb K M hM hE h6 h7 d (i + 1) k' (by omega) (by omega)

theorem le_all {α : Type} (f : α → Nat) : ∀ (l : List α), ∃ M, ∀ x, x ∈ l → f x ≤ M
  | [] => ⟨0, fun _ h => absurd h (List.not_mem_nil)⟩
  | a :: l => by
    obtain ⟨M, h⟩ := le_all f l
    refine ⟨M + f a, fun x hx => ?_⟩
    rcases List.mem_cons.1 hx with rfl | hx
    · omega
    · have := h x hx; omega

theorem stmts_copy {l : List S47} (h : OkS l) : ∃ K, ∀ k, K ≤ k → cpS k l := by
  induction h with
  | mk l hl he hb hx ih6 ih7 =>
    obtain ⟨KE, hKE⟩ := all_from (Q := fun k x => ∀ y, y ∈ x.f5 → cpE k y) l (fun x hx => expr_copy (he x hx))
    obtain ⟨K6, hK6⟩ := all_from (Q := fun k x => cpS k x.f6) l ih6
    obtain ⟨K7, hK7⟩ := all_from (Q := fun k x => cpS k x.f7) l ih7
    obtain ⟨M, hM⟩ := le_all (fun x : S47 => x.f5.length) l
    refine ⟨KE + K6 + K7 + l.length * (M + 3) + M + 4, fun k hk => ?_⟩
    obtain ⟨k, rfl⟩ : ∃ q, k = q + 1 := ⟨k - 1, by omega⟩
    unfold cpS
    rw [provisoplain_Stmts.f]
    have := stmts_loop l hl (fun x hx => (he x hx).len) (KE + K6 + K7) M hM (fun k hk => hKE k (by omega)) (fun k hk => hK6 k (by omega)) (fun k hk => hK7 k (by omega)) l.length 0 k (by omega) (by omega)
    simpa using this
theorem stmts_is {l : List S47} (h : OkS l) : ∃ k, provisoplain_Stmts.f k l = some l := by
  obtain ⟨K, hK⟩ := stmts_copy h
  exact ⟨K, hK K (Nat.le_refl _)⟩

end Go.Proofs.Ytpimociplmpfcaa.Sam
