/- The reference's Decode, and Untouched, as plain functions; no memory in sight. -/
import Derived.Test.YtcfpiamdkdedlaaDecodeD
import Derived.Test.YtcfpiamdkdedlaaPCodePatchesx3
namespace Go.Proofs.Ytcfpiamdkdedlaa.DecodeC
open Go.RowKit Go.Proofs.YtcfpiamdkdedlaaW.PrintWords Go.Proofs.YtcfpiamdkdedlaaW.PrintLast Go.Proofs.YtcfpiamdkdedlaaW.PrintMore Go.Proofs.Ytcfpiamdkdedlaa.PCodePatches Go.Proofs.Ytcfpiamdkdedlaa.Spec
set_option linter.unusedVariables false

theorem rsize5 : ∀ n : Fin 256, provisoref04_Size.f 5 (n.val : Int) = some (sizeS (n.val : Int)) := by decide +kernel
theorem wide5 : ∀ n : Fin 256, provisoref04_wide.f 5 (n.val : Int) = some ((wA (n.val : Int) : Int), (wB (n.val : Int) : Int)) := by decide +kernel
theorem rsize_is {op : Int} (h0 : 0 ≤ op) (h1 : op ≤ 255) {k : Nat} (hk : 5 ≤ k) : provisoref04_Size.f k op = some (sizeS op) := by
  obtain ⟨n, rfl⟩ := fin_of h0 h1
  exact at_rounds (g := fun k => provisoref04_Size.f k (n.val : Int)) (fun k => provisoref04_Size.mono _ k) hk (rsize5 n)
theorem wide_is {op : Int} (h0 : 0 ≤ op) (h1 : op ≤ 255) {k : Nat} (hk : 5 ≤ k) : provisoref04_wide.f k op = some ((wA op : Int), (wB op : Int)) := by
  obtain ⟨n, rfl⟩ := fin_of h0 h1
  exact at_rounds (g := fun k => provisoref04_wide.f k (n.val : Int)) (fun k => provisoref04_wide.mono _ k) hk (wide5 n)

theorem wrap_succ (i : Nat) (h : i ≤ 140737488355328) : wrap64 ((i : Int) + 1) = ((i + 1 : Nat) : Int) := by unfold wrap64; omega
theorem wrap_add (i a : Nat) (h : i + 1 + a ≤ 140737488355328) : wrap64 (((i + 1 : Nat) : Int) + (a : Int)) = ((i + 1 + a : Nat) : Int) := by unfold wrap64; omega

theorem bind_eq {α β : Type} {x : Option α} {a : α} (h : x = some a) (f : α → Option β) : x.bind f = f a := by rw [h]; rfl

theorem rtake_loop (l : List Int) (hb : ∀ x ∈ l, 0 ≤ x ∧ x ≤ 255) (w : Nat) (hw : w ≤ 4) (hl : w ≤ l.length) : ∀ (d i k : Nat), i + d = w → d < k →
    provisoref04_take.l0 k l (w : Int) (beVal (l.take i)) (i : Int) = some (takeV l w) := by
  intro d
  induction d with
  | zero =>
    intro i k hi hk
    obtain ⟨k, rfl⟩ : ∃ m, k = m + 1 := ⟨k - 1, by omega⟩
    obtain rfl : i = w := by omega
    have hv := beVal_range i l hb
    have hv2 : beVal (l.take i) < 4294967296 := by
      have : i = 0 ∨ i = 1 ∨ i = 2 ∨ i = 3 ∨ i = 4 := by omega
      rcases this with rfl | rfl | rfl | rfl | rfl <;> omega
    have hv1 := hv.1
    clear hv
    rw [provisoref04_take.l0, if_neg (by omega)]
    unfold takeV
    by_cases h : i = 4
    · rw [if_pos (by omega)]
      by_cases h' : beVal (l.take i) > 2147483647
      · have e : wrap64 (beVal (l.take i) - 4294967296) = beVal (l.take i) - 4294967296 := by unfold wrap64; omega
        rw [if_pos h', e, if_pos ⟨h, by omega⟩]
      · rw [if_neg h', if_neg (by omega)]
    · rw [if_neg (show ¬ ((i : Int) = 4) by omega), if_neg (fun x => h x.1)]
  | succ d ih =>
    intro i k hi hk
    obtain ⟨k, rfl⟩ : ∃ m, k = m + 1 := ⟨k - 1, by omega⟩
    have hv := beVal_range i l hb
    have hv2 : beVal (l.take i) < 4294967296 := by
      have : i = 0 ∨ i = 1 ∨ i = 2 ∨ i = 3 ∨ i = 4 := by omega
      rcases this with rfl | rfl | rfl | rfl | rfl <;> omega
    have hv1 := hv.1
    clear hv
    have hr := rd_range l hb i (by omega)
    have e1 : wrap64 (wrap64 (256 * beVal (l.take i)) + wrap64 (rd l (i : Int))) = beVal (l.take (i + 1)) := by
      have w1 : wrap64 (256 * beVal (l.take i)) = 256 * beVal (l.take i) := by unfold wrap64; omega
      have w2 : wrap64 (rd l (i : Int)) = rd l (i : Int) := by unfold wrap64; omega
      have w3 : wrap64 (256 * beVal (l.take i) + rd l (i : Int)) = 256 * beVal (l.take i) + rd l (i : Int) := by unfold wrap64; omega
      rw [rd_take l i (by omega), w1, w2, w3, Int.mul_comm]
    have e2 : wrap64 ((i : Int) + 1) = ((i + 1 : Nat) : Int) := by unfold wrap64; omega
    rw [provisoref04_take.l0, if_pos (by omega), if_pos (by omega), if_pos (by omega), e1, e2, ih (i + 1) k (by omega) (by omega)]

theorem rtake_is (l : List Int) (hb : ∀ x ∈ l, 0 ≤ x ∧ x ≤ 255) (w : Nat) (hw : w ≤ 4) (hl : w ≤ l.length) (k : Nat) (hk : 5 ≤ k) : provisoref04_take.f k l (w : Int) = some (takeV l w) :=
  rtake_loop l hb w hw hl w 0 k (by omega) (by omega)

theorem rdecode_is (l : List Int) (a : Int) (hl : l.length ≤ 140737488355328) (hb : ∀ x ∈ l, 0 ≤ x ∧ x ≤ 255) (k : Nat) (hk : 10 ≤ k) :
    provisoref04_Decode.f k l a = some ((decodeS l a).1.1, (decodeS l a).1.2.1, (decodeS l a).1.2.2.1, (decodeS l a).1.2.2.2, (decodeS l a).2) := by
  obtain ⟨k, rfl⟩ : ∃ m, k = m + 1 := ⟨k - 1, by omega⟩
  unfold provisoref04_Decode.f decodeS
  by_cases h : a < 0
  · rw [if_pos h, provisoref04_Decode.j0, if_pos rfl, if_pos (Or.inl h)]
  · rw [if_neg h]
    by_cases h' : a > l.length
    · rw [decide_eq_true h', provisoref04_Decode.j0, if_pos rfl, if_pos (Or.inr h')]
    · rw [decide_eq_false h', provisoref04_Decode.j0, if_neg (by decide), if_neg (not_or.2 ⟨h, h'⟩)]
      by_cases h2 : a = l.length
      · rw [if_pos h2, if_pos h2]
      · rw [if_neg h2, if_neg h2]
        obtain ⟨i, rfl⟩ : ∃ i : Nat, a = (i : Int) := ⟨a.toNat, by omega⟩
        have hi : i < l.length := by omega
        have hr := rd_range l hb i hi
        have hrd : l.getD i 0 = rd l (i : Int) := by simp [rd]
        rw [if_pos (by omega), if_pos (by omega), rsize_is hr.1 hr.2 (by omega), Int.toNat_natCast, hrd]
        simp only [Option.bind_some]
        by_cases h3 : sizeS (rd l i) = 0
        · rw [if_pos h3, if_pos h3]
        · rw [if_neg h3, if_neg h3]
          have e1 : wrap64 ((l.length : Int) - i) = (l.length : Int) - i := by unfold wrap64; omega
          rw [e1]
          by_cases h4 : (l.length : Int) - i < sizeS (rd l i)
          · rw [if_pos h4, if_pos h4]
          · rw [if_neg h4, if_neg h4, bind_eq (wide_is hr.1 hr.2 (by omega))]
            have hsz : i + 1 + wA (rd l i) + wB (rd l i) ≤ l.length := by
              unfold sizeS at h3 h4
              split at h3
              · exact absurd rfl h3
              · rename_i h; rw [if_neg h] at h4; omega
            have ha := wA_le (rd l i)
            have hbb := wB_le (rd l i)
            have hk5 : 5 ≤ k := by omega
            have q1 : i ≤ 140737488355328 := by omega
            have q2 : i + 1 + wA (rd l i) ≤ 140737488355328 := by omega
            have g1 : (0 : Int) ≤ ((i + 1 : Nat) : Int) := by omega
            have g2 : ((i + 1 : Nat) : Int) ≤ (l.length : Int) := by omega
            have g3 : (0 : Int) ≤ ((i + 1 + wA (rd l i) : Nat) : Int) := by omega
            have g4 : ((i + 1 + wA (rd l i) : Nat) : Int) ≤ (l.length : Int) := by omega
            have l1 : wA (rd l i) ≤ (l.drop (i + 1)).length := by rw [List.length_drop]; omega
            have l2 : wB (rd l i) ≤ (l.drop (i + 1 + wA (rd l i))).length := by rw [List.length_drop]; omega
            have T1 := rtake_is (l.drop (i + 1)) (fun x hx => hb x (List.mem_of_mem_drop hx)) (wA (rd l i)) ha l1 k hk5
            have T2 := rtake_is (l.drop (i + 1 + wA (rd l i))) (fun x hx => hb x (List.mem_of_mem_drop hx)) (wB (rd l i)) (by omega) l2 k hk5
            have e2 := wrap_succ i q1
            have e3 := wrap_add i (wA (rd l i)) q2
            rw [e2, if_pos g1, if_pos g2, Int.toNat_natCast, bind_eq T1, e3, if_pos g3, if_pos g4, Int.toNat_natCast, bind_eq T2]
            by_cases h5 : rd l i = 2
            · rw [if_pos h5]
              by_cases h6 : takeV (l.drop (i + 1)) (wA (rd l i)) > 1
              · rw [if_pos h6, if_pos ⟨h5, h6⟩]
              · rw [if_neg h6, if_neg (fun x => h6 x.2)]
            · rw [if_neg h5, if_neg (fun x => h5 x.1)]

theorem equal_loop (l : List Int) (h : l.length ≤ 140737488355328) : ∀ (d i k : Nat), i + d = l.length → d < k → slices_Equal_byte_byte.l0 k l l (l.length : Int) (i : Int) = some true
  | 0, i, k, hi, hk => by
    obtain ⟨k, rfl⟩ : ∃ m, k = m + 1 := ⟨k - 1, by omega⟩
    rw [slices_Equal_byte_byte.l0, if_neg (by omega)]
  | d + 1, i, k, hi, hk => by
    obtain ⟨k, rfl⟩ : ∃ m, k = m + 1 := ⟨k - 1, by omega⟩
    have e : wrap64 ((i : Int) + 1) = ((i + 1 : Nat) : Int) := by unfold wrap64; omega
    rw [slices_Equal_byte_byte.l0, if_pos (by omega), if_pos (by omega), if_pos (by omega), if_pos (by omega), if_pos rfl, e, equal_loop l h d (i + 1) k (by omega) (by omega)]

theorem equal_same (l : List Int) (h : l.length ≤ 140737488355328) : slices_Equal_byte_byte.f (l.length + 1) l l = some true := by
  unfold slices_Equal_byte_byte.f
  rw [if_pos rfl]
  exact equal_loop l h l.length 0 (l.length + 1) (by omega) (by omega)

theorem rd_app (l r : List Int) (j : Nat) (i : Int) (hi : i = ((l.length + j : Nat) : Int)) : rd (l ++ r) i = r.getD j 0 := by
  subst hi
  unfold rd
  rw [Int.toNat_natCast]
  simp [List.getD_eq_getElem?_getD, List.getElem?_append_right]

theorem untouched_is (l : List Int) (h : l.length ≤ 140737488351232) : provisoplain_Untouched.f (l.length + 1) (l ++ [165, 90, 195, 60]) l = some true := by
  have hlen : ((l ++ ([165, 90, 195, 60] : List Int)).length : Int) = (l.length : Int) + 4 := by simp
  have e1 : wrap64 ((l.length : Int) + 1) = (l.length : Int) + 1 := by unfold wrap64; omega
  have e2 : wrap64 ((l.length : Int) + 2) = (l.length : Int) + 2 := by unfold wrap64; omega
  have e3 : wrap64 ((l.length : Int) + 3) = (l.length : Int) + 3 := by unfold wrap64; omega
  unfold provisoplain_Untouched.f
  rw [hlen, Int.toNat_natCast, List.take_left, equal_same l (by omega), e1, e2, e3]
  simp only [Option.bind_some, if_true]
  rw [rd_app l _ 0 _ (by omega), rd_app l _ 1 _ (by omega), rd_app l _ 2 _ (by omega), rd_app l _ 3 _ (by omega)]
  rw [if_pos (by omega), if_pos (by omega), if_pos (by omega), if_pos (by rfl), if_pos (by omega), if_pos (by omega), if_pos (by rfl), if_pos (by omega), if_pos (by omega), if_pos (by rfl), if_pos (by omega), if_pos (by omega)]
  rfl
end Go.Proofs.Ytcfpiamdkdedlaa.DecodeC
