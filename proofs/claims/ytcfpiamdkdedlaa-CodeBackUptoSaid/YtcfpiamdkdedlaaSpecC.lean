/- What Encode writes, Decode takes, with anything ahead and behind: plain lists and numbers. -/
import Derived.Test.YtcfpiamdkdedlaaSpecB
namespace Go.Proofs.Ytcfpiamdkdedlaa.Spec

theorem takeV_be {op A : Int} {w : Nat} (hw : w = 0 ∨ w = 1 ∨ w = 2 ∨ w = 4) (h : fitS op A w = true) (r : List Int) : takeV (be A w ++ r) w = A := by
  have e : (be A w ++ r).take w = be A w := by rw [List.take_append_of_le_length (by rw [be_length]; omega), List.take_of_length_le (by rw [be_length]; omega)]
  unfold takeV
  rw [e]
  rcases hw with rfl | rfl | rfl | rfl
  · simp [fitS] at h
    rw [if_neg (by omega)]
    simp [be, beVal]; omega
  · simp [fitS] at h
    rw [if_neg (by omega)]
    simp [be, beVal]; omega
  · simp [fitS] at h
    rw [if_neg (by omega)]
    simp only [be, beVal, List.foldl_cons, List.foldl_nil, Int.pow_zero, Int.pow_succ]; omega
  · simp [fitS] at h
    have v : beVal (be A 4) = A % 4294967296 := by
      simp only [be, beVal, List.foldl_cons, List.foldl_nil, Int.pow_zero, Int.pow_succ]; omega
    rw [v]
    split <;> omega

/-- Decode, at its place, of Encode's bytes. -/
theorem back {op A B : Int} (h0 : 0 ≤ op) (h1 : op < 34) (ha : fitS op A (wA op) = true) (hb : fitS op B (wB op) = true) (l1 l2 : List Int) :
    decodeS ((l1 ++ (op :: (be A (wA op) ++ be B (wB op)))) ++ l2) (l1.length : Int) = (((l1.length : Int), op, A, B), 0) := by
  have wb4 : wB op = 0 ∨ wB op = 1 ∨ wB op = 2 ∨ wB op = 4 := by have := wB_cases op; omega
  have hs : sizeS op = 1 + wA op + wB op := by unfold sizeS; rw [if_neg (by omega)]
  have hl : ((l1 ++ (op :: (be A (wA op) ++ be B (wB op)))) ++ l2).length = l1.length + (1 + wA op + wB op) + l2.length := by simp [be_length]; omega
  have hg : ((l1 ++ (op :: (be A (wA op) ++ be B (wB op)))) ++ l2).getD l1.length 0 = op := by
    simp [List.getD_eq_getElem?_getD]
  have d1 : ((l1 ++ (op :: (be A (wA op) ++ be B (wB op)))) ++ l2).drop (l1.length + 1) = be A (wA op) ++ (be B (wB op) ++ l2) := by
    rw [List.append_assoc, ← List.drop_drop, List.drop_left]; simp
  have d2 : ((l1 ++ (op :: (be A (wA op) ++ be B (wB op)))) ++ l2).drop (l1.length + 1 + wA op) = be B (wB op) ++ l2 := by
    rw [← List.drop_drop, d1]
    exact List.drop_left' (be_length _ _)
  unfold decodeS
  rw [hl, if_neg (by omega), if_neg (by omega), Int.toNat_natCast]
  simp only [hg]
  rw [if_neg (by rw [hs]; omega), if_neg (by rw [hs]; omega), d1, d2, takeV_be (wA_cases op) ha, takeV_be wb4 hb, if_neg]
  rintro ⟨rfl, h⟩
  rw [wA_two] at ha
  simp [fitS] at ha
  omega
end Go.Proofs.Ytcfpiamdkdedlaa.Spec
