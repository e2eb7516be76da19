/- What the code layer's functions answer, as plain functions of numbers and lists; no program in sight. -/
import Derived.RowKit
namespace Go.Proofs.Ytcfpiamdkdedlaa.Spec

/-- How many bytes the operands have. -/
def wA (op : Int) : Nat := if op = 1 then 4 else if op = 19 ∨ op = 20 then 2 else if op = 24 ∨ op = 25 ∨ op = 2 ∨ op = 4 ∨ op = 5 ∨ op = 21 ∨ op = 23 ∨ op = 30 ∨ op = 31 ∨ op = 32 then 1 else 0
def wB (op : Int) : Nat := if op = 24 ∨ op = 25 then 1 else 0
/-- How many bytes an instruction has (0: none). -/
def sizeS (op : Int) : Int := if op ≥ 34 then 0 else 1 + wA op + wB op
/-- A number, the greatest byte first. -/
def be (n : Int) : Nat → List Int
  | 0 => []
  | w + 1 => n / 256 ^ w % 256 :: be n w
/-- May an operand of so many bytes be that number? -/
def fitS (op n : Int) (w : Nat) : Bool :=
  match w with
  | 0 => n == 0
  | 1 => decide (n ≥ 0) && decide (n ≤ 255) && (op != 2 || decide (n ≤ 1))
  | 2 => decide (n ≥ 0) && decide (n ≤ 65535)
  | _ => decide (n ≥ -2147483648) && decide (n ≤ 2147483647)
/-- An instruction's bytes, or the error. -/
def encodeS (op A B : Int) : List Int × Int :=
  if op ≥ 34 then ([], 40) else if fitS op A (wA op) && fitS op B (wB op) then (op :: (be A (wA op) ++ be B (wB op)), 0) else ([], 5)

theorem be_length (n : Int) : ∀ w, (be n w).length = w
  | 0 => rfl
  | w + 1 => by simp [be, be_length n w]
theorem be_bytes (n : Int) : ∀ w, ∀ x ∈ be n w, 0 ≤ x ∧ x ≤ 255
  | 0 => by simp [be]
  | w + 1 => by
    intro x hx
    simp only [be, List.mem_cons] at hx
    rcases hx with rfl | hx
    · omega
    · exact be_bytes n w x hx
theorem wA_le (op : Int) : wA op ≤ 4 := by unfold wA; repeat' split <;> try omega
theorem wB_le (op : Int) : wB op ≤ 1 := by unfold wB; repeat' split <;> try omega
/-- The widths that there are. -/
theorem wA_cases (op : Int) : wA op = 0 ∨ wA op = 1 ∨ wA op = 2 ∨ wA op = 4 := by unfold wA; repeat' split <;> try omega
theorem wB_cases (op : Int) : wB op = 0 ∨ wB op = 1 := by unfold wB; split <;> omega
theorem wA_two : wA 2 = 1 := by decide
theorem wB_two : wB 2 = 0 := by decide
theorem encode_length (op A B : Int) : (encodeS op A B).1.length ≤ 6 := by
  unfold encodeS
  have := wA_le op; have := wB_le op
  split
  · simp
  · split
    · simp [be_length]; omega
    · simp
theorem encode_bytes (op A B : Int) (h0 : 0 ≤ op) (h : op ≤ 255) : ∀ x ∈ (encodeS op A B).1, 0 ≤ x ∧ x ≤ 255 := by
  unfold encodeS
  split
  · simp
  · split
    · intro x hx
      simp only [List.mem_cons, List.mem_append] at hx
      rcases hx with rfl | hx | hx
      · omega
      · exact be_bytes _ _ x hx
      · exact be_bytes _ _ x hx
    · simp

end Go.Proofs.Ytcfpiamdkdedlaa.Spec
namespace Go.Proofs.Ytcfpiamdkdedlaa.Spec
/-- The number of bytes, the greatest first. -/
def beVal (l : List Int) : Int := l.foldl (fun n x => n * 256 + x) 0
theorem beVal_snoc (l : List Int) (x : Int) : beVal (l ++ [x]) = beVal l * 256 + x := by simp [beVal]
/-- The number of the first w bytes, as an operand. -/
def takeV (l : List Int) (w : Nat) : Int := if w = 4 ∧ beVal (l.take w) ≥ 2147483648 then beVal (l.take w) - 4294967296 else beVal (l.take w)
/-- The instruction at an address, or the error. -/
def decodeS (l : List Int) (at' : Int) : (Int × Int × Int × Int) × Int :=
  if at' < 0 ∨ at' > l.length then ((0, 0, 0, 0), 1)
  else if at' = l.length then ((0, 0, 0, 0), 2)
  else
    let op := l.getD at'.toNat 0
    if sizeS op = 0 then ((0, 0, 0, 0), 40)
    else if (l.length : Int) - at' < sizeS op then ((0, 0, 0, 0), 2)
    else
      let A := takeV (l.drop (at'.toNat + 1)) (wA op)
      let B := takeV (l.drop (at'.toNat + 1 + wA op)) (wB op)
      if op = 2 ∧ A > 1 then ((0, 0, 0, 0), 5) else ((at', op, A, B), 0)
theorem beVal_range : ∀ (k : Nat) (l : List Int), (∀ x ∈ l, 0 ≤ x ∧ x ≤ 255) → 0 ≤ beVal (l.take k) ∧ beVal (l.take k) < 256 ^ k
  | 0, l, _ => by simp [beVal]
  | k + 1, l, h => by
    have ih := beVal_range k l h
    by_cases hk : k < l.length
    · have hx := h l[k] (List.getElem_mem hk)
      rw [List.take_succ_eq_append_getElem hk, beVal_snoc, Int.pow_succ]
      omega
    · rw [List.take_of_length_le (by omega)] at ih ⊢
      refine ⟨ih.1, ?_⟩
      have : (256 : Int) ^ k ≤ 256 ^ (k + 1) := by
        have h0 : (0 : Int) < 256 ^ k := Int.pow_pos (by decide)
        rw [Int.pow_succ]; omega
      omega
end Go.Proofs.Ytcfpiamdkdedlaa.Spec
