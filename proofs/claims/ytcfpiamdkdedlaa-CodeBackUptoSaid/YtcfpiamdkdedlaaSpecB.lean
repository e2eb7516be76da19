/- What Decode takes, Encode writes: plain lists and numbers, no program in sight. -/
import Derived.Test.YtcfpiamdkdedlaaSpec
namespace Go.Proofs.Ytcfpiamdkdedlaa.Spec

theorem be_again (n : Int) : ∀ w : Nat, w ≤ 4 → be (n - 4294967296) w = be n w
  | 0, _ => rfl
  | w + 1, h => by
    have e : (n - 4294967296) / 256 ^ w % 256 = n / 256 ^ w % 256 := by
      have : w = 0 ∨ w = 1 ∨ w = 2 ∨ w = 3 := by omega
      rcases this with rfl | rfl | rfl | rfl <;> simp <;> omega
    simp only [be]
    rw [e, be_again n w (by omega)]

/-- A number of bytes, written again. -/
theorem be_beVal (bs : List Int) (hb : ∀ x ∈ bs, 0 ≤ x ∧ x ≤ 255) (w : Nat) (hl : bs.length = w) (hw : w = 0 ∨ w = 1 ∨ w = 2 ∨ w = 4) : be (beVal bs) w = bs := by
  rcases hw with rfl | rfl | rfl | rfl
  · obtain rfl := List.eq_nil_of_length_eq_zero hl; rfl
  · obtain ⟨a, rfl⟩ := List.length_eq_one_iff.1 hl
    have ha := hb a (by simp)
    simp [be, beVal]; omega
  · match bs, hl with
    | [a, b], _ =>
      have ha := hb a (by simp)
      have hb' := hb b (by simp)
      simp only [be, beVal, List.foldl_cons, List.foldl_nil, List.cons.injEq, and_true]
      simp only [Int.pow_zero, Int.pow_succ]
      omega
  · match bs, hl with
    | [a, b, c, d], _ =>
      have ha := hb a (by simp)
      have hb' := hb b (by simp)
      have hc := hb c (by simp)
      have hd := hb d (by simp)
      simp only [be, beVal, List.foldl_cons, List.foldl_nil, List.cons.injEq, and_true]
      simp only [Int.pow_zero, Int.pow_succ]
      omega

theorem be_takeV (l : List Int) (hb : ∀ x ∈ l, 0 ≤ x ∧ x ≤ 255) (w : Nat) (hw : w = 0 ∨ w = 1 ∨ w = 2 ∨ w = 4) (hl : w ≤ l.length) : be (takeV l w) w = l.take w := by
  have h := be_beVal (l.take w) (fun x hx => hb x (List.mem_of_mem_take hx)) w (by rw [List.length_take]; omega) hw
  unfold takeV
  split
  · rw [be_again _ w (by omega), h]
  · exact h

theorem take_fit (l : List Int) (hb : ∀ x ∈ l, 0 ≤ x ∧ x ≤ 255) (op : Int) (w : Nat) (hw : w = 0 ∨ w = 1 ∨ w = 2 ∨ w = 4) (h2 : op = 2 → w = 1 → takeV l w ≤ 1) : fitS op (takeV l w) w = true := by
  have hr := beVal_range w l hb
  unfold fitS
  rcases hw with rfl | rfl | rfl | rfl
  · simp [takeV, beVal]
  · have e : takeV l 1 = beVal (l.take 1) := by unfold takeV; rw [if_neg (by omega)]
    rw [e] at h2 ⊢
    have h1 : beVal (l.take 1) < 256 := hr.2
    by_cases ho : op = 2
    · have := h2 ho rfl
      simp [ho]; omega
    · simp [ho]; omega
  · have e : takeV l 2 = beVal (l.take 2) := by unfold takeV; rw [if_neg (by omega)]
    rw [e]
    have h1 : beVal (l.take 2) < 65536 := hr.2
    simp; omega
  · have h1 : beVal (l.take 4) < 4294967296 := hr.2
    have h0 := hr.1
    unfold takeV
    split <;> simp <;> omega

theorem sizeS_pos {op : Int} (h : sizeS op ≠ 0) : op < 34 ∧ sizeS op = 1 + wA op + wB op := by
  unfold sizeS at h ⊢
  split at h
  · exact absurd rfl h
  · rename_i g; exact ⟨by omega, by rw [if_neg g]⟩

theorem encode_of {op A B : Int} (h : op < 34) (ha : fitS op A (wA op) = true) (hb : fitS op B (wB op) = true) : encodeS op A B = (op :: (be A (wA op) ++ be B (wB op)), 0) := by
  unfold encodeS; rw [if_neg (by omega), ha, hb]; rfl

theorem decode_zero {l : List Int} {a : Int} (h : (decodeS l a).2 ≠ 0) : (decodeS l a).1 = (0, 0, 0, 0) := by
  unfold decodeS at h ⊢
  split
  · rfl
  · rename_i h1
    rw [if_neg h1] at h
    split
    · rfl
    · rename_i h2
      rw [if_neg h2] at h
      simp only [] at h ⊢
      split
      · rfl
      · rename_i h3
        rw [if_neg h3] at h
        split
        · rfl
        · rename_i h4
          rw [if_neg h4] at h
          split
          · rfl
          · rename_i h5
            rw [if_neg h5] at h
            exact absurd rfl h

/-- What Decode takes: its parts; Encode of them is the bytes that stand there. -/
theorem form (l : List Int) (hb : ∀ x ∈ l, 0 ≤ x ∧ x ≤ 255) (k : Nat) (h : (decodeS l (k : Int)).2 = 0) :
    ∃ op A B : Int, (decodeS l (k : Int)).1 = ((k : Int), op, A, B) ∧ 0 ≤ op ∧ op < 34 ∧ sizeS op = 1 + wA op + wB op ∧ k + (1 + wA op + wB op) ≤ l.length ∧
      encodeS op A B = ((l.drop k).take (1 + wA op + wB op), 0) ∧ ((l.drop k).take (1 + wA op + wB op)).length = 1 + wA op + wB op := by
  unfold decodeS at h ⊢
  split at h
  · simp at h
  · rename_i h1
    rw [if_neg h1]
    split at h
    · simp at h
    · rename_i h2
      rw [if_neg h2]
      have hk : k < l.length := by omega
      simp only [Int.toNat_natCast] at h ⊢
      obtain ⟨op, hop⟩ : ∃ op, op = l.getD k 0 := ⟨_, rfl⟩
      rw [← hop] at h ⊢
      have hop2 : l[k] = op := by rw [hop]; simp [List.getD_eq_getElem?_getD, List.getElem?_eq_getElem hk]
      have hor := hb l[k] (List.getElem_mem hk)
      rw [hop2] at hor
      split at h
      · simp at h
      · rename_i h3
        rw [if_neg h3]
        obtain ⟨g1, g2⟩ := sizeS_pos h3
        split at h
        · simp at h
        · rename_i h4
          rw [if_neg h4]
          split at h
          · simp at h
          · rename_i h5
            rw [if_neg h5]
            have hsz : k + (1 + wA op + wB op) ≤ l.length := by omega
            have b1 : ∀ x ∈ l.drop (k + 1), 0 ≤ x ∧ x ≤ 255 := fun x hx => hb x (List.mem_of_mem_drop hx)
            have b2 : ∀ x ∈ l.drop (k + 1 + wA op), 0 ≤ x ∧ x ≤ 255 := fun x hx => hb x (List.mem_of_mem_drop hx)
            have fA : fitS op (takeV (l.drop (k + 1)) (wA op)) (wA op) = true := take_fit _ b1 op _ (wA_cases op) (fun e _ => by
              have : ¬ takeV (l.drop (k + 1)) (wA op) > 1 := fun x => h5 ⟨e, x⟩
              omega)
            have wb4 : wB op = 0 ∨ wB op = 1 ∨ wB op = 2 ∨ wB op = 4 := by have := wB_cases op; omega
            have fB : fitS op (takeV (l.drop (k + 1 + wA op)) (wB op)) (wB op) = true := take_fit _ b2 op _ wb4 (fun e hw => by
              subst e; simp [wB_two] at hw)
            refine ⟨op, _, _, rfl, hor.1, g1, g2, hsz, ?_, by rw [List.length_take, List.length_drop]; omega⟩
            rw [encode_of g1 fA fB, be_takeV _ b1 _ (wA_cases op) (by rw [List.length_drop]; omega), be_takeV _ b2 _ wb4 (by rw [List.length_drop]; omega)]
            have e1 : l.drop k = op :: l.drop (k + 1) := by rw [List.drop_eq_getElem_cons hk, hop2]
            have e2 : 1 + wA op + wB op = (wA op + wB op) + 1 := by omega
            rw [e1, e2, List.take_succ_cons, List.take_add, List.drop_drop]

end Go.Proofs.Ytcfpiamdkdedlaa.Spec
