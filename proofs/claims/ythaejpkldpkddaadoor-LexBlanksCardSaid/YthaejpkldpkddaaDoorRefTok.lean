/- The reference's token at a place is the scanner's. -/
import Derived.Test.YthaejpkldpkddaaDoorScnTok
import Derived.Test.YthaejpkldpkddaaDoorBlankV
import Derived.Test.YthaejpkldpkddaaDoorPLexBlanksx3
import Derived.Test.YthaejpkldpkddaaDoorLexK
namespace Go.Proofs.YthaejpkldpkddaaDoor.Scn
open Go.RowKit Go.Proofs.YthaejpkldpkddaaDoorW.PrintWords Go.Proofs.YthaejpkldpkddaaDoorW.PrintLast Go.Proofs.YthaejpkldpkddaaDoorW.PrintMore
set_option linter.unusedVariables false
set_option linter.unusedSimpArgs false

/-! ### Marks -/
def matchB (s : ByteArray) (p : Nat) (w : ByteArray) : Bool := decide (p + w.size ≤ s.size) && decide ((s.extract p (p + w.size)).toList = w.toList)
def foldM (s : ByteArray) (p : Nat) : List ByteArray → Int → Int × Nat → Int × Nat
  | [], _, b => b
  | w :: r, i, b => foldM s p r (i + 1) (if b.2 < w.size ∧ matchB s p w = true then (i, w.size) else b)

/-- The first word that stands at p in n bytes. -/
def placeN (s : ByteArray) (p n : Nat) (l : List ByteArray) (i : Int) : Option Int := if p + n ≤ s.size then place (s.extract p (p + n)).toList l i else none

theorem toList_size (t : ByteArray) : t.toList.length = t.size := by rw [ByteArray.toList_eq, data_length]
theorem ext_size (s : ByteArray) (p n : Nat) (h : p + n ≤ s.size) : (s.extract p (p + n)).size = n := by rw [ByteArray.size_extract]; omega

theorem match_n (s : ByteArray) (p n : Nat) (w : ByteArray) (h : p + n ≤ s.size) (hw : w.size = n) : matchB s p w = decide ((s.extract p (p + n)).toList = w.toList) := by
  unfold matchB
  rw [hw, decide_eq_true h, Bool.true_and]
theorem no_match (s : ByteArray) (p n : Nat) (w : ByteArray) (h : ¬ p + n ≤ s.size) (hw : w.size = n) : matchB s p w = false := by
  unfold matchB
  rw [hw, decide_eq_false h, Bool.false_and]

theorem placeN_cons (s : ByteArray) (p n : Nat) (w : ByteArray) (l : List ByteArray) (i : Int) (h : w.size = n) : placeN s p n (w :: l) i = if matchB s p w = true then some i else placeN s p n l (i + 1) := by
  unfold placeN
  by_cases hp : p + n ≤ s.size
  · rw [if_pos hp, if_pos hp, match_n s p n w hp h, place]
    by_cases c : (s.extract p (p + n)).toList = w.toList
    · rw [if_pos c, if_pos (decide_eq_true c)]
    · rw [if_neg c, if_neg (by simp [c])]
  · rw [if_neg hp, if_neg hp, no_match s p n w hp h, if_neg (by decide)]
theorem placeN_other (s : ByteArray) (p n : Nat) (w : ByteArray) (l : List ByteArray) (i : Int) (h : w.size ≠ n) : placeN s p n (w :: l) i = placeN s p n l (i + 1) := by
  unfold placeN
  by_cases hp : p + n ≤ s.size
  · rw [if_pos hp, if_pos hp, place, if_neg]
    intro e
    have := congrArg List.length e
    rw [toList_size, toList_size, ext_size s p n hp] at this
    exact h this.symm
  · rw [if_neg hp, if_neg hp]

theorem fold_eq (s : ByteArray) (p : Nat) : ∀ (l : List ByteArray) (i : Int) (b : Int × Nat), (∀ w, w ∈ l → w.size = 1 ∨ w.size = 2) → b.2 ≤ 2 →
    foldM s p l i b = if b.2 = 2 then b else match placeN s p 2 l i with
      | some j => (j, 2)
      | none => if b.2 = 1 then b else match placeN s p 1 l i with
        | some j => (j, 1)
        | none => b
  | [], i, b, _, _ => by
    have e2 : placeN s p 2 [] i = none := by unfold placeN; split <;> rfl
    have e1 : placeN s p 1 [] i = none := by unfold placeN; split <;> rfl
    rw [e2, e1]
    simp only [foldM, ite_self]
  | w :: r, i, b, hl, hb => by
    have ih := fun b' h => fold_eq s p r (i + 1) b' (fun w' hw' => hl w' (List.mem_cons_of_mem _ hw')) h
    rw [foldM]
    rcases hl w List.mem_cons_self with h1 | h2
    · rw [placeN_other s p 2 w r i (by omega), placeN_cons s p 1 w r i h1, h1]
      by_cases c : b.2 < 1 ∧ matchB s p w = true
      · rw [if_pos c, ih _ (by simp), if_pos c.2]
        have hb0 : b.2 = 0 := by omega
        simp [hb0]
      · rw [if_neg c, ih b hb]
        by_cases b2 : b.2 = 2
        · simp [b2]
        · by_cases b1 : b.2 = 1
          · simp [b1]
          · have hm : ¬ matchB s p w = true := fun h => c ⟨by omega, h⟩
            rw [if_neg hm]
    · rw [placeN_cons s p 2 w r i h2, placeN_other s p 1 w r i (by omega), h2]
      by_cases c : b.2 < 2 ∧ matchB s p w = true
      · rw [if_pos c, ih _ (by simp), if_pos c.2]
        have hb0 : ¬ b.2 = 2 := by omega
        simp [hb0]
      · rw [if_neg c, ih b hb]
        by_cases b2 : b.2 = 2
        · simp [b2]
        · have hm : ¬ matchB s p w = true := fun h => c ⟨by omega, h⟩
          rw [if_neg hm]

theorem place_shift (t : List UInt8) (c : Int) : ∀ (l : List ByteArray) (i : Int), place t l (i + c) = (place t l i).map (· + c)
  | [], _ => rfl
  | w :: r, i => by
    simp only [place]
    by_cases h : t = w.toList
    · rw [if_pos h, if_pos h]; rfl
    · rw [if_neg h, if_neg h, show i + c + 1 = (i + 1) + c by omega]; exact place_shift t c r (i + 1)
theorem place_skip (t : List UInt8) : ∀ (l1 l2 : List ByteArray) (i : Int), (∀ w, w ∈ l1 → t ≠ w.toList) → place t (l1 ++ l2) i = place t l2 (i + l1.length)
  | [], l2, i, _ => by simp
  | w :: r, l2, i, h => by
    rw [List.cons_append, place, if_neg (h w List.mem_cons_self), place_skip t r l2 (i + 1) (fun w' hw => h w' (List.mem_cons_of_mem _ hw))]
    congr 1
    simp only [List.length_cons]
    omega

theorem ws_letters : ∀ w, w ∈ ws.take 22 → letterB (((w.toList.headD 0).toNat : Nat) : Int) = true := by
  have h : (ws.take 22).all (fun w => letterB (((w.toList.headD 0).toNat : Nat) : Int)) = true := by decide +kernel
  exact fun w hw => List.all_eq_true.1 h w hw
theorem ws_marks : ∀ w, w ∈ ws.drop 22 → w.size = 1 ∨ w.size = 2 := by
  have h : (ws.drop 22).all (fun w => decide (w.size = 1) || decide (w.size = 2)) = true := by decide +kernel
  intro w hw
  have := List.all_eq_true.1 h w hw
  simpa using this

theorem bt_head (t : ByteArray) (h : 0 < t.size) : bt t 0 = ((t.toList.headD 0).toNat : Int) := by
  rw [ByteArray.toList_eq]
  obtain ⟨⟨l⟩⟩ := t
  cases l with
  | nil => exact absurd h (by simp [ByteArray.size])
  | cons a r =>
    unfold bt
    rw [dif_pos (by simpa using h)]
    rfl

theorem place_marks (s : ByteArray) (p n : Nat) (hn : 1 ≤ n) (hp : p + n ≤ s.size) (hl : ¬ letterB (bt s (p : Int)) = true) : place (s.extract p (p + n)).toList ws 0 = place (s.extract p (p + n)).toList (ws.drop 22) 22 := by
  have h := place_skip (s.extract p (p + n)).toList (ws.take 22) (ws.drop 22) 0 ?_
  · rw [List.take_append_drop] at h
    rw [h, List.length_take, ws_len]
    rfl
  · intro w hw e
    apply hl
    have h1 := bt_head (s.extract p (p + n)) (by rw [ext_size s p n hp]; omega)
    have h2 := bt_ext s p (p + n) 0 hp (by omega)
    rw [Nat.add_zero] at h2
    rw [← h2, show ((0 : Nat) : Int) = 0 from rfl, h1, e]
    exact ws_letters w hw

theorem kind_marks (s : ByteArray) (p n : Nat) (hn : 1 ≤ n) (hp : p + n ≤ s.size) (hl : ¬ letterB (bt s (p : Int)) = true) :
    kindV (s.extract p (p + n)) = match placeN s p n (ws.drop 22) 25 with | some j => (j, true) | none => (0, false) := by
  unfold kindV placeN
  rw [place_marks s p n hn hp hl, if_pos hp, show (25 : Int) = 22 + 3 from rfl, place_shift]
  cases place (s.extract p (p + n)).toList (ws.drop 22) 22 with
  | none => rfl
  | some j => rfl

/-- The reference's mark is the scanner's. -/
theorem mark_fold (s : ByteArray) (p : Nat) (hp : p < s.size) (hl : ¬ letterB (bt s (p : Int)) = true) :
    foldM s p (ws.drop 22) 25 (0, 0) = match markV s p with | some x => x | none => (0, 0) := by
  rw [fold_eq s p _ _ _ ws_marks (by simp), if_neg (by simp), if_neg (by simp)]
  have k1 := kind_marks s p 1 (Nat.le_refl _) (by omega) hl
  unfold markV
  by_cases h2 : p + 2 ≤ s.size
  · have k2 := kind_marks s p 2 (by omega) h2 hl
    rw [show min 2 (s.size - p) = 1 + 1 by omega]
    simp only [markF, Nat.zero_add]
    rw [k1, k2]
    cases placeN s p 2 (ws.drop 22) 25 with
    | some j => simp
    | none =>
      cases placeN s p 1 (ws.drop 22) 25 with
      | some j => simp
      | none => simp
  · have e2 : placeN s p 2 (ws.drop 22) 25 = none := by unfold placeN; rw [if_neg h2]
    rw [show min 2 (s.size - p) = 0 + 1 by omega, e2]
    simp only [markF, Nat.zero_add]
    rw [k1]
    cases placeN s p 1 (ws.drop 22) 25 with
    | some j => simp
    | none => simp

/-- The reference's answer at a place. -/
def oneV (r : Except Int Tok) : Int × Int × Int × Int × ByteArray × Int := match r with | .ok t => (t.f0, t.f1, t.f2, t.f3, t.f4, 0) | .error e => (0, 0, 0, 0, ⟨#[]⟩, e)

end Go.Proofs.YthaejpkldpkddaaDoor.Scn
