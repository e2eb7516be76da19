/- For every byte and every text, code.Size, Name, Op, Jumps and Ends answer as the reference does. No condition. -/
import Derived.Test.YtcfpiamdkdedlaaPCodeWordsx2
namespace Go.Proofs.Ytcfpiamdkdedlaa.Pure
open Go.RowKit Go.Proofs.Ytcfpiamdkdedlaa.PCodeWords Go.Proofs.YtcfpiamdkdedlaaW.PrintWords Go.Proofs.YtcfpiamdkdedlaaW.PrintLast

/-- The place of a text among words, from a place on. -/
def place (s : List UInt8) : List ByteArray → Int → Option Int
  | [], _ => none
  | w :: r, i => if s = w.toList then some i else place s r (i + 1)

theorem index_loop (ws : List ByteArray) (s : ByteArray) (hw : ws.length ≤ 1000) : ∀ (d : Nat) (i k : Nat), i + d = ws.length → d < k →
    slices_Index_string_string.l0 k ws s (ws.length : Int) (i : Int) = some ((place s.toList (ws.drop i) (i : Int)).getD (-1)) := by
  intro d
  induction d with
  | zero =>
    intro i k hi hk
    obtain ⟨k, rfl⟩ : ∃ m, k = m + 1 := ⟨k - 1, by omega⟩
    simp only [slices_Index_string_string.l0]
    rw [if_neg (by omega), List.drop_eq_nil_of_le (by omega)]
    rfl
  | succ d ih =>
    intro i k hi hk
    obtain ⟨k, rfl⟩ : ∃ m, k = m + 1 := ⟨k - 1, by omega⟩
    have hl : i < ws.length := by omega
    simp only [slices_Index_string_string.l0]
    rw [if_pos (by omega), if_pos (by omega), if_pos (by omega), List.drop_eq_getElem_cons hl]
    have e : rdOf ByteArray.empty ws (i : Int) = ws[i] := by simp [rdOf, List.getD_eq_getElem?_getD, List.getElem?_eq_getElem hl]
    rw [e]
    simp only [place]
    by_cases h : s.toList = ws[i].toList
    · rw [if_pos h, if_pos h]; rfl
    · rw [if_neg h, if_neg h]
      have ew : wrap64 ((i : Int) + 1) = ((i + 1 : Nat) : Int) := by unfold wrap64; omega
      rw [ew, ih (i + 1) k (by omega) (by omega)]
      rfl

/-- The words, as the printed functions hold them. -/
def ws : List ByteArray := (code_words.f).getD []
theorem ws_some : code_words.f = some ws := rfl
theorem ws_len : ws.length = 34 := by decide +kernel

theorem ref_name : ∀ n : Fin 34, provisoref04_Name.f ((n.val : Nat) : Int) = some (rdOf ByteArray.empty ws ((n.val : Nat) : Int)) := by decide +kernel

theorem ref_loop (s : ByteArray) : ∀ (d : Nat) (i k : Nat), i + d = 34 → d < k →
    provisoref04_Op.l0 k s (i : Int) = some (match place s.toList (ws.drop i) (i : Int) with | some j => (j, true) | none => (0, false)) := by
  intro d
  induction d with
  | zero =>
    intro i k hi hk
    obtain ⟨k, rfl⟩ : ∃ m, k = m + 1 := ⟨k - 1, by omega⟩
    simp only [provisoref04_Op.l0]
    rw [if_neg (by omega), List.drop_eq_nil_of_le (by rw [ws_len]; omega)]
    rfl
  | succ d ih =>
    intro i k hi hk
    obtain ⟨k, rfl⟩ : ∃ m, k = m + 1 := ⟨k - 1, by omega⟩
    have hl : i < ws.length := by rw [ws_len]; omega
    simp only [provisoref04_Op.l0]
    rw [if_pos (by omega), ref_name ⟨i, by omega⟩, List.drop_eq_getElem_cons hl]
    have e : rdOf ByteArray.empty ws (i : Int) = ws[i] := by simp [rdOf, List.getD_eq_getElem?_getD, List.getElem?_eq_getElem hl]
    rw [e]
    simp only [Option.bind_some, place]
    by_cases h : s.toList = ws[i].toList
    · rw [if_pos h, if_pos h.symm]
    · rw [if_neg h, if_neg (fun x => h x.symm)]
      have ew : ((i : Int) + 1) % 256 = ((i + 1 : Nat) : Int) := by omega
      rw [ew, ih (i + 1) k (by omega) (by omega)]
      rfl

theorem place_range (s : List UInt8) : ∀ (l : List ByteArray) (i : Int) (j : Int), place s l i = some j → i ≤ j ∧ j < i + l.length
  | [], _, _, h => by simp [place] at h
  | w :: r, i, j, h => by
    simp only [place] at h
    split at h
    · cases h; simp only [List.length_cons]; omega
    · have := place_range s r (i + 1) j h
      simp only [List.length_cons]; omega

theorem ops_same (s : ByteArray) (k : Nat) (hk : 34 < k) : ∃ p, code_Op.f k s = some p ∧ provisoref04_Op.f k s = some p := by
  unfold code_Op.f provisoref04_Op.f slices_Index_string_string.f
  rw [ws_some]
  simp only [Option.bind_some]
  have a := index_loop ws s (by rw [ws_len]; omega) 34 0 k (by rw [ws_len]) hk
  have b := ref_loop s 34 0 k rfl hk
  simp only [Int.natCast_zero] at a b
  have a' : slices_Index_string_string.l0 k ws s (ws.length : Int) 0 = some ((place s.toList (ws.drop 0) 0).getD (-1)) := a
  have b' : provisoref04_Op.l0 k s 0 = some (match place s.toList (ws.drop 0) 0 with | some j => (j, true) | none => (0, false)) := b
  rw [a', b']
  simp only [Option.bind_some]
  cases h : place s.toList (ws.drop 0) 0 with
  | none => exact ⟨_, by simp only [Option.getD_none]; rw [if_pos (by omega)], rfl⟩
  | some j =>
    have r := place_range _ _ _ _ h
    rw [List.drop_zero, ws_len] at r
    refine ⟨(j, true), ?_, rfl⟩
    simp only [Option.getD_some]
    rw [if_neg (by omega)]
    have : j % 256 = j := by omega
    rw [this]

theorem u8_range {n : Int} (h : (Lit.int .u8 n).wf = true) : 0 ≤ n ∧ n ≤ 255 := by
  simp [Lit.wf, IntKind.min, IntKind.max, IntKind.signed, IntKind.bits] at h
  omega

def bytesFine (n : Nat) (k : Nat) : Bool :=
  (code_Size.f k n).isSome && code_Size.f k n == provisoref04_Size.f k n && (code_Name.f n).isSome && decide (code_Name.f n = provisoref04_Name.f n)
  && (code_Jumps.f n).isSome && code_Jumps.f n == provisoref04_Jumps.f n && (code_Ends.f n).isSome && code_Ends.f n == provisoref04_Ends.f n

theorem bytes_fine : ∀ n : Fin 256, bytesFine n.val 40 = true := by decide +kernel
theorem size_int : code_Size.f 39 1 = some 5 := by decide +kernel

theorem law_of (k : Nat) (a0 : Int) (a1 : ByteArray) (p : Int × Bool) (x : Int) (y : ByteArray) (z u : Bool)
    (hp : code_Op.f (k + 1) a1 = some p) (hp' : provisoref04_Op.f (k + 1) a1 = some p)
    (hx : code_Size.f (k + 1) a0 = some x) (hx' : provisoref04_Size.f (k + 1) a0 = some x)
    (hy : code_Name.f a0 = some y) (hy' : provisoref04_Name.f a0 = some y)
    (hz : code_Jumps.f a0 = some z) (hz' : provisoref04_Jumps.f a0 = some z)
    (hu : code_Ends.f a0 = some u) (hu' : provisoref04_Ends.f a0 = some u)
    (h5 : code_Size.f k 1 = some 5) : provisolaw04_CodeWords.f (k + 1) a0 a1 = some true := by
  unfold provisolaw04_CodeWords.f
  rw [hp, hp', hx, hx', hy, hy']
  simp only [Option.bind_some, if_true, beq_self_eq_true]
  unfold provisolaw04_CodeWords.j0
  simp only [if_true]
  rw [hz, hz', hu, hu', h5]
  simp only [Option.bind_some, if_true, beq_self_eq_true]

theorem CodeWords : provisolaw04_CodeWords.Pure := by
  intro a0 a1 w0 _
  obtain ⟨n, rfl⟩ : ∃ n : Fin 256, a0 = ((n.val : Nat) : Int) := by
    have := u8_range w0
    exact ⟨⟨a0.toNat, by omega⟩, by simp; omega⟩
  have f := bytes_fine n
  unfold bytesFine at f
  simp only [Bool.and_eq_true, Option.isSome_iff_exists, beq_iff_eq, decide_eq_true_eq] at f
  obtain ⟨⟨⟨⟨⟨⟨⟨⟨x, hx⟩, hx'⟩, ⟨y, hy⟩⟩, hy'⟩, ⟨z, hz⟩⟩, hz'⟩, ⟨u, hu⟩⟩, hu'⟩ := f
  rw [hx] at hx'; rw [hy] at hy'; rw [hz] at hz'; rw [hu] at hu'
  obtain ⟨p, hp, hp'⟩ := ops_same a1 40 (by omega)
  exact ⟨40, law_of 39 _ a1 p x y z u hp hp' hx hx'.symm hy hy'.symm hz hz'.symm hu hu'.symm size_int⟩

end Go.Proofs.Ytcfpiamdkdedlaa.Pure
