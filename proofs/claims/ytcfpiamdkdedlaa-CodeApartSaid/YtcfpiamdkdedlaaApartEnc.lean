/- code.Encode, over the print of another law: the bytes or the error, as a plain function. -/
import Derived.Test.YtcfpiamdkdedlaaSpec
import Derived.Test.YtcfpiamdkdedlaaPCodeApartx3
namespace Go.Proofs.Ytcfpiamdkdedlaa.PCodeApartEnc
open Go.RowKit Go.Proofs.Ytcfpiamdkdedlaa.PCodeApart Go.Proofs.YtcfpiamdkdedlaaW.PrintWords Go.Proofs.YtcfpiamdkdedlaaW.PrintLast Go.Proofs.YtcfpiamdkdedlaaW.PrintMore Go.Proofs.Ytcfpiamdkdedlaa.Spec

theorem u8_range {n : Int} (h : (Lit.int .u8 n).wf = true) : 0 ≤ n ∧ n ≤ 255 := by
  simp [Lit.wf, IntKind.min, IntKind.max, IntKind.signed, IntKind.bits] at h
  omega

theorem size5 : ∀ n : Fin 256, code_Size.f 5 (n.val : Int) = some (sizeS (n.val : Int)) := by decide +kernel

theorem widths5 : ∀ n : Fin 256, code_widths.f 5 (n.val : Int) = some ((wA (n.val : Int) : Int), (wB (n.val : Int) : Int)) := by decide +kernel

theorem fin_of {op : Int} (h0 : 0 ≤ op) (h1 : op ≤ 255) : ∃ n : Fin 256, op = (n.val : Int) := ⟨⟨op.toNat, by omega⟩, by simp; omega⟩

theorem size_is {op : Int} (h0 : 0 ≤ op) (h1 : op ≤ 255) {k : Nat} (hk : 5 ≤ k) : code_Size.f k op = some (sizeS op) := by
  obtain ⟨n, rfl⟩ := fin_of h0 h1
  exact at_rounds (g := fun k => code_Size.f k (n.val : Int)) (fun k => code_Size.mono _ k) hk (size5 n)

theorem widths_is {op : Int} (h0 : 0 ≤ op) (h1 : op ≤ 255) {k : Nat} (hk : 5 ≤ k) : code_widths.f k op = some ((wA op : Int), (wB op : Int)) := by
  obtain ⟨n, rfl⟩ := fin_of h0 h1
  exact at_rounds (g := fun k => code_widths.f k (n.val : Int)) (fun k => code_widths.mono _ k) hk (widths5 n)

theorem sizeS_zero (op : Int) : sizeS op = 0 ↔ op ≥ 34 := by
  unfold sizeS; split <;> omega

theorem fits_is (op n : Int) (w : Nat) (hw : w = 0 ∨ w = 1 ∨ w = 2 ∨ w = 4) : code_fits.f op n (w : Int) = some (fitS op n w) := by
  unfold code_fits.f fitS
  rcases hw with rfl | rfl | rfl | rfl
  · simp
  · simp only [Int.natCast_one, if_true]
    rw [if_neg (by omega)]
    by_cases h : n ≥ 0
    · by_cases h' : n ≤ 255
      · by_cases e : op = 2
        · subst e; simp [h, h']
        · simp [h, h', e]
      · simp [h, h']
    · simp [h]
  · simp only []
    rw [if_neg (by omega), if_neg (by omega), if_pos (by omega)]
    by_cases h : n ≥ 0 <;> simp [h]
  · simp only []
    rw [if_neg (by omega), if_neg (by omega), if_neg (by omega)]
    by_cases h : n ≥ -2147483648 <;> simp [h]

theorem put_is (n : Int) : ∀ (w : Nat) (l : List Int) (k : Nat), w ≤ 4 → l.length + w ≤ 1000 → w < k → code_put.l0 k l n ((w : Int) - 1) = some (l ++ be n w)
  | 0, l, k, _, _, hk => by
    obtain ⟨k, rfl⟩ : ∃ m, k = m + 1 := ⟨k - 1, by omega⟩
    rw [code_put.l0, if_neg (by omega)]
    simp [be]
  | w + 1, l, k, hw, hl, hk => by
    obtain ⟨k, rfl⟩ : ∃ m, k = m + 1 := ⟨k - 1, by omega⟩
    have e1 : ((w + 1 : Nat) : Int) - 1 = (w : Int) := by omega
    have e2 : wrap64 (8 * (w : Int)) = 8 * (w : Int) := by unfold wrap64; omega
    have e3 : wrap64 ((w : Int) - 1) = (w : Int) - 1 := by unfold wrap64; omega
    have e4 : shr .i64 n (8 * (w : Int)) = n / 256 ^ w := by
      have : w = 0 ∨ w = 1 ∨ w = 2 ∨ w = 3 := by omega
      rcases this with rfl | rfl | rfl | rfl <;> simp [shr, IntKind.bits]
    rw [e1, code_put.l0, if_pos (by omega), e2, if_pos (by omega), if_pos (by omega), e4, e3, put_is n w (l ++ [n / 256 ^ w % 256]) k (by omega) (by simp; omega) (by omega)]
    simp [be]

theorem put_all (n : Int) (w : Nat) (l : List Int) (k : Nat) (hw : w ≤ 4) (hl : l.length ≤ 900) (hk : 20 ≤ k) : code_put.f k l n (w : Int) = some (l ++ be n w) := by
  unfold code_put.f
  have e : wrap64 ((w : Int) - 1) = (w : Int) - 1 := by unfold wrap64; omega
  rw [e, put_is n w l k hw (by omega) (by omega)]

theorem wA4 (op : Int) : wA op = 0 ∨ wA op = 1 ∨ wA op = 2 ∨ wA op = 4 := wA_cases op

theorem wB4 (op : Int) : wB op = 0 ∨ wB op = 1 ∨ wB op = 2 ∨ wB op = 4 := by have := wB_cases op; omega

theorem encode_is (a op A B : Int) (h0 : 0 ≤ op) (h1 : op ≤ 255) (k : Nat) (hk : 21 ≤ k) : code_Encode.f k a op A B = some (encodeS op A B) := by
  obtain ⟨k, rfl⟩ : ∃ m, k = m + 1 := ⟨k - 1, by omega⟩
  unfold code_Encode.f encodeS
  rw [size_is h0 h1 (by omega), widths_is h0 h1 (by omega)]
  simp only [Option.bind_some]
  by_cases h : op ≥ 34
  · rw [if_pos ((sizeS_zero op).2 h), if_pos h]
  · rw [if_neg (fun x => h ((sizeS_zero op).1 x)), if_neg h, fits_is op A _ (wA4 op), fits_is op B _ (wB4 op)]
    simp only [Option.bind_some]
    cases ha : fitS op A (wA op) with
    | false =>
      rw [if_neg (by decide), code_Encode.j0, if_pos rfl]
      simp
    | true =>
      rw [if_pos rfl, code_Encode.j0]
      cases hb : fitS op B (wB op) with
      | false => simp
      | true =>
        rw [if_neg (by decide), put_all A _ _ k (wA_le op) (by simp) (by omega)]
        simp only [Option.bind_some]
        rw [put_all B _ _ k (by have := wB_le op; omega) (by have := wA_le op; simp [be_length]; omega) (by omega)]
        simp

end Go.Proofs.Ytcfpiamdkdedlaa.PCodeApartEnc
