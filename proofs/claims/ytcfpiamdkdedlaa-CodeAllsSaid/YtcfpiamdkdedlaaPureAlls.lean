/- code.All and the reference's, over their printed functions: one plain function of the instructions. -/
import Derived.Test.YtcfpiamdkdedlaaSpec
import Derived.Test.YtcfpiamdkdedlaaAllC
import Derived.Test.YtcfpiamdkdedlaaPCodeAllsx5
namespace Go.Proofs.Ytcfpiamdkdedlaa.AllsPure
open Go.RowKit Go.Proofs.Ytcfpiamdkdedlaa.PCodeAlls Go.Proofs.YtcfpiamdkdedlaaW.PrintWords Go.Proofs.YtcfpiamdkdedlaaW.PrintLast Go.Proofs.YtcfpiamdkdedlaaW.PrintMore Go.Proofs.Ytcfpiamdkdedlaa.Spec

theorem u8_range {n : Int} (h : (Lit.int .u8 n).wf = true) : 0 ≤ n ∧ n ≤ 255 := by
  simp [Lit.wf, IntKind.min, IntKind.max, IntKind.signed, IntKind.bits] at h
  omega

theorem size5 : ∀ n : Fin 256, code_Size.f 5 (n.val : Int) = some (sizeS (n.val : Int)) := by decide +kernel
theorem rsize5 : ∀ n : Fin 256, provisoref04_Size.f 5 (n.val : Int) = some (sizeS (n.val : Int)) := by decide +kernel
theorem widths5 : ∀ n : Fin 256, code_widths.f 5 (n.val : Int) = some ((wA (n.val : Int) : Int), (wB (n.val : Int) : Int)) := by decide +kernel
theorem wide5 : ∀ n : Fin 256, provisoref04_wide.f 5 (n.val : Int) = some ((wA (n.val : Int) : Int), (wB (n.val : Int) : Int)) := by decide +kernel

theorem fin_of {op : Int} (h0 : 0 ≤ op) (h1 : op ≤ 255) : ∃ n : Fin 256, op = (n.val : Int) := ⟨⟨op.toNat, by omega⟩, by simp; omega⟩

theorem size_is {op : Int} (h0 : 0 ≤ op) (h1 : op ≤ 255) {k : Nat} (hk : 5 ≤ k) : code_Size.f k op = some (sizeS op) := by
  obtain ⟨n, rfl⟩ := fin_of h0 h1
  exact at_rounds (g := fun k => code_Size.f k (n.val : Int)) (fun k => code_Size.mono _ k) hk (size5 n)
theorem rsize_is {op : Int} (h0 : 0 ≤ op) (h1 : op ≤ 255) {k : Nat} (hk : 5 ≤ k) : provisoref04_Size.f k op = some (sizeS op) := by
  obtain ⟨n, rfl⟩ := fin_of h0 h1
  exact at_rounds (g := fun k => provisoref04_Size.f k (n.val : Int)) (fun k => provisoref04_Size.mono _ k) hk (rsize5 n)
theorem widths_is {op : Int} (h0 : 0 ≤ op) (h1 : op ≤ 255) {k : Nat} (hk : 5 ≤ k) : code_widths.f k op = some ((wA op : Int), (wB op : Int)) := by
  obtain ⟨n, rfl⟩ := fin_of h0 h1
  exact at_rounds (g := fun k => code_widths.f k (n.val : Int)) (fun k => code_widths.mono _ k) hk (widths5 n)
theorem wide_is {op : Int} (h0 : 0 ≤ op) (h1 : op ≤ 255) {k : Nat} (hk : 5 ≤ k) : provisoref04_wide.f k op = some ((wA op : Int), (wB op : Int)) := by
  obtain ⟨n, rfl⟩ := fin_of h0 h1
  exact at_rounds (g := fun k => provisoref04_wide.f k (n.val : Int)) (fun k => provisoref04_wide.mono _ k) hk (wide5 n)

theorem sizeS_zero (op : Int) : sizeS op = 0 ↔ op ≥ 34 := by
  unfold sizeS; split <;> omega

theorem fits_is (op n : Int) (w : Nat) (hw : w = 0 ∨ w = 1 ∨ w = 2 ∨ w = 4) : code_fits.f op n (w : Int) = some (fitS op n w) := by
  unfold code_fits.f fitS
  rcases hw with rfl | rfl | rfl | rfl
  · simp
  · simp only [Int.natCast_one, if_true]
    rw [if_neg (by omega)]
    by_cases h : n ≥ 0
    · by_cases h' : n ≤ 255
      · by_cases e : op = 2
        · subst e; simp [h, h']
        · simp [h, h', e]
      · simp [h, h']
    · simp [h]
  · simp only []
    rw [if_neg (by omega), if_neg (by omega), if_pos (by omega)]
    by_cases h : n ≥ 0 <;> simp [h]
  · simp only []
    rw [if_neg (by omega), if_neg (by omega), if_neg (by omega)]
    by_cases h : n ≥ -2147483648 <;> simp [h]

theorem put_is (n : Int) : ∀ (w : Nat) (l : List Int) (k : Nat), w ≤ 4 → l.length + w ≤ 1000 → w < k → code_put.l0 k l n ((w : Int) - 1) = some (l ++ be n w)
  | 0, l, k, _, _, hk => by
    obtain ⟨k, rfl⟩ : ∃ m, k = m + 1 := ⟨k - 1, by omega⟩
    rw [code_put.l0, if_neg (by omega)]
    simp [be]
  | w + 1, l, k, hw, hl, hk => by
    obtain ⟨k, rfl⟩ : ∃ m, k = m + 1 := ⟨k - 1, by omega⟩
    have e1 : ((w + 1 : Nat) : Int) - 1 = (w : Int) := by omega
    have e2 : wrap64 (8 * (w : Int)) = 8 * (w : Int) := by unfold wrap64; omega
    have e3 : wrap64 ((w : Int) - 1) = (w : Int) - 1 := by unfold wrap64; omega
    have e4 : shr .i64 n (8 * (w : Int)) = n / 256 ^ w := by
      have : w = 0 ∨ w = 1 ∨ w = 2 ∨ w = 3 := by omega
      rcases this with rfl | rfl | rfl | rfl <;> simp [shr, IntKind.bits]
    rw [e1, code_put.l0, if_pos (by omega), e2, if_pos (by omega), if_pos (by omega), e4, e3, put_is n w (l ++ [n / 256 ^ w % 256]) k (by omega) (by simp; omega) (by omega)]
    simp [be]

/-- The rounds that the reference's put takes. -/
def cost : Nat → Nat
  | 0 => 1
  | w + 1 => cost w + w + 2

theorem rput_in (n : Int) (w : Nat) (hw : w ≤ 4) (l : List Int) (hl : l.length ≤ 1000) : ∀ (d j k : Nat) (m : Int), j + d = w → 0 ≤ m → m ≤ 8589934592 →
    provisoref04_put.l1 (k + d + 1) l n (w : Int) m (j : Int) = provisoref04_put.l0 k (l ++ [m / 256 ^ d % 256]) n ((w : Int) - 1)
  | 0, j, k, m, hj, h0, h1 => by
    rw [provisoref04_put.l1, if_neg (by omega), if_pos (by omega)]
    have e : wrap64 ((w : Int) - 1) = (w : Int) - 1 := by unfold wrap64; omega
    have e' : Int.tmod m 256 % 256 = m / 256 ^ 0 % 256 := by
      rw [Int.tmod_eq_emod_of_nonneg h0]; simp
    rw [e, e']
  | d + 1, j, k, m, hj, h0, h1 => by
    rw [show k + (d + 1) + 1 = (k + d + 1) + 1 by omega, provisoref04_put.l1, if_pos (by omega)]
    have e1 : wrap64 ((j : Int) + 1) = ((j + 1 : Nat) : Int) := by unfold wrap64; omega
    have e2 : wrap64 (Int.tdiv m 256) = m / 256 := by
      rw [Int.tdiv_eq_ediv_of_nonneg h0]; unfold wrap64; omega
    have e3 : m / 256 / 256 ^ d = m / 256 ^ (d + 1) := by
      rw [Int.ediv_ediv_of_nonneg (by omega), show (256 : Int) * 256 ^ d = 256 ^ (d + 1) by rw [Int.pow_succ, Int.mul_comm]]
    rw [e1, e2, rput_in n w hw l hl d (j + 1) k (m / 256) (by omega) (by omega) (by omega), e3]

theorem rput_is (n : Int) (h0 : 0 ≤ n) (h1 : n ≤ 8589934592) : ∀ (w : Nat) (l : List Int) (k : Nat), w ≤ 4 → l.length + w ≤ 904 → cost w ≤ k → provisoref04_put.l0 k l n ((w : Int) - 1) = some (l ++ be n w)
  | 0, l, k, _, _, hk => by
    obtain ⟨k, rfl⟩ : ∃ m, k = m + 1 := ⟨k - 1, by simp only [cost] at hk; omega⟩
    rw [provisoref04_put.l0, if_neg (by omega)]
    simp [be]
  | w + 1, l, k, hw, hl, hk => by
    simp only [cost] at hk
    obtain ⟨k, rfl⟩ : ∃ m, k = (m + w + 1) + 1 := ⟨k - w - 2, by omega⟩
    have e1 : ((w + 1 : Nat) : Int) - 1 = (w : Int) := by omega
    rw [e1, provisoref04_put.l0, if_pos (by omega)]
    have := rput_in n w (by omega) l (by omega) w 0 k n (by omega) h0 h1
    rw [show ((0 : Nat) : Int) = 0 from rfl] at this
    rw [this, rput_is n h0 h1 w (l ++ [n / 256 ^ w % 256]) k (by omega) (by simp; omega) (by omega)]
    simp [be]

theorem be_more (n : Int) : ∀ w : Nat, w ≤ 4 → be (n + 4294967296) w = be n w
  | 0, _ => rfl
  | w + 1, h => by
    have e : (n + 4294967296) / 256 ^ w % 256 = n / 256 ^ w % 256 := by
      have : w = 0 ∨ w = 1 ∨ w = 2 ∨ w = 3 := by omega
      rcases this with rfl | rfl | rfl | rfl <;> simp <;> omega
    simp only [be]
    rw [e, be_more n w (by omega)]

theorem rput_all (n : Int) (h0 : -4294967296 ≤ n) (h1 : n ≤ 4294967296) (w : Nat) (l : List Int) (k : Nat) (hw : w ≤ 4) (hl : l.length ≤ 900) (hk : 20 ≤ k) :
    provisoref04_put.f k l n (w : Int) = some (l ++ be n w) := by
  obtain ⟨k, rfl⟩ : ∃ m, k = m + 1 := ⟨k - 1, by omega⟩
  have hc : cost w ≤ k := by
    have : w = 0 ∨ w = 1 ∨ w = 2 ∨ w = 3 ∨ w = 4 := by omega
    rcases this with rfl | rfl | rfl | rfl | rfl <;> simp only [cost] <;> omega
  have e : wrap64 ((w : Int) - 1) = (w : Int) - 1 := by unfold wrap64; omega
  unfold provisoref04_put.f
  by_cases h : n < 0
  · have e2 : wrap64 (n + 4294967296) = n + 4294967296 := by unfold wrap64; omega
    rw [if_pos h, provisoref04_put.j0, e, e2, rput_is _ (by omega) (by omega) w l k hw (by omega) hc, be_more n w hw]
  · rw [if_neg h, provisoref04_put.j0, e, rput_is _ (by omega) (by omega) w l k hw (by omega) hc]

theorem fit_range {op n : Int} {w : Nat} (h : fitS op n w = true) : -2147483648 ≤ n ∧ n ≤ 2147483647 := by
  unfold fitS at h
  split at h <;> simp at h <;> omega

theorem put_all (n : Int) (w : Nat) (l : List Int) (k : Nat) (hw : w ≤ 4) (hl : l.length ≤ 900) (hk : 20 ≤ k) : code_put.f k l n (w : Int) = some (l ++ be n w) := by
  unfold code_put.f
  have e : wrap64 ((w : Int) - 1) = (w : Int) - 1 := by unfold wrap64; omega
  rw [e, put_is n w l k hw (by omega) (by omega)]

theorem wA4 (op : Int) : wA op = 0 ∨ wA op = 1 ∨ wA op = 2 ∨ wA op = 4 := wA_cases op
theorem wB4 (op : Int) : wB op = 0 ∨ wB op = 1 ∨ wB op = 2 ∨ wB op = 4 := by have := wB_cases op; omega

theorem encode_is (a op A B : Int) (h0 : 0 ≤ op) (h1 : op ≤ 255) (k : Nat) (hk : 21 ≤ k) : code_Encode.f k a op A B = some (encodeS op A B) := by
  obtain ⟨k, rfl⟩ : ∃ m, k = m + 1 := ⟨k - 1, by omega⟩
  unfold code_Encode.f encodeS
  rw [size_is h0 h1 (by omega), widths_is h0 h1 (by omega)]
  simp only [Option.bind_some]
  by_cases h : op ≥ 34
  · rw [if_pos ((sizeS_zero op).2 h), if_pos h]
  · rw [if_neg (fun x => h ((sizeS_zero op).1 x)), if_neg h, fits_is op A _ (wA4 op), fits_is op B _ (wB4 op)]
    simp only [Option.bind_some]
    cases ha : fitS op A (wA op) with
    | false =>
      rw [if_neg (by decide), code_Encode.j0, if_pos rfl]
      simp
    | true =>
      rw [if_pos rfl, code_Encode.j0]
      cases hb : fitS op B (wB op) with
      | false => simp
      | true =>
        rw [if_neg (by decide), put_all A _ _ k (wA_le op) (by simp) (by omega)]
        simp only [Option.bind_some]
        rw [put_all B _ _ k (by have := wB_le op; omega) (by have := wA_le op; simp [be_length]; omega) (by omega)]
        simp

theorem rfits_is (n : Int) (w : Nat) (hw : w = 0 ∨ w = 1 ∨ w = 2 ∨ w = 4) : provisoref04_fits.f n (w : Int) = some (fitS 0 n w) := by
  unfold provisoref04_fits.f fitS
  rcases hw with rfl | rfl | rfl | rfl
  · simp
  · simp only [Int.natCast_one, if_true]
    rw [if_neg (by omega)]
    by_cases h : n ≥ 0 <;> simp [h]
  · simp only []
    rw [if_neg (by omega), if_neg (by omega), if_pos (by omega)]
    by_cases h : n ≥ 0 <;> simp [h]
  · simp only []
    rw [if_neg (by omega), if_neg (by omega), if_neg (by omega)]
    by_cases h : n ≥ -2147483648 <;> simp [h]

theorem fit_other (op n : Int) (w : Nat) (h : op ≠ 2) : fitS op n w = fitS 0 n w := by
  unfold fitS
  split <;> simp [h]

theorem rencode_is (a op A B : Int) (h0 : 0 ≤ op) (h1 : op ≤ 255) (k : Nat) (hk : 21 ≤ k) : provisoref04_Encode.f k a op A B = some (encodeS op A B) := by
  obtain ⟨k, rfl⟩ : ∃ m, k = m + 1 := ⟨k - 1, by omega⟩
  have go : fitS op A (wA op) = true → fitS op B (wB op) = true →
      provisoref04_Encode.j0 (k + 1) (wA op : Int) (wB op : Int) false a op A B = some (op :: (be A (wA op) ++ be B (wB op)), 0) := by
    intro ha hb
    have ra := fit_range ha
    have rb := fit_range hb
    rw [provisoref04_Encode.j0, if_neg (by decide), rput_all A (by omega) (by omega) _ _ k (wA_le op) (by simp) (by omega)]
    simp only [Option.bind_some]
    rw [rput_all B (by omega) (by omega) _ _ k (by have := wB_le op; omega) (by have := wA_le op; simp [be_length]; omega) (by omega)]
    simp
  have no : provisoref04_Encode.j0 (k + 1) (wA op : Int) (wB op : Int) true a op A B = some (([] : List Int), 5) := by
    rw [provisoref04_Encode.j0, if_pos rfl]
  unfold provisoref04_Encode.f
  rw [rsize_is h0 h1 (by omega), wide_is h0 h1 (by omega)]
  simp only [Option.bind_some]
  by_cases h : op ≥ 34
  · rw [if_pos ((sizeS_zero op).2 h)]; unfold encodeS; rw [if_pos h]
  · rw [if_neg (fun x => h ((sizeS_zero op).1 x)), rfits_is A _ (wA4 op), rfits_is B _ (wB4 op)]
    simp only [Option.bind_some]
    by_cases e : op = 2
    · subst e
      have e0 : encodeS 2 A B = if fitS 2 A (wA 2) && fitS 2 B (wB 2) then (2 :: (be A (wA 2) ++ be B (wB 2)), 0) else ([], 5) := by
        unfold encodeS; rw [if_neg (by omega)]
      rw [e0]
      have ea : fitS 2 A (wA 2) = (fitS 0 A (wA 2) && decide (A ≤ 1)) := by
        rw [wA_two]; simp [fitS]
      have eb : fitS 2 B (wB 2) = fitS 0 B (wB 2) := by rw [wB_two]; simp [fitS]
      cases ha : fitS 0 A (wA 2) with
      | false => rw [if_neg (by decide), no, ea, ha]; simp
      | true =>
        rw [if_pos rfl]
        cases hb : fitS 0 B (wB 2) with
        | false => rw [if_neg (by decide), no, ea, eb, ha, hb]; simp
        | true =>
          rw [if_pos rfl, if_pos rfl]
          by_cases h1 : A > 1
          · rw [decide_eq_true h1, no, ea, eb, ha, hb]
            have : ¬ A ≤ 1 := by omega
            simp [this]
          · rw [decide_eq_false h1, go (by rw [ea, ha]; simp; omega) (by rw [eb, hb]), ea, eb, ha, hb]
            have : A ≤ 1 := by omega
            simp [this]
    · unfold encodeS
      rw [if_neg h, fit_other op A _ e, fit_other op B _ e]
      cases ha : fitS 0 A (wA op) with
      | false => rw [if_neg (by decide), no]; simp
      | true =>
        rw [if_pos rfl]
        cases hb : fitS 0 B (wB op) with
        | false => rw [if_neg (by decide), no]; simp
        | true =>
          rw [if_pos rfl, if_neg e, go (by rw [fit_other op A _ e, ha]) (by rw [fit_other op B _ e, hb])]
          simp

theorem equal_loop (l : List Int) (h : l.length ≤ 1000000) : ∀ (d i k : Nat), i + d = l.length → d < k → slices_Equal_byte_byte.l0 k l l (l.length : Int) (i : Int) = some true
  | 0, i, k, hi, hk => by
    obtain ⟨k, rfl⟩ : ∃ m, k = m + 1 := ⟨k - 1, by omega⟩
    rw [slices_Equal_byte_byte.l0, if_neg (by omega)]
  | d + 1, i, k, hi, hk => by
    obtain ⟨k, rfl⟩ : ∃ m, k = m + 1 := ⟨k - 1, by omega⟩
    have e : wrap64 ((i : Int) + 1) = ((i + 1 : Nat) : Int) := by unfold wrap64; omega
    rw [slices_Equal_byte_byte.l0, if_pos (by omega), if_pos (by omega), if_pos (by omega), if_pos (by omega), if_pos rfl, e, equal_loop l h d (i + 1) k (by omega) (by omega)]



/-- The bytes of the instructions from i on, behind out; or which one is at fault, and why. -/
def allF (l : List S29) : Nat → Nat → List Int → List Int × Int × Int
  | 0, _, out => (out, 0, 0)
  | f + 1, i, out => if i < l.length then
      (if (encodeS (rd_T29 l i).f1 (rd_T29 l i).f2 (rd_T29 l i).f3).2 = 0 then
        (if 4096 < out.length + (encodeS (rd_T29 l i).f1 (rd_T29 l i).f2 (rd_T29 l i).f3).1.length then ([], (i : Int), 4)
         else allF l f (i + 1) (out ++ (encodeS (rd_T29 l i).f1 (rd_T29 l i).f2 (rd_T29 l i).f3).1))
       else ([], (i : Int), (encodeS (rd_T29 l i).f1 (rd_T29 l i).f2 (rd_T29 l i).f3).2)) else (out, 0, 0)

theorem rd29_range (l : List S29) (hb : ∀ x ∈ l, 0 ≤ x.f1 ∧ x.f1 ≤ 255) (i : Nat) (h : i < l.length) : 0 ≤ (rd_T29 l i).f1 ∧ (rd_T29 l i).f1 ≤ 255 := by
  have : rd_T29 l (i : Int) = l[i] := by simp [rd_T29, List.getD_eq_getElem?_getD, h]
  rw [this]
  exact hb _ (List.getElem_mem h)

theorem all_is (l : List S29) (hl : l.length ≤ 140737488355328) (hb : ∀ x ∈ l, 0 ≤ x.f1 ∧ x.f1 ≤ 255) : ∀ (f i k : Nat) (out : List Int), i + f = l.length + 1 → i ≤ l.length → 2 * f + 25 ≤ k → out.length ≤ 4096 →
    code_All.l0 k out l (l.length : Int) (i : Int) = some (allF l f i out) := by
  intro f
  induction f with
  | zero => intro i k out hi hi2; omega
  | succ f ih =>
    intro i k out hi hi2 hk ho
    obtain ⟨k, rfl⟩ : ∃ m, k = m + 2 := ⟨k - 2, by omega⟩
    by_cases h : i < l.length
    · obtain ⟨h0, h1⟩ := rd29_range l hb i h
      have hlen := encode_length (rd_T29 l i).f1 (rd_T29 l i).f2 (rd_T29 l i).f3
      rw [code_All.l0, if_pos (by omega), if_pos (by omega), if_pos (by omega), encode_is _ _ _ _ h0 h1 (k + 1) (by omega), Option.bind_some, allF, if_pos h]
      generalize encodeS (rd_T29 l i).f1 (rd_T29 l i).f2 (rd_T29 l i).f3 = r at hlen ⊢
      obtain ⟨b, e⟩ := r
      simp only at hlen ⊢
      have ew : wrap64 ((i : Int) + 1) = ((i + 1 : Nat) : Int) := by unfold wrap64; omega
      have ew2 : wrap64 ((out.length : Int) + (b.length : Int)) = ((out.length + b.length : Nat) : Int) := by unfold wrap64; omega
      by_cases he : e = 0
      · rw [if_pos he, if_pos he, ew2]
        by_cases hL : 4096 < out.length + b.length
        · rw [if_pos hL, decide_eq_true (by omega), code_All.j1, if_pos rfl, if_neg (by decide)]
        · rw [if_neg hL, decide_eq_false (by omega), code_All.j1, if_neg (by decide), if_pos he, if_pos (by omega), ew]
          exact ih (i + 1) k _ (by omega) (by omega) (by omega) (by rw [List.length_append]; omega)
      · rw [if_neg he, if_neg he, code_All.j1, if_neg (by decide), if_neg he]
    · rw [code_All.l0, if_neg (by omega), allF, if_neg h]

theorem rall_is (l : List S29) (hl : l.length ≤ 140737488355328) (hb : ∀ x ∈ l, 0 ≤ x.f1 ∧ x.f1 ≤ 255) : ∀ (f i k : Nat) (out : List Int), i + f = l.length + 1 → i ≤ l.length → f + 25 ≤ k → out.length ≤ 4096 →
    provisoref04_All.l0 k l out (i : Int) = some (allF l f i out) := by
  intro f
  induction f with
  | zero => intro i k out hi hi2; omega
  | succ f ih =>
    intro i k out hi hi2 hk ho
    obtain ⟨k, rfl⟩ : ∃ m, k = m + 1 := ⟨k - 1, by omega⟩
    by_cases h : i < l.length
    · obtain ⟨h0, h1⟩ := rd29_range l hb i h
      have hlen := encode_length (rd_T29 l i).f1 (rd_T29 l i).f2 (rd_T29 l i).f3
      rw [provisoref04_All.l0, if_pos (by omega), if_pos (by omega), rencode_is _ _ _ _ h0 h1 k (by omega), Option.bind_some, allF, if_pos h]
      generalize encodeS (rd_T29 l i).f1 (rd_T29 l i).f2 (rd_T29 l i).f3 = r at hlen ⊢
      obtain ⟨b, e⟩ := r
      simp only at hlen ⊢
      have ew : wrap64 ((i : Int) + 1) = ((i + 1 : Nat) : Int) := by unfold wrap64; omega
      have ew2 : wrap64 ((out.length : Int) + (b.length : Int)) = ((out.length + b.length : Nat) : Int) := by unfold wrap64; omega
      by_cases he : e = 0
      · rw [if_pos he, if_pos he, ew2]
        by_cases hL : 4096 < out.length + b.length
        · rw [if_pos hL, if_pos (by omega)]
        · rw [if_neg hL, if_neg (by omega), if_pos (by omega), ew]
          exact ih (i + 1) k _ (by omega) (by omega) (by omega) (by rw [List.length_append]; omega)
      · rw [if_neg he, if_neg he]
    · rw [provisoref04_All.l0, if_neg (by omega), allF, if_neg h]

def allS (l : List S29) : List Int × Int × Int := allF l (l.length + 1) 0 []
theorem all_f (l : List S29) (hl : l.length ≤ 140737488355328) (hb : ∀ x ∈ l, 0 ≤ x.f1 ∧ x.f1 ≤ 255) : code_All.f (2 * l.length + 30) l = some (allS l) :=
  all_is l hl hb (l.length + 1) 0 _ [] (by omega) (by omega) (by omega) (by simp)
theorem rall_f (l : List S29) (hl : l.length ≤ 140737488355328) (hb : ∀ x ∈ l, 0 ≤ x.f1 ∧ x.f1 ≤ 255) : provisoref04_All.f (2 * l.length + 30) l = some (allS l) :=
  rall_is l hl hb (l.length + 1) 0 _ [] (by omega) (by omega) (by omega) (by simp)
theorem allF_len (l : List S29) : ∀ (f i : Nat) (out : List Int), out.length ≤ 4096 → (allF l f i out).1.length ≤ 4096
  | 0, i, out, h => h
  | f + 1, i, out, h => by
    rw [allF]
    split
    · split
      · split
        · simp
        · exact allF_len l f _ _ (by rw [List.length_append]; omega)
      · simp
    · exact h
theorem allS_len (l : List S29) : (allS l).1.length ≤ 4096 := allF_len l _ _ _ (by simp)

theorem eq_bytes (l : List Int) (h : l.length ≤ 1000000) : ∀ (d i k : Nat), i + d = l.length → d < k → slices_Equal_byte_byte.l0 k l l (l.length : Int) (i : Int) = some true := by
  intro d
  induction d with
  | zero =>
    intro i k hi hk
    obtain ⟨k, rfl⟩ : ∃ m, k = m + 1 := ⟨k - 1, by omega⟩
    rw [slices_Equal_byte_byte.l0, if_neg (by omega)]
  | succ d ih =>
    intro i k hi hk
    obtain ⟨k, rfl⟩ : ∃ m, k = m + 1 := ⟨k - 1, by omega⟩
    have ew : wrap64 ((i : Int) + 1) = ((i + 1 : Nat) : Int) := by unfold wrap64; omega
    rw [slices_Equal_byte_byte.l0, if_pos (by omega), if_pos (by omega), if_pos (by omega), if_pos (by omega)]
    simp only [ew, ih (i + 1) k (by omega) (by omega)]
    simp
theorem eq_bytes_f (l : List Int) (h : l.length ≤ 4096) : slices_Equal_byte_byte.f 5000 l l = some true := by
  unfold slices_Equal_byte_byte.f
  rw [if_pos rfl]
  exact eq_bytes l (by omega) l.length 0 _ (by omega) (by omega)
theorem eq_instrs (l : List S29) (h : l.length ≤ 140737488355328) : ∀ (d i k : Nat), i + d = l.length → d < k → api_Instr_31.l0 k l l (l.length : Int) (i : Int) = some true := by
  intro d
  induction d with
  | zero =>
    intro i k hi hk
    obtain ⟨k, rfl⟩ : ∃ m, k = m + 1 := ⟨k - 1, by omega⟩
    rw [api_Instr_31.l0, if_neg (by omega)]
  | succ d ih =>
    intro i k hi hk
    obtain ⟨k, rfl⟩ : ∃ m, k = m + 1 := ⟨k - 1, by omega⟩
    have ew : wrap64 ((i : Int) + 1) = ((i + 1 : Nat) : Int) := by unfold wrap64; omega
    rw [api_Instr_31.l0, if_pos (by omega), if_pos (by omega), if_pos (by omega), if_pos (by omega), if_neg (by simp), ew]
    exact ih (i + 1) k (by omega) (by omega)
theorem eq_instrs_f (l : List S29) (h : l.length ≤ 140737488355328) : api_Instr_31.f (l.length + 1) l l = some true := by
  unfold api_Instr_31.f
  rw [if_pos rfl]
  exact eq_instrs l h l.length 0 _ (by omega) (by omega)
end Go.Proofs.Ytcfpiamdkdedlaa.AllsPure
