/- What a reader tells, entry by entry, is what Told tells; and what stays when it was asked. -/
import Derived.Test.YtfbdnfokoakfaaaToldC
import Derived.Test.YtfbdnfokoakfaaaCloneC
namespace Go.Proofs.Ytfbdnfokoakfaaa.Ct
open Go.RowKit Go.Proofs.YtfbdnfokoakfaaaW.PrintWords Go.Proofs.YtfbdnfokoakfaaaW.PrintLast Go.Proofs.YtfbdnfokoakfaaaW.PrintMore
set_option linter.unusedVariables false
set_option linter.unusedSimpArgs false

theorem told_end (b : List Int) (L : Int) (r : RdS) (es : List Int) (x : Int × Int) (he : r.e = 0) (h : toldF b L r.left r.at_ r.last = ([], es, x)) :
    ∃ r', nextS b L r = ((en0, false, x.2), r') ∧ r'.at_ = r.at_ ∧ r'.left = r.left ∧ nextS b L r' = ((en0, false, x.2), r') := by
  have dead : ∀ r' : RdS, r'.e ≠ 0 → nextS b L r' = ((en0, false, r'.e), r') := fun r' h => by unfold nextS; rw [if_pos h]
  cases hm : r.left with
  | zero =>
    rw [hm, toldF] at h
    by_cases c : r.at_ < b.length
    · rw [if_pos c] at h
      obtain rfl : x = ((r.at_ : Int), 3) := by
        have := congrArg (fun t => t.2.2) h
        exact this.symm
      exact ⟨_, nextS_a he hm c, rfl, hm, dead _ (by simp)⟩
    · rw [if_neg c] at h
      obtain rfl : x = (0, 0) := by
        have := congrArg (fun t => t.2.2) h
        exact this.symm
      exact ⟨_, nextS_b he hm c, rfl, hm, nextS_b he hm c⟩
  | succ m =>
    rw [hm, toldF] at h
    cases ho : oneS b L r.at_ r.last with
    | inl y =>
      rw [ho] at h
      obtain rfl : x = y := by
        have := congrArg (fun t => t.2.2) h
        exact this.symm
      exact ⟨_, nextS_inl he (by omega) ho, rfl, hm, dead _ (oneS_err b L _ _ _ ho)⟩
    | inr y =>
      rw [ho] at h
      have := congrArg (fun t => t.1) h
      cases this
theorem told_more (b : List Int) (L : Int) (r : RdS) (y : En) (l : List En) (es : List Int) (x : Int × Int) (he : r.e = 0) (h : toldF b L r.left r.at_ r.last = (y :: l, es, x)) :
    ∃ (q : Nat) (es' : List Int), es = (q : Int) :: es' ∧ oneS b L r.at_ r.last = .inr (y, q) ∧ nextS b L r = ((y, true, 0), { r with at_ := q, last := y.at_, left := r.left - 1 }) ∧ toldF b L (r.left - 1) q y.at_ = (l, es', x) := by
  cases hm : r.left with
  | zero =>
    rw [hm, toldF] at h
    have := congrArg (fun t => t.1) h
    cases this
  | succ m =>
    rw [hm, toldF] at h
    cases ho : oneS b L r.at_ r.last with
    | inl z =>
      rw [ho] at h
      have := congrArg (fun t => t.1) h
      cases this
    | inr z =>
      obtain ⟨z, q⟩ := z
      rw [ho] at h
      have h1 := congrArg (fun t => t.1) h
      have h2 := congrArg (fun t => t.2.1) h
      have h3 := congrArg (fun t => t.2.2) h
      simp only [List.cons.injEq] at h1
      obtain ⟨rfl, h1⟩ := h1
      refine ⟨q, _, h2.symm, rfl, ?_, ?_⟩
      · have := nextS_inr he (by omega) ho
        rw [this, hm]
      · show toldF b L (m + 1 - 1) q z.at_ = _
        have h4 : (toldF b L m q z.at_).2.2 = x := h3
        rw [Nat.add_sub_cancel, ← h1, ← h4]
theorem told_len (b : List Int) (L : Int) : ∀ (m p : Nat) (last : Int), (toldF b L m p last).1.length = (toldF b L m p last).2.1.length ∧ (toldF b L m p last).1.length ≤ m
  | 0, p, last => by unfold toldF; exact ⟨rfl, Nat.le_refl _⟩
  | m + 1, p, last => by
    unfold toldF
    cases ho : oneS b L p last with
    | inl x => exact ⟨rfl, Nat.zero_le _⟩
    | inr x =>
      have := told_len b L m x.2 x.1.at_
      exact ⟨by simp only [List.length_cons]; omega, by simp only [List.length_cons]; omega⟩

theorem C_keep {k : IntKind} {w w1 : World} {A : Option Addr} {n : Nat} {b : List Int} (h : Kd.C (Kd.int k) w A n b) (hk : ∀ ad, A = some ad → 0 < n → w1.heap[ad.block]? = w.heap[ad.block]?) : Kd.C (Kd.int k) w1 A n b := by
  obtain ⟨h1, h2, h3⟩ := h
  refine ⟨h1, h2, fun hn => ?_⟩
  obtain ⟨ad, rfl, h4⟩ := h3 hn
  refine ⟨ad, rfl, fun j p hj => ?_⟩
  obtain ⟨cs, h5, h6, h7⟩ := h4 j p hj
  refine ⟨cs, h5, h6, fun i u hu => ?_⟩
  have h8 := h7 i u hu
  have hb : (ad.add (j * (Kd.int k).sz + i)).block = ad.block := by unfold Addr.add; split <;> rfl
  unfold World.cell? at h8 ⊢
  rw [hb] at h8 ⊢
  rw [hk ad rfl hn]
  exact h8
theorem rdC_no (A : Option Addr) (c : Nat) (b : List Int) (n : Nat) (r : RdS) (j : Nat) (x : Int) : (rdC A c b n r)[j]? ≠ some (.int .u8 x) := by
  intro h
  unfold rdC at h
  match j with
  | 0 => simp at h
  | 1 => simp at h
  | 2 => simp at h
  | 3 => simp at h
  | 4 => simp at h
  | 5 => simp at h
  | 6 => simp at h
  | 7 => simp at h
  | j + 8 => simp at h
/-- The bytes that a reader reads lie in another block. -/
theorem RdB.else {w : World} {g : Nat} {A : Option Addr} {c : Nat} {b : List Int} {n : Nat} {r : RdS} (h : RdB w g A c b n r) (ad : Addr) (e : A = some ad) : ad.block ≠ g ∧ ad.block < w.heap.size := by
  have h6 := h.six
  obtain ⟨ad', e', hc⟩ := h.y.cell 0 (by omega)
  cases e.symm.trans e'
  have hz : ad.add 0 = ad := by simp [Addr.add]
  rw [hz] at hc
  refine ⟨fun hg => ?_, World.block_lt_of_cell? w _ hc⟩
  subst hg
  have h2 := h.a
  obtain ⟨blk, off, st⟩ := ad
  cases st with
  | none =>
    have := blk_cell h2 off
    rw [hc] at this
    exact rdC_no _ _ _ _ _ _ _ this.symm
  | some st =>
    unfold World.cell? at hc
    rw [h2] at hc
    simp at hc
theorem RdB.after {w w1 : World} {g : Nat} {A : Option Addr} {c : Nat} {b : List Int} {n : Nat} {r r' : RdS} (h : RdB w g A c b n r) (hn : Nx w g w1 (rdC A c b n r')) (hp : r'.at_ ≤ b.length) : RdB w1 g A c b n r' := by
  refine ⟨hn.a, ⟨C_keep h.y.r (fun ad e _ => ?_), h.y.c, h.y.y, h.y.l⟩, hp, h.six, h.L⟩
  have h1 := h.else ad e
  exact hn.but.block _ h1.2 (fun e => h1.1 (by injection e))
end Go.Proofs.Ytfbdnfokoakfaaa.Ct
