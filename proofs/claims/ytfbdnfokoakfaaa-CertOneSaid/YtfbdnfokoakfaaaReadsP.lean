/- slices.Clone of bytes, and provisoplain.Roomy: what they hand back, and that nothing that was there turns. What a reader tells, entry by entry, is what Told tells; and what stays when it was asked. -/
import Derived.Test.YtfbdnfokoakfaaaPCertReadsx2
import Derived.Lib.SliceRun
import Derived.Lib.Hide
import Derived.WalkSpells
import Derived.Test.YtfbdnfokoakfaaaToldC
namespace Go.Proofs.Ytfbdnfokoakfaaa.CloneC
open Go.RowKit Go.Proofs.YtfbdnfokoakfaaaW.PrintWords Go.Proofs.YtfbdnfokoakfaaaW.PrintLast Go.Proofs.YtfbdnfokoakfaaaW.PrintMore Go.Proofs.Ytfbdnfokoakfaaa.PCertReads

set_option linter.unusedVariables false

/-- A new block that holds bytes is a row of the call's own. -/
theorem lit_R (W : World) (l : List Int) (hl : l.length ≤ 1000) : Kd.R (Kd.int .u8) 5 (W.alloc (.cells (nums .u8 l).toArray 5)) W.heap.size (fun _ => True) (.slice (some ⟨W.heap.size, 0, none⟩) l.length l.length) l := by
  refine ⟨fun _ _ => trivial, nums .u8 l, ?_, ?_⟩
  · have h2 := World.ownsRow_lit (base := W.heap.size) (e := 5) (size := 1) W (nums .u8 l).toArray l.length (Nat.le_refl _) (by simp only [maxLen]; omega) (by simp [nums])
    have h3 : (W.alloc (.cells (nums .u8 l).toArray 5)).ownsRow W.heap.size 5 1 (.slice (some ⟨W.heap.size, 0, none⟩) l.length l.length) l.length (nums .u8 l) := by simpa using h2
    exact h3
  · exact Kd.reps_scalar l

set_option maxHeartbeats 1000000 in
set_option maxRecDepth 100000 in
theorem clone_any (A : Option Addr) (c : Nat) (l : List Int) (w : World) (hr : Kd.C (Kd.int .u8) w A l.length l) (hc : l.length ≤ c) (hl : l.length ≤ 140737488355328) :
    Calls Try.prog 34 #[.slice A l.length c] w fun e w' => ∃ v0, e = .returned v0 ∧ Kd.R (Kd.int .u8) 5 w' w.heap.size (fun _ => True) v0 l ∧ Below w.heap.size w w' := by
  have hnil := fun (W : World) => Lib.run_eql_slice_nil (P := Try.prog) W 31 5 A l.length c 0 0 Try.underlying31
  rcases A with _ | ad
  · have e0 : l = [] := by
      rcases Nat.eq_zero_or_pos l.length with h | h
      · exact List.eq_nil_of_length_eq_zero h
      · obtain ⟨ad, h, _⟩ := hr.2.2 h
        cases h
    have HL := Lib.hid e0
    clear e0
    go_enter Try.func34, Try.ntmps34
    go_wp2
    go_ret
    exact ⟨_, rfl, by rw [HL.out]; exact Kd.R_nil _ _ _ _ _, Below.refl _ _⟩
  · have HR := Lib.hid hr
    clear hr
    go_enter Try.func34, Try.ntmps34
    have hO : Kd.R (Kd.int .u8) 5 (w.alloc (.cells #[] 5)) w.heap.size (fun _ => True) (.slice (some ⟨w.heap.size, 0, none⟩) 0 0) [] := by
      refine ⟨fun _ _ => trivial, [], ?_, ?_⟩
      · have h2 := World.ownsRow_lit (base := w.heap.size) (e := 5) (size := 1) w #[] 0 (Nat.le_refl _) (by simp [maxLen]) (by simp)
        have h3 : (w.alloc (.cells #[] 5)).ownsRow w.heap.size 5 1 (.slice (some ⟨w.heap.size, 0, none⟩) 0 0) 0 [] := by simpa using h2
        exact h3
      · exact ⟨by simp, fun j p hj => by simp at hj⟩
    have HO := Lib.hid hO
    clear hO
    go_wp2_with (at_builtin; refine Kd.R_append_rows (Kd.int .u8) (w0 := w) w.heap.size rfl (.tmp 5) (.tmp 6) 31 5 (.int .u8 0) 1 rfl Try.underlying31 info5 rfl (by decide) (by omega) _ [] l (some ad) l.length c (fun _ => True) (fun _ => False) rfl rfl HO.out ?aR (fun _ _ h => h) (fun _ h => h.elim) (fun _ _ => trivial) ?aB ?aS ?aL ?_; (case aR => exact Kd.C_alloc HR.out _); (case aB => exact below_alloc (Below.refl _ _) _); (case aS => simp); (case aL => simp; omega); intro v1 w1 ho hb _ _; have H1 := Lib.hid ho; have H2 := Lib.hid hb; clear ho hb)
    go_ret
    exact ⟨_, rfl, H1.out, H2.out⟩

set_option maxHeartbeats 1000000 in
set_option maxRecDepth 100000 in
theorem roomy_any (A : Option Addr) (c : Nat) (l : List Int) (w : World) (hr : Kd.C (Kd.int .u8) w A l.length l) (hc : l.length ≤ c) (hl : l.length ≤ 140737488351232) :
    Calls Try.prog 26 #[.slice A l.length c] w fun e w' => ∃ (g : Addr) (cap : Nat), e = .returned (.tuple #[.slice (some g) l.length cap, .slice (some g) (l.length + 4) cap]) ∧
      Kd.R (Kd.int .u8) 5 w' w.heap.size (fun _ => True) (.slice (some g) (l.length + 4) cap) (l ++ [165, 90, 195, 60]) ∧ l.length + 4 ≤ cap ∧ Below w.heap.size w w' := by
  have E4 : Hid ((l ++ ([165, 90, 195, 60] : List Int)).length = l.length + 4) := Lib.hid (by simp)
  go_enter Try.func26, Try.ntmps26
  go_wp2_with (first
    | (go_at_call 34; refine (clone_any A c l _ hr hc (by omega)).mono ?_; rintro e w1 ⟨v0, rfl, ho, hb⟩; have H1 := Lib.hid ho; have H2 := Lib.hid hb; clear ho hb)
    | (at_builtin; go_must (refine Kd.R_append_rows (Kd.int .u8) (w0 := w) w.heap.size rfl (.tmp 6) (.tmp 7) 31 5 (.int .u8 0) 1 rfl Try.underlying31 info5 rfl (by decide) (by omega) v0 l [165, 90, 195, 60] (some ⟨w1.heap.size, 0, none⟩) 4 4 (fun _ => True) (fun k => some k ≠ v0.ownBlock) rfl rfl ?aO ?aR (fun _ _ h => h) (fun k h => ⟨trivial, h⟩) (fun _ _ => trivial) ?aB ?aS ?aL ?_); (case aO => go_must (exact Kd.R_alloc H1.out _)); (case aR => go_must (exact (Kd.R_reads' (lit_R w1 [165, 90, 195, 60] (by decide))).2.2)); (case aB => go_must (exact below_alloc H2.out _)); (case aS => go_must (have := H2.out.size; simp; omega)); (case aL => simp; omega); intro v1 w2 ho hb _ _; go_must (obtain ⟨g, cap, rfl, hg1, hg2, hcs⟩ := Kd.R_form ho (by simp)); go_must (rw [E4.out] at ho ⊢); have hcap := (Kd.R_reads' ho).2.1; have H3 := Lib.hid ho; have H4 := Lib.hid hb; clear ho hb hg1 hg2 hcs))
  go_ret2
  exact ⟨_, _, rfl, H3.out, hcap, H4.out⟩
theorem equal_loop (l : List Int) (h : l.length ≤ 140737488355328) : ∀ (d i k : Nat), i + d = l.length → d < k → slices_Equal_byte_byte.l0 k l l (l.length : Int) (i : Int) = some true
  | 0, i, k, hi, hk => by
    obtain ⟨k, rfl⟩ : ∃ m, k = m + 1 := ⟨k - 1, by omega⟩
    rw [slices_Equal_byte_byte.l0, if_neg (by omega)]
  | d + 1, i, k, hi, hk => by
    obtain ⟨k, rfl⟩ : ∃ m, k = m + 1 := ⟨k - 1, by omega⟩
    have e : wrap64 ((i : Int) + 1) = ((i + 1 : Nat) : Int) := by unfold wrap64; omega
    rw [slices_Equal_byte_byte.l0, if_pos (by omega), if_pos (by omega), if_pos (by omega), if_pos (by omega), if_pos rfl, e, equal_loop l h d (i + 1) k (by omega) (by omega)]

theorem equal_same (l : List Int) (h : l.length ≤ 140737488355328) : slices_Equal_byte_byte.f (l.length + 1) l l = some true := by
  unfold slices_Equal_byte_byte.f
  rw [if_pos rfl]
  exact equal_loop l h l.length 0 (l.length + 1) (by omega) (by omega)

theorem rd_app (l r : List Int) (j : Nat) (i : Int) (hi : i = ((l.length + j : Nat) : Int)) : rd (l ++ r) i = r.getD j 0 := by
  subst hi
  unfold rd
  rw [Int.toNat_natCast]
  simp [List.getD_eq_getElem?_getD, List.getElem?_append_right]

theorem untouched_is (l : List Int) (h : l.length ≤ 140737488351232) : provisoplain_Untouched.f (l.length + 1) (l ++ [165, 90, 195, 60]) l = some true := by
  have hlen : ((l ++ ([165, 90, 195, 60] : List Int)).length : Int) = (l.length : Int) + 4 := by simp
  have e1 : wrap64 ((l.length : Int) + 1) = (l.length : Int) + 1 := by unfold wrap64; omega
  have e2 : wrap64 ((l.length : Int) + 2) = (l.length : Int) + 2 := by unfold wrap64; omega
  have e3 : wrap64 ((l.length : Int) + 3) = (l.length : Int) + 3 := by unfold wrap64; omega
  unfold provisoplain_Untouched.f
  rw [hlen, Int.toNat_natCast, List.take_left, equal_same l (by omega), e1, e2, e3]
  simp only [Option.bind_some, if_true]
  rw [rd_app l _ 0 _ (by omega), rd_app l _ 1 _ (by omega), rd_app l _ 2 _ (by omega), rd_app l _ 3 _ (by omega)]
  rw [if_pos (by omega), if_pos (by omega), if_pos (by omega), if_pos (by rfl), if_pos (by omega), if_pos (by omega), if_pos (by rfl), if_pos (by omega), if_pos (by omega), if_pos (by rfl), if_pos (by omega), if_pos (by omega)]
  rfl
/-- The first bytes of a row with marks behind. -/
theorem front {W : World} {base : Nat} {ok : Nat → Prop} {g : Addr} {cap n : Nat} {l m : List Int} (h : Kd.R (Kd.int .u8) 5 W base ok (.slice (some g) n cap) (l ++ m)) : Kd.C (Kd.int .u8) W (some g) l.length l := by
  have h1 := (Kd.R_reads' h).2.2
  have h2 := Kd.C_take (m := l.length) h1 (by simp)
  rwa [List.take_left] at h2

theorem u8_rows {l : List Int} (h : ∀ x ∈ l, (Lit.int .u8 x).wf = true) : ∀ x ∈ l, 0 ≤ x ∧ x ≤ 255 := by
  intro x hx
  have := h x hx
  simp [Lit.wf, IntKind.min, IntKind.max, IntKind.signed, IntKind.bits] at this
  omega

end Go.Proofs.Ytfbdnfokoakfaaa.CloneC
namespace Go.Proofs.Ytfbdnfokoakfaaa.Ct
open Go.RowKit Go.Proofs.YtfbdnfokoakfaaaW.PrintWords Go.Proofs.YtfbdnfokoakfaaaW.PrintLast Go.Proofs.YtfbdnfokoakfaaaW.PrintMore
set_option linter.unusedVariables false
set_option linter.unusedSimpArgs false

theorem told_end (b : List Int) (L : Int) (r : RdS) (es : List Int) (x : Int × Int) (he : r.e = 0) (h : toldF b L r.left r.at_ r.last = ([], es, x)) :
    ∃ r', nextS b L r = ((en0, false, x.2), r') ∧ r'.at_ = r.at_ ∧ r'.left = r.left ∧ nextS b L r' = ((en0, false, x.2), r') := by
  have dead : ∀ r' : RdS, r'.e ≠ 0 → nextS b L r' = ((en0, false, r'.e), r') := fun r' h => by unfold nextS; rw [if_pos h]
  cases hm : r.left with
  | zero =>
    rw [hm, toldF] at h
    by_cases c : r.at_ < b.length
    · rw [if_pos c] at h
      obtain rfl : x = ((r.at_ : Int), 3) := by
        have := congrArg (fun t => t.2.2) h
        exact this.symm
      exact ⟨_, nextS_a he hm c, rfl, hm, dead _ (by simp)⟩
    · rw [if_neg c] at h
      obtain rfl : x = (0, 0) := by
        have := congrArg (fun t => t.2.2) h
        exact this.symm
      exact ⟨_, nextS_b he hm c, rfl, hm, nextS_b he hm c⟩
  | succ m =>
    rw [hm, toldF] at h
    cases ho : oneS b L r.at_ r.last with
    | inl y =>
      rw [ho] at h
      obtain rfl : x = y := by
        have := congrArg (fun t => t.2.2) h
        exact this.symm
      exact ⟨_, nextS_inl he (by omega) ho, rfl, hm, dead _ (oneS_err b L _ _ _ ho)⟩
    | inr y =>
      rw [ho] at h
      have := congrArg (fun t => t.1) h
      cases this
theorem told_more (b : List Int) (L : Int) (r : RdS) (y : En) (l : List En) (es : List Int) (x : Int × Int) (he : r.e = 0) (h : toldF b L r.left r.at_ r.last = (y :: l, es, x)) :
    ∃ (q : Nat) (es' : List Int), es = (q : Int) :: es' ∧ oneS b L r.at_ r.last = .inr (y, q) ∧ nextS b L r = ((y, true, 0), { r with at_ := q, last := y.at_, left := r.left - 1 }) ∧ toldF b L (r.left - 1) q y.at_ = (l, es', x) := by
  cases hm : r.left with
  | zero =>
    rw [hm, toldF] at h
    have := congrArg (fun t => t.1) h
    cases this
  | succ m =>
    rw [hm, toldF] at h
    cases ho : oneS b L r.at_ r.last with
    | inl z =>
      rw [ho] at h
      have := congrArg (fun t => t.1) h
      cases this
    | inr z =>
      obtain ⟨z, q⟩ := z
      rw [ho] at h
      have h1 := congrArg (fun t => t.1) h
      have h2 := congrArg (fun t => t.2.1) h
      have h3 := congrArg (fun t => t.2.2) h
      simp only [List.cons.injEq] at h1
      obtain ⟨rfl, h1⟩ := h1
      refine ⟨q, _, h2.symm, rfl, ?_, ?_⟩
      · have := nextS_inr he (by omega) ho
        rw [this, hm]
      · show toldF b L (m + 1 - 1) q z.at_ = _
        have h4 : (toldF b L m q z.at_).2.2 = x := h3
        rw [Nat.add_sub_cancel, ← h1, ← h4]
theorem told_len (b : List Int) (L : Int) : ∀ (m p : Nat) (last : Int), (toldF b L m p last).1.length = (toldF b L m p last).2.1.length ∧ (toldF b L m p last).1.length ≤ m
  | 0, p, last => by unfold toldF; exact ⟨rfl, Nat.le_refl _⟩
  | m + 1, p, last => by
    unfold toldF
    cases ho : oneS b L p last with
    | inl x => exact ⟨rfl, Nat.zero_le _⟩
    | inr x =>
      have := told_len b L m x.2 x.1.at_
      exact ⟨by simp only [List.length_cons]; omega, by simp only [List.length_cons]; omega⟩

theorem C_keep {k : IntKind} {w w1 : World} {A : Option Addr} {n : Nat} {b : List Int} (h : Kd.C (Kd.int k) w A n b) (hk : ∀ ad, A = some ad → 0 < n → w1.heap[ad.block]? = w.heap[ad.block]?) : Kd.C (Kd.int k) w1 A n b := by
  obtain ⟨h1, h2, h3⟩ := h
  refine ⟨h1, h2, fun hn => ?_⟩
  obtain ⟨ad, rfl, h4⟩ := h3 hn
  refine ⟨ad, rfl, fun j p hj => ?_⟩
  obtain ⟨cs, h5, h6, h7⟩ := h4 j p hj
  refine ⟨cs, h5, h6, fun i u hu => ?_⟩
  have h8 := h7 i u hu
  have hb : (ad.add (j * (Kd.int k).sz + i)).block = ad.block := by unfold Addr.add; split <;> rfl
  unfold World.cell? at h8 ⊢
  rw [hb] at h8 ⊢
  rw [hk ad rfl hn]
  exact h8
theorem rdC_no (A : Option Addr) (c : Nat) (b : List Int) (n : Nat) (r : RdS) (j : Nat) (x : Int) : (rdC A c b n r)[j]? ≠ some (.int .u8 x) := by
  intro h
  unfold rdC at h
  match j with
  | 0 => simp at h
  | 1 => simp at h
  | 2 => simp at h
  | 3 => simp at h
  | 4 => simp at h
  | 5 => simp at h
  | 6 => simp at h
  | 7 => simp at h
  | j + 8 => simp at h
/-- The bytes that a reader reads lie in another block. -/
theorem RdB.else {w : World} {g : Nat} {A : Option Addr} {c : Nat} {b : List Int} {n : Nat} {r : RdS} (h : RdB w g A c b n r) (ad : Addr) (e : A = some ad) : ad.block ≠ g ∧ ad.block < w.heap.size := by
  have h6 := h.six
  obtain ⟨ad', e', hc⟩ := h.y.cell 0 (by omega)
  cases e.symm.trans e'
  have hz : ad.add 0 = ad := by simp [Addr.add]
  rw [hz] at hc
  refine ⟨fun hg => ?_, World.block_lt_of_cell? w _ hc⟩
  subst hg
  have h2 := h.a
  obtain ⟨blk, off, st⟩ := ad
  cases st with
  | none =>
    have := blk_cell h2 off
    rw [hc] at this
    exact rdC_no _ _ _ _ _ _ _ this.symm
  | some st =>
    unfold World.cell? at hc
    rw [h2] at hc
    simp at hc
theorem RdB.after {w w1 : World} {g : Nat} {A : Option Addr} {c : Nat} {b : List Int} {n : Nat} {r r' : RdS} (h : RdB w g A c b n r) (hn : Nx w g w1 (rdC A c b n r')) (hp : r'.at_ ≤ b.length) : RdB w1 g A c b n r' := by
  refine ⟨hn.a, ⟨C_keep h.y.r (fun ad e _ => ?_), h.y.c, h.y.y, h.y.l⟩, hp, h.six, h.L⟩
  have h1 := h.else ad e
  exact hn.but.block _ h1.2 (fun e => h1.1 (by injection e))
end Go.Proofs.Ytfbdnfokoakfaaa.Ct
