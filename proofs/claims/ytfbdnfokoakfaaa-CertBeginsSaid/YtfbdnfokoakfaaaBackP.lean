/- A certificate's bytes, read again; and what was read, written again: plain words. -/
import Derived.Test.YtfbdnfokoakfaaaToldC
namespace Go.Proofs.Ytfbdnfokoakfaaa.Ct
open Go.RowKit Go.Proofs.YtfbdnfokoakfaaaW.PrintWords
set_option linter.unusedVariables false
set_option linter.unusedSimpArgs false

theorem gB_r (a b : List Int) (i : Nat) : gB (a ++ b) (a.length + i) = gB b i := by
  unfold gB
  rw [List.getD_eq_getElem?_getD, List.getD_eq_getElem?_getD, List.getElem?_append_right (by omega)]
  congr 2
  omega
theorem gB_l (a b : List Int) (i : Nat) (h : i < a.length) : gB (a ++ b) i = gB a i := by
  unfold gB
  rw [List.getD_eq_getElem?_getD, List.getD_eq_getElem?_getD, List.getElem?_append_left h]
theorem gB_take (b : List Int) (m i : Nat) (h : i < m) : gB (b.take m) i = gB b i := by
  unfold gB
  rw [List.getD_eq_getElem?_getD, List.getD_eq_getElem?_getD, List.getElem?_take, if_pos h]
theorem gB_mem (b : List Int) (i : Nat) (h : i < b.length) : gB b i ∈ b := by
  unfold gB
  rw [List.getD_eq_getElem?_getD, List.getElem?_eq_getElem h]
  exact List.getElem_mem h
theorem gB_drop (b : List Int) (m i : Nat) : gB (b.drop m) i = gB b (m + i) := by
  unfold gB
  rw [List.getD_eq_getElem?_getD, List.getD_eq_getElem?_getD, List.getElem?_drop]
theorem drop_gB (b : List Int) (p : Nat) (h : p < b.length) : b.drop p = gB b p :: b.drop (p + 1) := by
  rw [List.drop_eq_getElem_cons h]
  unfold gB
  rw [List.getD_eq_getElem?_getD, List.getElem?_eq_getElem h]
  rfl

theorem slotsS_ok (b : List Int) : ∀ (m q : Nat), q + m ≤ b.length → (∀ j, j < m → knownB (gB b (q + j)) = true) → slotsS b m q = none
  | 0, q, _, _ => rfl
  | m + 1, q, h, hk => by
    rw [slotsS, if_neg (by omega), if_pos (by simpa using hk 0 (by omega))]
    exact slotsS_ok b m (q + 1) (by omega) (fun j hj => by have := hk (j + 1) (by omega); rwa [show q + (j + 1) = q + 1 + j by omega] at this)
theorem slotsS_cut (b : List Int) : ∀ (m q : Nat), q ≤ b.length → b.length < q + m → (∀ j, q + j < b.length → knownB (gB b (q + j)) = true) → slotsS b m q = some ((b.length : Int), 2)
  | 0, q, h, h2, _ => by omega
  | m + 1, q, h, h2, hk => by
    rw [slotsS]
    by_cases c : q = b.length
    · rw [if_pos c, c]
    · rw [if_neg c, if_pos (by simpa using hk 0 (by omega))]
      exact slotsS_cut b m (q + 1) (by omega) (by omega) (fun j hj => by have := hk (j + 1) (by omega); rwa [show q + (j + 1) = q + 1 + j by omega] at this)
theorem slotsS_known (b : List Int) : ∀ (m q : Nat), slotsS b m q = none → q ≤ b.length → ∀ j, j < m → knownB (gB b (q + j)) = true
  | 0, q, _, _, j, hj => by omega
  | m + 1, q, e, h, j, hj => by
    rw [slotsS] at e
    by_cases c : q = b.length
    · rw [if_pos c] at e; cases e
    · rw [if_neg c] at e
      by_cases d : knownB (gB b q) = true
      · rw [if_pos d] at e
        match j with
        | 0 => simpa using d
        | j + 1 =>
          have := slotsS_known b m (q + 1) e (by omega) j (by omega)
          rwa [show q + 1 + j = q + (j + 1) by omega] at this
      · rw [if_neg d] at e; cases e

theorem step_rises {L last : Int} {x : En} (h : stepS L last x = 0) : risesS last x.at_ = 0 := by
  unfold stepS at h
  by_cases e : risesS last x.at_ = 0
  · exact e
  · rw [if_pos e] at h; exact absurd h e
theorem pad_take (s : List Int) (n : Nat) (hs : s.length = 24) (hn : n ≤ 24) (hz : ∀ t, t ∈ s.drop n → t = 0) : padS (s.take n) = s := by
  unfold padS
  have h1 : (s.take n).length = n := by rw [List.length_take]; omega
  have h2 : s.drop n = List.replicate (24 - n) 0 := by
    rw [List.eq_replicate_iff]
    exact ⟨by rw [List.length_drop, hs], hz⟩
  rw [h1, ← h2, List.take_append_drop]
theorem en_dead {L : Int} {x : En} (h : bodyS L x = 0) (hd : x.dead = true) : x = ⟨x.at_, true, fr0⟩ := by
  have := body_dead h hd
  obtain ⟨a, d, f⟩ := x
  simp at hd this
  subst hd this
  rfl
theorem encE_dead (L : Int) {x : En} (hd : x.dead = true) : encE L x = [x.at_ / 256, x.at_ % 256, 0] := by unfold encE; rw [if_pos hd]; rfl
theorem encE_live (L : Int) {x : En} (hd : x.dead = false) : encE L x = [x.at_ / 256, x.at_ % 256, 1, x.fr.h] ++ x.fr.s.take (L + x.fr.h).toNat := by unfold encE; rw [if_neg (by rw [hd]; decide)]; rfl

/-- The four first bytes of an entry, wherever it lies. -/
theorem at_bytes (pre tl : List Int) (p : Nat) (hp : p = pre.length) (a c d h : Int) (t : List Int) (e : tl = a :: c :: d :: h :: t) : gB (pre ++ tl) p = a ∧ gB (pre ++ tl) (p + 1) = c ∧ gB (pre ++ tl) (p + 2) = d ∧ gB (pre ++ tl) (p + 3) = h := by
  subst hp e
  have h0 := gB_r pre (a :: c :: d :: h :: t) 0
  have h1 := gB_r pre (a :: c :: d :: h :: t) 1
  have h2 := gB_r pre (a :: c :: d :: h :: t) 2
  have h3 := gB_r pre (a :: c :: d :: h :: t) 3
  rw [Nat.add_zero] at h0
  exact ⟨h0, h1, h2, h3⟩

theorem one_enc (pre rest : List Int) (L last : Int) (x : En) (h0 : 0 ≤ L) (h1 : L ≤ 16) (hw : x.fr.wf) (h : stepS L last x = 0) :
    oneS (pre ++ (encE L x ++ rest)) L pre.length last = .inr (x, pre.length + (encE L x).length) := by
  obtain ⟨a0, a1, a2, hb⟩ := step_at h
  have hr := step_rises h
  have ev : x.at_ / 256 * 256 + x.at_ % 256 = x.at_ := by omega
  cases hd : x.dead with
  | true =>
    have ee := encE_dead L hd
    rw [ee]
    have g0 := gB_r pre ([x.at_ / 256, x.at_ % 256, 0] ++ rest) 0
    have g1 := gB_r pre ([x.at_ / 256, x.at_ % 256, 0] ++ rest) 1
    have g2 := gB_r pre ([x.at_ / 256, x.at_ % 256, 0] ++ rest) 2
    rw [Nat.add_zero] at g0
    have e0 : gB ([x.at_ / 256, x.at_ % 256, 0] ++ rest) 0 = x.at_ / 256 := rfl
    have e1 : gB ([x.at_ / 256, x.at_ % 256, 0] ++ rest) 1 = x.at_ % 256 := rfl
    have e2 : gB ([x.at_ / 256, x.at_ % 256, 0] ++ rest) 2 = 0 := rfl
    have hlen : (pre ++ ([x.at_ / 256, x.at_ % 256, 0] ++ rest)).length = pre.length + (3 + rest.length) := by simp; omega
    unfold oneS
    rw [hlen, g0, e0, g1, e1, ev, g2, e2, if_neg (by omega), if_neg (by simpa using hr), if_neg (by omega), if_neg (by omega), if_pos rfl]
    rw [← en_dead hb hd]
    rfl
  | false =>
    have ee := encE_live L hd
    obtain ⟨b0, b1, b2, b3, b4⟩ := body_live hb hd
    obtain ⟨n, hn⟩ : ∃ n, n = (L + x.fr.h).toNat := ⟨_, rfl⟩
    rw [← hn] at b3 b4 ee
    have hnl : (x.fr.s.take n).length = n := by rw [List.length_take, hw.1]; omega
    have el : (encE L x).length = 4 + n := by rw [ee, List.length_append, hnl]; rfl
    have eb : pre ++ (encE L x ++ rest) = (pre ++ [x.at_ / 256, x.at_ % 256, 1, x.fr.h]) ++ (x.fr.s.take n ++ rest) := by rw [ee]; simp
    obtain ⟨g0, g1, g2, g3⟩ := at_bytes pre (encE L x ++ rest) pre.length rfl (x.at_ / 256) (x.at_ % 256) 1 x.fr.h (x.fr.s.take n ++ rest) (by rw [ee]; simp)
    have hlen : (pre ++ (encE L x ++ rest)).length = pre.length + (4 + n + rest.length) := by rw [List.length_append, List.length_append, el]
    have h4 : (pre ++ [x.at_ / 256, x.at_ % 256, 1, x.fr.h]).length = pre.length + 4 := by simp
    have hk : slotsS (pre ++ (encE L x ++ rest)) n (pre.length + 4) = none := by
      refine slotsS_ok _ _ _ (by rw [hlen]; omega) (fun j hj => ?_)
      rw [eb, ← h4, gB_r, gB_l _ _ _ (by rw [hnl]; exact hj)]
      exact b4 _ (gB_mem _ _ (by rw [hnl]; exact hj))
    have hdr : ((pre ++ (encE L x ++ rest)).drop (pre.length + 4)).take n = x.fr.s.take n := by
      rw [eb, ← h4, List.drop_left', List.take_append_of_le_length (by omega), List.take_of_length_le (by omega)]
      rfl
    unfold oneS
    rw [g0, g1, g2, g3, ev, hlen, if_neg (by omega), if_neg (by simpa using hr), if_neg (by omega), if_neg (by omega), if_neg (by omega), if_neg (by omega), if_neg (by omega), ← hn, hk, hdr]
    have hp := pad_take x.fr.s n hw.1 (by omega) b3
    show Sum.inr (_, _) = _
    rw [hp, el]
    obtain ⟨a, d, f, k, s⟩ := x
    simp at hd b0
    subst hd b0
    rw [Nat.add_assoc]

theorem told_enc (L : Int) (h0 : 0 ≤ L) (h1 : L ≤ 16) : ∀ (l : List En) (last : Int) (pre rest : List Int), OkL L last l → (∀ x, x ∈ l → x.fr.wf) →
    ∃ es, toldF (pre ++ (encB L l ++ rest)) L l.length pre.length last = (l, es, if 0 < rest.length then (((pre.length + (encB L l).length : Nat) : Int), 3) else (0, 0))
  | [], last, pre, rest, _, _ => by
    refine ⟨[], ?_⟩
    show toldF (pre ++ ([] ++ rest)) L 0 pre.length last = _
    rw [toldF, List.nil_append]
    by_cases c : 0 < rest.length
    · rw [if_pos (by rw [List.length_append]; omega), if_pos c]; rfl
    · rw [if_neg (by rw [List.length_append]; omega), if_neg c]
  | x :: r, last, pre, rest, h, hw => by
    have e1 : encB L (x :: r) ++ rest = encE L x ++ (encB L r ++ rest) := by simp [encB]
    have e2 : pre ++ (encE L x ++ (encB L r ++ rest)) = (pre ++ encE L x) ++ (encB L r ++ rest) := by simp
    have ho := one_enc pre (encB L r ++ rest) L last x h0 h1 (hw x (List.mem_cons_self ..)) h.1
    obtain ⟨es, ih⟩ := told_enc L h0 h1 r x.at_ (pre ++ encE L x) rest h.2 (fun y hy => hw y (List.mem_cons_of_mem _ hy))
    rw [e1]
    show ∃ es, toldF (pre ++ (encE L x ++ (encB L r ++ rest))) L (r.length + 1) pre.length last = _
    rw [toldF, ho]
    simp only []
    rw [e2, ← List.length_append, ih]
    refine ⟨(((pre ++ encE L x).length : Nat) : Int) :: es, ?_⟩
    have el : (encB L (x :: r)).length = (encE L x).length + (encB L r).length := by simp [encB]
    rw [el, List.length_append, Nat.add_assoc]
theorem encS_head (L : Int) (l : List En) (rest : List Int) (h0 : 0 ≤ L) (h1 : L ≤ 16) (hl : l.length ≤ 4096) : headS ([112, 118, 1, L, (l.length : Int) / 256, (l.length : Int) % 256] ++ rest) = .inr (L, l.length) := by
  have hlen : ([112, 118, 1, L, (l.length : Int) / 256, (l.length : Int) % 256] ++ rest).length = 6 + rest.length := by simp; omega
  unfold headS
  have e0 : gB ([112, 118, 1, L, (l.length : Int) / 256, (l.length : Int) % 256] ++ rest) 0 = 112 := rfl
  have e1 : gB ([112, 118, 1, L, (l.length : Int) / 256, (l.length : Int) % 256] ++ rest) 1 = 118 := rfl
  have e2 : gB ([112, 118, 1, L, (l.length : Int) / 256, (l.length : Int) % 256] ++ rest) 2 = 1 := rfl
  have e3 : gB ([112, 118, 1, L, (l.length : Int) / 256, (l.length : Int) % 256] ++ rest) 3 = L := rfl
  have e4 : gB ([112, 118, 1, L, (l.length : Int) / 256, (l.length : Int) % 256] ++ rest) 4 = (l.length : Int) / 256 := rfl
  have e5 : gB ([112, 118, 1, L, (l.length : Int) / 256, (l.length : Int) % 256] ++ rest) 5 = (l.length : Int) % 256 := rfl
  rw [hlen, e0, e1, e2, e3, e4, e5, if_neg (by omega), if_neg (by simp), if_neg (by omega), if_neg (by simp), if_neg (by omega), if_neg (by simp), if_neg (by omega), if_neg (by omega), if_neg (by omega)]
  congr 2
  omega
/-- What was encoded is told. -/
theorem told_encS (L : Int) (l : List En) (rest : List Int) (h : Good L l) (hw : ∀ x, x ∈ l → x.fr.wf) :
    ∃ es, toldS (encS L l ++ rest) = (l, es, if 0 < rest.length then (((encS L l).length : Int), 3) else (0, 0)) := by
  obtain ⟨h0, h1, hl, hok⟩ := h
  have e : encS L l ++ rest = [112, 118, 1, L, (l.length : Int) / 256, (l.length : Int) % 256] ++ (encB L l ++ rest) := by unfold encS; rw [List.append_assoc]
  obtain ⟨es, hes⟩ := told_enc L h0 h1 l (-1) [112, 118, 1, L, (l.length : Int) / 256, (l.length : Int) % 256] rest hok hw
  refine ⟨es, ?_⟩
  unfold toldS
  rw [e, encS_head L l _ h0 h1 hl]
  show toldF _ L l.length 6 (-1) = _
  have hs : (encS L l).length = 6 + (encB L l).length := by unfold encS; rw [List.length_append]; rfl
  rw [hs]
  exact hes

/-! ### A beginning -/
theorem one_cut (pre : List Int) (L last : Int) (x : En) (m : Nat) (h0 : 0 ≤ L) (h1 : L ≤ 16) (hw : x.fr.wf) (h : stepS L last x = 0) (hm : m < (encE L x).length) :
    oneS (pre ++ (encE L x).take m) L pre.length last = .inl (((pre.length + m : Nat) : Int), 2) := by
  obtain ⟨a0, a1, a2, hb⟩ := step_at h
  have hr := step_rises h
  have ev : x.at_ / 256 * 256 + x.at_ % 256 = x.at_ := by omega
  have hml : ((encE L x).take m).length = m := by rw [List.length_take]; omega
  have hlen : (pre ++ (encE L x).take m).length = pre.length + m := by rw [List.length_append, hml]
  have g : ∀ i, i < m → gB (pre ++ (encE L x).take m) (pre.length + i) = gB (encE L x) i := fun i hi => by rw [gB_r, gB_take _ _ _ hi]
  unfold oneS
  rw [hlen]
  by_cases c1 : m < 2
  · rw [if_pos (by omega)]
  have g0 : gB (pre ++ (encE L x).take m) pre.length = x.at_ / 256 := by
    have := g 0 (by omega)
    rw [Nat.add_zero] at this
    rw [this]
    unfold encE
    rfl
  have g1 : gB (pre ++ (encE L x).take m) (pre.length + 1) = x.at_ % 256 := by
    rw [g 1 (by omega)]
    unfold encE
    rfl
  rw [if_neg (by omega), g0, g1, ev, if_neg (by simpa using hr)]
  by_cases c2 : m = 2
  · rw [if_pos (by omega)]
  rw [if_neg (by omega)]
  cases hd : x.dead with
  | true =>
    rw [encE_dead L hd] at hm
    simp at hm
    omega
  | false =>
    have ee := encE_live L hd
    obtain ⟨b0, b1, b2, b3, b4⟩ := body_live hb hd
    obtain ⟨n, hn⟩ : ∃ n, n = (L + x.fr.h).toNat := ⟨_, rfl⟩
    rw [← hn] at b3 b4 ee
    have hnl : (x.fr.s.take n).length = n := by rw [List.length_take, hw.1]; omega
    have el : (encE L x).length = 4 + n := by rw [ee, List.length_append, hnl]; rfl
    have g2 : gB (pre ++ (encE L x).take m) (pre.length + 2) = 1 := by rw [g 2 (by omega), ee]; rfl
    rw [g2, if_neg (by omega), if_neg (by omega)]
    by_cases c3 : m = 3
    · rw [if_pos (by omega)]
    have g3 : gB (pre ++ (encE L x).take m) (pre.length + 3) = x.fr.h := by rw [g 3 (by omega), ee]; rfl
    have hk : slotsS (pre ++ (encE L x).take m) n (pre.length + 4) = some (((pre.length + m : Nat) : Int), 2) := by
      have := slotsS_cut (pre ++ (encE L x).take m) n (pre.length + 4) (by rw [hlen]; omega) (by rw [hlen]; omega) (fun j hj => by
        rw [hlen] at hj
        rw [Nat.add_assoc, g (4 + j) (by omega), ee]
        have e4 : gB ([x.at_ / 256, x.at_ % 256, 1, x.fr.h] ++ x.fr.s.take n) (4 + j) = gB (x.fr.s.take n) j := gB_r [x.at_ / 256, x.at_ % 256, 1, x.fr.h] _ j
        rw [e4]
        exact b4 _ (gB_mem _ _ (by rw [hnl]; omega)))
      rw [this, hlen]
    rw [if_neg (by omega), g3, if_neg (by omega), ← hn, hk]
theorem told_cut (L : Int) (h0 : 0 ≤ L) (h1 : L ≤ 16) : ∀ (l : List En) (last : Int) (pre : List Int) (m : Nat), OkL L last l → (∀ x, x ∈ l → x.fr.wf) → m < (encB L l).length →
    (toldF (pre ++ (encB L l).take m) L l.length pre.length last).2.2 = (((pre.length + m : Nat) : Int), 2)
  | [], last, pre, m, _, _, hm => by simp [encB] at hm
  | x :: r, last, pre, m, h, hw, hm => by
    have eb : encB L (x :: r) = encE L x ++ encB L r := rfl
    rw [eb, List.length_append] at hm
    show (toldF (pre ++ (encB L (x :: r)).take m) L (r.length + 1) pre.length last).2.2 = _
    rw [toldF, eb]
    by_cases c : m < (encE L x).length
    · rw [List.take_append_of_le_length (by omega), one_cut pre L last x m h0 h1 (hw x (List.mem_cons_self ..)) h.1 c]
    · have e1 : (encE L x ++ encB L r).take m = encE L x ++ (encB L r).take (m - (encE L x).length) := by
        rw [List.take_append, List.take_of_length_le (by omega)]
      have e2 : pre ++ (encE L x ++ (encB L r).take (m - (encE L x).length)) = (pre ++ encE L x) ++ (encB L r).take (m - (encE L x).length) := by simp
      have ih := told_cut L h0 h1 r x.at_ (pre ++ encE L x) (m - (encE L x).length) h.2 (fun y hy => hw y (List.mem_cons_of_mem _ hy)) (by omega)
      rw [e1, one_enc pre _ L last x h0 h1 (hw x (List.mem_cons_self ..)) h.1]
      simp only []
      rw [e2, ← List.length_append, ih, List.length_append]
      congr 2
      omega
/-- No beginning is taken. -/
theorem told_encS_cut (L : Int) (l : List En) (k : Nat) (h : Good L l) (hw : ∀ x, x ∈ l → x.fr.wf) (hk : k < (encS L l).length) : (toldS ((encS L l).take k)).2.2 = ((k : Int), 2) := by
  obtain ⟨h0, h1, hl, hok⟩ := h
  have hs : (encS L l).length = 6 + (encB L l).length := by unfold encS; rw [List.length_append]; rfl
  have hkl : ((encS L l).take k).length = k := by rw [List.length_take]; omega
  by_cases c : k < 6
  · have g : ∀ i, i < k → gB ((encS L l).take k) i = gB (encS L l) i := fun i hi => gB_take _ _ _ hi
    have hh : headS ((encS L l).take k) = .inl ((k : Int), 2) := by
      unfold headS
      rw [hkl]
      by_cases c0 : k = 0
      · rw [if_pos c0, c0]; rfl
      rw [if_neg c0, if_neg (by rw [g 0 (by omega)]; simp [encS, gB])]
      by_cases c1 : k = 1
      · rw [if_pos c1, c1]; rfl
      rw [if_neg c1, if_neg (by rw [g 1 (by omega)]; simp [encS, gB])]
      by_cases c2 : k = 2
      · rw [if_pos c2, c2]; rfl
      rw [if_neg c2, if_neg (by rw [g 2 (by omega)]; simp [encS, gB]), if_pos c]
    unfold toldS
    rw [hh]
  · have e : (encS L l).take k = [112, 118, 1, L, (l.length : Int) / 256, (l.length : Int) % 256] ++ (encB L l).take (k - 6) := by
      unfold encS
      rw [List.take_append, List.take_of_length_le (by simp; omega)]
      rfl
    unfold toldS
    rw [e, encS_head L l _ h0 h1 hl]
    have := told_cut L h0 h1 l (-1) [112, 118, 1, L, (l.length : Int) / 256, (l.length : Int) % 256] (k - 6) hok hw (by omega)
    show (toldF _ L l.length 6 (-1)).2.2 = _
    have e6 : ([112, 118, 1, L, (l.length : Int) / 256, (l.length : Int) % 256] : List Int).length = 6 := rfl
    rw [e6] at this
    rw [this]
    congr 2
    omega

/-! ### One form -/
theorem one_form (b : List Int) (L : Int) (p : Nat) (last : Int) (x : En) (q : Nat) (h0 : 0 ≤ L) (h1 : L ≤ 16) (hb : ∀ x, x ∈ b → 0 ≤ x ∧ x ≤ 255) (h : oneS b L p last = .inr (x, q)) : stepS L last x = 0 ∧ b.drop p = encE L x ++ b.drop q := by
  have hnx := oneS_next b L p last x q h0 hb h
  unfold oneS at h
  have r0 := gB_range b hb p
  have r1 := gB_range b hb (p + 1)
  have r2 := gB_range b hb (p + 2)
  have r3 := gB_range b hb (p + 3)
  by_cases c1 : b.length < p + 2
  · rw [if_pos c1] at h; cases h
  rw [if_neg c1] at h
  by_cases c2 : risesS last (gB b p * 256 + gB b (p + 1)) ≠ 0
  · rw [if_pos c2] at h; cases h
  rw [if_neg c2] at h
  by_cases c3 : p + 2 = b.length
  · rw [if_pos c3] at h; cases h
  rw [if_neg c3] at h
  by_cases c4 : 1 < gB b (p + 2)
  · rw [if_pos c4] at h; cases h
  rw [if_neg c4] at h
  have d0 := drop_gB b p (by omega)
  have d1 := drop_gB b (p + 1) (by omega)
  have d2 := drop_gB b (p + 2) (by omega)
  have ea : (gB b p * 256 + gB b (p + 1)) / 256 = gB b p := by omega
  have em : (gB b p * 256 + gB b (p + 1)) % 256 = gB b (p + 1) := by omega
  by_cases c5 : gB b (p + 2) = 0
  · rw [if_pos c5] at h
    cases h
    refine ⟨?_, ?_⟩
    · unfold stepS
      rw [if_neg c2]
      unfold bodyS
      rw [if_pos rfl, if_pos (eqF_self _)]
    · rw [encE_dead L rfl, d0, d1, d2, c5]
      show _ = (gB b p * 256 + gB b (p + 1)) / 256 :: (gB b p * 256 + gB b (p + 1)) % 256 :: 0 :: b.drop (p + 3)
      rw [ea, em]
  rw [if_neg c5] at h
  by_cases c6 : p + 3 = b.length
  · rw [if_pos c6] at h; cases h
  rw [if_neg c6] at h
  by_cases c7 : 24 < L + gB b (p + 3)
  · rw [if_pos c7] at h; cases h
  rw [if_neg c7] at h
  have d3 := drop_gB b (p + 3) (by omega)
  obtain ⟨n, hn⟩ : ∃ n, n = (L + gB b (p + 3)).toNat := ⟨_, rfl⟩
  rw [← hn] at h
  cases hs : slotsS b n (p + 4) with
  | some y => rw [hs] at h; cases h
  | none =>
    rw [hs] at h
    cases h
    have hle := slotsS_le b _ _ (by omega) hs
    have hkn := slotsS_known b _ _ hs (by omega)
    have hnl : ((b.drop (p + 4)).take n).length = n := by rw [List.length_take, List.length_drop]; omega
    have htk : (padS ((b.drop (p + 4)).take n)).take n = (b.drop (p + 4)).take n := by
      unfold padS
      rw [List.take_append_of_le_length (by omega), List.take_of_length_le (by omega)]
    have hdk : (padS ((b.drop (p + 4)).take n)).drop n = List.replicate (24 - n) 0 := by
      unfold padS
      rw [List.drop_append_of_le_length (by omega), List.drop_eq_nil_of_le (by omega), hnl, List.nil_append]
    refine ⟨?_, ?_⟩
    · unfold stepS
      rw [if_neg c2]
      unfold bodyS
      rw [if_neg (by simp)]
      unfold frameS
      show (if L ≠ L ∨ gB b (p + 3) < 0 ∨ 24 - L < gB b (p + 3) then (65 : Int) else if ((padS ((b.drop (p + 4)).take n)).drop (L + gB b (p + 3)).toNat).all (fun t => t == 0) = true then (if ((padS ((b.drop (p + 4)).take n)).take (L + gB b (p + 3)).toNat).all knownB = true then 0 else 62) else 65) = 0
      rw [if_neg (by omega), ← hn, hdk, htk, if_pos (by rw [List.all_eq_true]; intro t ht; rw [List.eq_of_mem_replicate ht]; rfl), if_pos]
      rw [List.all_eq_true]
      intro t ht
      obtain ⟨j, hj, rfl⟩ := List.getElem_of_mem ht
      have := hkn j (by omega)
      rw [← gB_drop, ← gB_take _ n j (by omega)] at this
      unfold gB at this
      rw [List.getD_eq_getElem?_getD, List.getElem?_eq_getElem hj] at this
      exact this
    · have e1 : gB b (p + 2) = 1 := by omega
      rw [encE_live L rfl]
      show _ = [(gB b p * 256 + gB b (p + 1)) / 256, (gB b p * 256 + gB b (p + 1)) % 256, 1, gB b (p + 3)] ++ (padS ((b.drop (p + 4)).take n)).take (L + gB b (p + 3)).toNat ++ b.drop (p + 4 + n)
      rw [← hn, htk, ea, em, d0, d1, d2, d3, e1]
      have e3 : b.drop (p + 3 + 1) = (b.drop (p + 4)).take n ++ b.drop (p + 4 + n) := by
        have := List.take_append_drop n (b.drop (p + 4))
        rw [List.drop_drop] at this
        exact this.symm
      rw [List.append_assoc]
      exact congrArg (fun t => gB b p :: gB b (p + 1) :: 1 :: gB b (p + 3) :: t) e3
theorem told_form (b : List Int) (L : Int) (h0 : 0 ≤ L) (h1 : L ≤ 16) (hb : ∀ x, x ∈ b → 0 ≤ x ∧ x ≤ 255) : ∀ (n p : Nat) (last : Int) (l : List En) (es : List Int) (y : Int × Int), toldF b L n p last = (l, es, y) → y.2 = 0 → p ≤ b.length →
    b.drop p = encB L l ∧ OkL L last l ∧ l.length = n ∧ ∀ x, x ∈ l → x.fr.wf
  | 0, p, last, l, es, y, h, hy, hp => by
    rw [toldF] at h
    by_cases c : p < b.length
    · rw [if_pos c] at h
      cases h
      cases hy
    · rw [if_neg c] at h
      cases h
      exact ⟨List.drop_eq_nil_of_le (by omega), trivial, rfl, fun x hx => by cases hx⟩
  | n + 1, p, last, l, es, y, h, hy, hp => by
    rw [toldF] at h
    cases ho : oneS b L p last with
    | inl z =>
      rw [ho] at h
      cases h
      exact absurd hy (by
        intro e
        have hz : ∀ z, oneS b L p last = .inl z → z.2 ≠ 0 := fun z hz => oneS_err b L p last z hz
        exact hz _ ho e)
    | inr z =>
      obtain ⟨x, q⟩ := z
      rw [ho] at h
      have hnx := oneS_next b L p last x q h0 hb ho
      obtain ⟨hst, hdr⟩ := one_form b L p last x q h0 h1 hb ho
      obtain ⟨r, es', y', hr⟩ : ∃ r es' y', toldF b L n q x.at_ = (r, es', y') := ⟨_, _, _, rfl⟩
      simp only [hr] at h
      cases h
      obtain ⟨i1, i2, i3, i4⟩ := told_form b L h0 h1 hb n q x.at_ r es' y hr hy hnx.2.1
      refine ⟨by rw [hdr, i1]; rfl, ⟨hst, i2⟩, by rw [List.length_cons, i3], fun z hz => ?_⟩
      rcases List.mem_cons.1 hz with rfl | hz
      · exact hnx.2.2
      · exact i4 z hz
/-- What was told is encoded as the bytes that were read. -/
theorem encS_told (b : List Int) (hb : ∀ x, x ∈ b → 0 ≤ x ∧ x ≤ 255) (L : Int) (n : Nat) (hh : headS b = .inr (L, n)) (he : (toldS b).2.2.2 = 0) : Good L (toldS b).1 ∧ encS L (toldS b).1 = b ∧ ∀ x, x ∈ (toldS b).1 → x.fr.wf := by
  obtain ⟨h6, hL, hg, hn⟩ := headS_ok b hb (L, n) hh
  have ht : toldS b = toldF b L n 6 (-1) := by unfold toldS; rw [hh]
  obtain ⟨l, es, y, hy⟩ : ∃ l es y, toldF b L n 6 (-1) = (l, es, y) := ⟨_, _, _, rfl⟩
  rw [ht, hy] at he ⊢
  obtain ⟨i1, i2, i3, i4⟩ := told_form b L hL.1 hL.2 hb n 6 (-1) l es y hy he h6
  simp only at hL hg hn
  refine ⟨⟨hL.1, hL.2, by show l.length ≤ 4096; omega, i2⟩, ?_, i4⟩
  unfold encS
  show [112, 118, 1, L, (l.length : Int) / 256, (l.length : Int) % 256] ++ encB L l = b
  rw [← i1, i3]
  have r4 := gB_range b hb 4
  have r5 := gB_range b hb 5
  have hd : b = gB b 0 :: gB b 1 :: gB b 2 :: gB b 3 :: gB b 4 :: gB b 5 :: b.drop 6 := by
    have := drop_gB b 0 (by omega)
    rw [List.drop_zero] at this
    rw [this, drop_gB b 1 (by omega), drop_gB b 2 (by omega), drop_gB b 3 (by omega), drop_gB b 4 (by omega), drop_gB b 5 (by omega)]
    simp [gB]
  have hb0 : gB b 0 = 112 ∧ gB b 1 = 118 ∧ gB b 2 = 1 ∧ n = (gB b 4 * 256 + gB b 5).toNat := by
    unfold headS at hh
    by_cases c0 : b.length = 0
    · omega
    rw [if_neg c0] at hh
    by_cases d0 : gB b 0 ≠ 112
    · rw [if_pos d0] at hh; cases hh
    rw [if_neg d0, if_neg (by omega)] at hh
    by_cases d1 : gB b 1 ≠ 118
    · rw [if_pos d1] at hh; cases hh
    rw [if_neg d1, if_neg (by omega)] at hh
    by_cases d2 : gB b 2 ≠ 1
    · rw [if_pos d2] at hh; cases hh
    rw [if_neg d2, if_neg (by omega)] at hh
    by_cases d3 : 16 < gB b 3
    · rw [if_pos d3] at hh; cases hh
    rw [if_neg d3] at hh
    by_cases d4 : 4096 < gB b 4 * 256 + gB b 5
    · rw [if_pos d4] at hh; cases hh
    rw [if_neg d4] at hh
    injection hh with hh
    injection hh with e1 e2
    exact ⟨by omega, by omega, by omega, e2.symm⟩
  have e4 : (n : Int) / 256 = gB b 4 := by omega
  have e5 : (n : Int) % 256 = gB b 5 := by omega
  rw [e4, e5, hg]
  have := hd
  rw [hb0.1, hb0.2.1, hb0.2.2.1] at this
  exact this.symm
end Go.Proofs.Ytfbdnfokoakfaaa.Ct
