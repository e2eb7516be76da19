/- code.Patch and the reference's Patch: what they answer, and their walks. -/
import Derived.Test.YtcfpiamdkdedlaaDecLaw
import Derived.Test.YtcfpiamdkdedlaaPCodePatchesx4
namespace Go.Proofs.Ytcfpiamdkdedlaa.DecodeC
open Go.RowKit Go.Proofs.YtcfpiamdkdedlaaW.PrintWords Go.Proofs.YtcfpiamdkdedlaaW.PrintLast Go.Proofs.YtcfpiamdkdedlaaW.PrintMore Go.Proofs.Ytcfpiamdkdedlaa.PCodePatches Go.Proofs.Ytcfpiamdkdedlaa.Spec Go.Proofs.Ytcfpiamdkdedlaa.CloneC
set_option linter.unusedVariables false
set_option linter.unusedSimpArgs false

def isJ (op : Int) : Bool := op == 19 || op == 20
def fitT (t : Int) : Bool := decide (0 ≤ t) && decide (t ≤ 65535)
def putS (l : List Int) (k : Nat) (t : Int) : List Int := (l.set (k + 1) (t / 256)).set (k + 2) (t % 256)
def patchS (l : List Int) (a t : Int) : List Int × Int :=
  if 4096 < l.length then ([], 4) else if (decodeS l a).2 ≠ 0 then ([], (decodeS l a).2) else if isJ (decodeS l a).1.2.1 = false then ([], 1) else if fitT t = false then ([], 5) else (putS l a.toNat t, 0)

theorem dec_ok (l : List Int) (a : Int) (h : (decodeS l a).2 = 0) (hj : isJ (decodeS l a).1.2.1 = true) : ∃ k : Nat, a = (k : Int) ∧ k + 3 ≤ l.length := by
  unfold decodeS at h hj
  by_cases c1 : a < 0 ∨ a > l.length
  · rw [if_pos c1] at h; cases h
  rw [if_neg c1] at h hj
  by_cases c2 : a = l.length
  · rw [if_pos c2] at h; cases h
  rw [if_neg c2] at h hj
  simp only at h hj
  by_cases c3 : sizeS (l.getD a.toNat 0) = 0
  · rw [if_pos c3] at h; cases h
  rw [if_neg c3] at h hj
  by_cases c4 : (l.length : Int) - a < sizeS (l.getD a.toNat 0)
  · rw [if_pos c4] at h; cases h
  rw [if_neg c4] at h hj
  by_cases c5 : l.getD a.toNat 0 = 2 ∧ takeV (l.drop (a.toNat + 1)) (wA (l.getD a.toNat 0)) > 1
  · rw [if_pos c5] at h; cases h
  rw [if_neg c5] at hj
  have hs : sizeS (l.getD a.toNat 0) = 3 := by
    unfold isJ at hj
    rcases (Bool.or_eq_true_iff).1 hj with h | h
    · have e : l.getD a.toNat 0 = 19 := by simpa using h
      rw [e]; rfl
    · have e : l.getD a.toNat 0 = 20 := by simpa using h
      rw [e]; rfl
  exact ⟨a.toNat, by omega, by omega⟩
theorem dec_op (l : List Int) (a : Int) (hb : ∀ x ∈ l, 0 ≤ x ∧ x ≤ 255) : 0 ≤ (decodeS l a).1.2.1 ∧ (decodeS l a).1.2.1 ≤ 255 := by
  unfold decodeS
  have hg : 0 ≤ l.getD a.toNat 0 ∧ l.getD a.toNat 0 ≤ 255 := by
    rw [List.getD_eq_getElem?_getD]
    by_cases h : a.toNat < l.length
    · rw [List.getElem?_eq_getElem h]; exact hb _ (List.getElem_mem h)
    · rw [List.getElem?_eq_none (by omega)]; simp
  by_cases c1 : a < 0 ∨ a > l.length
  · rw [if_pos c1]; simp
  rw [if_neg c1]
  by_cases c2 : a = l.length
  · rw [if_pos c2]; simp
  rw [if_neg c2]
  simp only
  by_cases c3 : sizeS (l.getD a.toNat 0) = 0
  · rw [if_pos c3]; simp
  rw [if_neg c3]
  by_cases c4 : (l.length : Int) - a < sizeS (l.getD a.toNat 0)
  · rw [if_pos c4]; simp
  rw [if_neg c4]
  by_cases c5 : l.getD a.toNat 0 = 2 ∧ takeV (l.drop (a.toNat + 1)) (wA (l.getD a.toNat 0)) > 1
  · rw [if_pos c5]; simp
  rw [if_neg c5]
  exact hg

theorem jumps5 : ∀ n : Fin 256, code_Jumps.f (n.val : Int) = some (isJ (n.val : Int)) := by decide +kernel
theorem rjumps5 : ∀ n : Fin 256, provisoref04_Jumps.f (n.val : Int) = some (isJ (n.val : Int)) := by decide +kernel
theorem jumps_c (op : Int) (h0 : 0 ≤ op) (h1 : op ≤ 255) (w : World) : Calls Try.prog 17 #[.int .u8 op] w fun e w' => e = .returned (.bool (isJ op)) ∧ Drawn0 w w' := by
  obtain ⟨n, rfl⟩ := fin_of h0 h1
  exact code_Jumps.calls _ _ w (jumps5 n)
theorem rjumps_c (op : Int) (h0 : 0 ≤ op) (h1 : op ≤ 255) (w : World) : Calls Try.prog 18 #[.int .u8 op] w fun e w' => e = .returned (.bool (isJ op)) ∧ Drawn0 w w' := by
  obtain ⟨n, rfl⟩ := fin_of h0 h1
  exact provisoref04_Jumps.calls _ _ w (rjumps5 n)
theorem fits_c (op t : Int) (w : World) : Calls Try.prog 42 #[.int .u8 op, .int .i64 t, .int .i64 2] w fun e w' => e = .returned (.bool (fitT t)) ∧ Drawn0 w w' := by
  refine code_fits.calls op t 2 _ w ?_
  unfold code_fits.f fitT
  by_cases h : 0 ≤ t <;> simp [h]
theorem rfits_c (t : Int) (w : World) : Calls Try.prog 44 #[.int .i64 t, .int .i64 2] w fun e w' => e = .returned (.bool (fitT t)) ∧ Drawn0 w w' := by
  refine provisoref04_fits.calls t 2 _ w ?_
  unfold provisoref04_fits.f fitT
  by_cases h : 0 ≤ t <;> simp [h]
theorem put2 (t : Int) (h0 : 0 ≤ t) (h1 : t ≤ 65535) : code_put.f 4 [] t 2 = some [t / 256, t % 256] := by
  have s1 : shr .i64 t 8 = t / 256 := by unfold shr; simp; rfl
  have s0 : shr .i64 t 0 = t := by unfold shr; simp
  have e1 : wrap64 (2 - 1) = 1 := by unfold wrap64; omega
  have e2 : wrap64 (8 * 1) = 8 := by unfold wrap64; omega
  have e3 : wrap64 (1 - 1) = 0 := by unfold wrap64; omega
  have e4 : wrap64 (8 * 0) = 0 := by unfold wrap64; omega
  have e5 : wrap64 (0 - 1) = -1 := by unfold wrap64; omega
  unfold code_put.f
  rw [e1]
  simp only [code_put.l0]
  rw [if_pos (by omega), e2, if_pos (by omega), if_pos (by simp), s1, e3, if_pos (by omega), e4, if_pos (by omega), if_pos (by simp), s0, e5, if_neg (by omega)]
  have e6 : t / 256 % 256 = t / 256 := by omega
  rw [e6]
  rfl
def PtPost (l : List Int) (a t : Int) (w : World) (e : Ending) (w' : World) : Prop :=
  ∃ v, e = .returned (.tuple #[v, .int .i64 (patchS l a t).2]) ∧ Kd.R (Kd.int .u8) 5 w' w.heap.size (fun _ => True) v (patchS l a t).1 ∧ Below w.heap.size w w'
theorem pt_post {l : List Int} {a t : Int} {w : World} {e : Ending} {w' : World} {r : List Int} {q : Int} (h : patchS l a t = (r, q)) (v : Value) (he : e = .returned (.tuple #[v, .int .i64 q])) (hr : Kd.R (Kd.int .u8) 5 w' w.heap.size (fun _ => True) v r) (hb : Below w.heap.size w w') : PtPost l a t w e w' := by
  unfold PtPost
  rw [h]
  exact ⟨v, he, hr, hb⟩

/-- Two bytes copied into a row of the call's own, behind so many. -/
theorem run_copy2 {W : World} {base g cap k : Nat} {xs : List Int} {x y : Int} {v2 : Value} {base2 : Nat} {ok2 : Nat → Prop} (ty : TypeId) (hk : k + 3 ≤ xs.length) (HO : Kd.R (Kd.int .u8) 5 W base (fun _ => True) (.slice (some ⟨g, 0, none⟩) xs.length cap) xs) (HR : Kd.R (Kd.int .u8) 5 W base2 ok2 v2 [x, y]) :
    ∃ w1, (Builtin.copy_ #[30, 30] ty #[.slice (some ⟨g, k + 1, none⟩) (xs.length - (k + 1)) (cap - (k + 1)), v2]).run Try.prog W = .ok (goInt 2) w1 ∧ Kd.R (Kd.int .u8) 5 w1 base (fun _ => True) (.slice (some ⟨g, 0, none⟩) xs.length cap) ((xs.set (k + 1) x).set (k + 2) y) ∧ W.grownBy w1 (some g) := by
  have hown := Kd.own_of_R HO
  obtain ⟨A2, c2, rfl, _, hC⟩ := Kd.R_reads HR
  obtain ⟨_, _, h3⟩ := hC
  obtain ⟨ad, rfl, h4⟩ := h3 (by simp)
  rcases hown.2 with ⟨e, _⟩ | ⟨g', cap', cur, e, hbg, hh, hnc, hcm, hcs, htake⟩
  · cases e
  · injection e with e1 _ e2
    injection e1 with e1
    injection e1 with e1
    subst e1 e2
    have hcs1 : cur.size = cap := by omega
    have hsrc : ∀ j u, ([.int .u8 x, .int .u8 y] : List Value)[j]? = some u → W.cell? (ad.add j) = some u := by
      intro j u hu
      match j, hu with
      | 0, hu =>
        cases hu
        obtain ⟨cs, _, h6, h7⟩ := h4 0 x rfl
        have h6' : cs = [.int .u8 x] := h6
        subst h6'
        exact h7 0 _ rfl
      | 1, hu =>
        cases hu
        obtain ⟨cs, _, h6, h7⟩ := h4 1 y rfl
        have h6' : cs = [.int .u8 y] := h6
        subst h6'
        exact h7 0 _ rfl
      | j + 2, hu => cases hu
    have hone : ∀ u ∈ ([.int .u8 x, .int .u8 y] : List Value), u.oneCell' = true := by
      intro u hu
      simp at hu
      rcases hu with rfl | rfl <;> rfl
    have hr := run_copy_cells (P := Try.prog) W 30 30 ty 5 g (k + 1) (xs.length - (k + 1)) (cap - (k + 1)) ad 2 c2 [.int .u8 x, .int .u8 y] Try.underlying30 (by kernel_rfl) (by show 2 = min 2 (xs.length - (k + 1)); omega) hsrc
      (fun j hj => by rw [cell_of_row W g _ cur 5 (0, 0) hh]; simp at hj ⊢; omega) (fun j _ => blk_frozen hh _) hone
    obtain ⟨cur', h5, h6, h7⟩ := setCells_row [.int .u8 x, .int .u8 y] (k + 1) W cur hh (by simp; omega)
    obtain ⟨s1, s2, s3, s4⟩ := setCells_same g [.int .u8 x, .int .u8 y] (k + 1) W
    refine ⟨_, hr, Kd.R_of_own ?_ (fun _ _ => trivial), ⟨s1, s2, s3, by rw [s4]; exact Nat.le_refl _, fun q _ hq => setCells_far _ _ q (fun he => hq (by rw [he]))⟩⟩
    have hln : ((xs.set (k + 1) x).set (k + 2) y).length = xs.length := by simp
    rw [hln]
    refine ⟨by rw [encs_length, hln, Nat.mul_one], .inr ⟨g, cap, cur', rfl, hbg, h5, hnc, hcm, by rw [h6, hcs], ?_⟩⟩
    have htk : cur.toList.take xs.length = encs (Value.int .u8) xs := by rw [← htake, Nat.mul_one]
    rw [h7, Nat.mul_one]
    apply List.ext_getElem?
    intro j
    have hcl : cur.toList.length = cap := by simp [hcs1]
    have hcj : ∀ j, j < xs.length → cur.toList[j]? = (encs (Value.int .u8) xs)[j]? := fun j hj => by rw [← htk, List.getElem?_take, if_pos hj]
    rw [List.getElem?_take]
    by_cases hj : j < xs.length
    · rw [if_pos hj]
      unfold encs at hcj ⊢
      rw [List.getElem?_map, List.getElem?_set, List.getElem?_set]
      simp only [List.length_set]
      by_cases a1 : j < k + 1
      · rw [if_neg (by omega), if_neg (by omega), List.append_assoc, List.getElem?_append_left (by simp; omega), List.getElem?_take, if_pos a1, hcj j hj, List.getElem?_map]
      · by_cases a2 : j = k + 1
        · subst a2
          rw [if_neg (by omega), if_pos rfl, if_pos hj, List.append_assoc, List.getElem?_append_right (by simp; omega)]
          have : (k + 1) - (List.take (k + 1) cur.toList).length = 0 := by rw [List.length_take]; omega
          rw [this]
          rfl
        · by_cases a3 : j = k + 2
          · subst a3
            rw [if_pos rfl, if_pos hj, List.append_assoc, List.getElem?_append_right (by simp; omega)]
            have : (k + 2) - (List.take (k + 1) cur.toList).length = 1 := by rw [List.length_take]; omega
            rw [this]
            rfl
          · rw [if_neg (by omega), if_neg (by omega), List.getElem?_append_right (by simp; omega), List.getElem?_drop]
            have : k + 1 + [Value.int .u8 x, Value.int .u8 y].length + (j - (List.take (k + 1) cur.toList ++ [Value.int .u8 x, Value.int .u8 y]).length) = j := by
              rw [List.length_append, List.length_take]
              simp
              omega
            rw [this, hcj j hj, List.getElem?_map]
    · rw [if_neg hj]
      unfold encs
      rw [List.getElem?_eq_none (by simp; omega)]
end Go.Proofs.Ytcfpiamdkdedlaa.DecodeC
