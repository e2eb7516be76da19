/- Unlike instructions have unlike words, and no one's bytes are the beginning of another one's: the plain law. -/
import Derived.Test.YtcfpiamdkdedlaaApartEnc
import Derived.Test.YtcfpiamdkdedlaaApartLaw
import Derived.Test.YtcfpiamdkdedlaaSpecB
namespace Go.Proofs.Ytcfpiamdkdedlaa.PCodeApartEnc
open Go.RowKit Go.Proofs.Ytcfpiamdkdedlaa.PCodeApart Go.Proofs.YtcfpiamdkdedlaaW.PrintWords Go.Proofs.YtcfpiamdkdedlaaW.PrintLast Go.Proofs.YtcfpiamdkdedlaaW.PrintMore Go.Proofs.Ytcfpiamdkdedlaa.Spec Go.Proofs.Ytcfpiamdkdedlaa.FitC

theorem bind_eq {α β : Type} {x : Option α} {a : α} (h : x = some a) (f : α → Option β) : x.bind f = f a := by rw [h]; rfl

theorem equal_loop (l m : List Int) (e : l.length = m.length) (h : l.length ≤ 1000000) : ∀ (d i k : Nat), i + d = l.length → d < k →
    slices_Equal_byte_byte.l0 k l m (l.length : Int) (i : Int) = some (decide (l.drop i = m.drop i)) := by
  intro d
  induction d with
  | zero =>
    intro i k hi hk
    obtain ⟨k, rfl⟩ : ∃ m, k = m + 1 := ⟨k - 1, by omega⟩
    rw [slices_Equal_byte_byte.l0, if_neg (by omega), List.drop_eq_nil_of_le (by omega), List.drop_eq_nil_of_le (by omega)]
    rfl
  | succ d ih =>
    intro i k hi hk
    obtain ⟨k, rfl⟩ : ∃ m, k = m + 1 := ⟨k - 1, by omega⟩
    have hl : i < l.length := by omega
    have hm : i < m.length := by omega
    have w1 : wrap64 ((i : Int) + 1) = ((i + 1 : Nat) : Int) := by unfold wrap64; omega
    have d1 : l.drop i = l[i] :: l.drop (i + 1) := List.drop_eq_getElem_cons hl
    have d2 : m.drop i = m[i] :: m.drop (i + 1) := List.drop_eq_getElem_cons hm
    have r1 : rd l (i : Int) = l[i] := by simp [rd, List.getD_eq_getElem?_getD, List.getElem?_eq_getElem hl]
    have r2 : rd m (i : Int) = m[i] := by simp [rd, List.getD_eq_getElem?_getD, List.getElem?_eq_getElem hm]
    rw [slices_Equal_byte_byte.l0, if_pos (by omega), if_pos (by omega), if_pos (by omega), if_pos (by omega), r1, r2, w1, ih (i + 1) k (by omega) (by omega)]
    have key : (l.drop i = m.drop i) ↔ (l[i] = m[i] ∧ l.drop (i + 1) = m.drop (i + 1)) := by rw [d1, d2, List.cons.injEq]
    by_cases h : l[i] = m[i]
    · rw [if_pos h]
      congr 1
      exact decide_eq_decide.2 ⟨fun x => key.2 ⟨h, x⟩, fun x => (key.1 x).2⟩
    · rw [if_neg h, decide_eq_false (fun x => h (key.1 x).1)]

theorem equal_is (l m : List Int) (e : l.length = m.length) (h : l.length ≤ 1000000) (k : Nat) (hk : l.length < k) : slices_Equal_byte_byte.f k l m = some (decide (l = m)) := by
  unfold slices_Equal_byte_byte.f
  rw [if_pos (by omega)]
  exact equal_loop l m e h l.length 0 k (by omega) hk

theorem be_inj {op op' A A' : Int} {w : Nat} (hw : w = 0 ∨ w = 1 ∨ w = 2 ∨ w = 4) (h : fitS op A w = true) (h' : fitS op' A' w = true) (e : be A w = be A' w) : A = A' := by
  rcases hw with rfl | rfl | rfl | rfl
  · simp [fitS] at h h'; omega
  · simp [fitS] at h h'
    simp [be] at e; omega
  · simp [fitS] at h h'
    simp only [be, List.cons.injEq, and_true, Int.pow_zero, Int.pow_succ] at e; omega
  · simp [fitS] at h h'
    simp only [be, List.cons.injEq, and_true, Int.pow_zero, Int.pow_succ] at e; omega

theorem name_op : ∀ n : Fin 34, ∃ t, code_Name.f (n.val : Int) = some t ∧ code_Op.f 40 t = some ((n.val : Int), true) := by
  have h : ∀ n : Fin 34, ((code_Name.f (n.val : Int)).bind fun t => code_Op.f 40 t) = some ((n.val : Int), true) := by decide +kernel
  intro n
  exact Option.bind_eq_some_iff.1 (h n)

theorem op_text {t t' : ByteArray} (h : t.toList = t'.toList) (k : Nat) : code_Op.f k t = code_Op.f k t' := by
  have key : ∀ (k : Nat) (ws : List ByteArray) (n i : Int), slices_Index_string_string.l0 k ws t n i = slices_Index_string_string.l0 k ws t' n i := by
    intro k
    induction k with
    | zero => intro ws n i; rfl
    | succ k ih => intro ws n i; rw [slices_Index_string_string.l0, slices_Index_string_string.l0, h, ih]
  unfold code_Op.f slices_Index_string_string.f
  simp only [key]

/-- The bytes of instructions that may be. -/
theorem bytes_of {op A B : Int} (h1 : op < 34) (ha : fitS op A (wA op) = true) (hb : fitS op B (wB op) = true) :
    encodeS op A B = (op :: (be A (wA op) ++ be B (wB op)), 0) := encode_of h1 ha hb

theorem apart {op A B op' A' B' : Int} (ha : fitS op A (wA op) = true) (hb : fitS op B (wB op) = true) (ha' : fitS op' A' (wA op') = true) (hb' : fitS op' B' (wB op') = true) (n : Nat)
    (hn : n = min (op :: (be A (wA op) ++ be B (wB op))).length (op' :: (be A' (wA op') ++ be B' (wB op'))).length) :
    decide ((op :: (be A (wA op) ++ be B (wB op))).take n = (op' :: (be A' (wA op') ++ be B' (wB op'))).take n) = ((0 : Int) == 0 && (op == op' && (A == A' && B == B'))) := by
  by_cases h : op = op'
  · subst h
    have e : (op :: (be A (wA op) ++ be B (wB op))).length = (op :: (be A' (wA op) ++ be B' (wB op))).length := by simp [be_length]
    rw [← e, Nat.min_self] at hn
    rw [List.take_of_length_le (by omega), List.take_of_length_le (by omega)]
    by_cases hA : A = A'
    · by_cases hB : B = B'
      · simp [hA, hB]
      · have : ¬ (op :: (be A (wA op) ++ be B (wB op)) = op :: (be A' (wA op) ++ be B' (wB op))) := by
          intro x
          simp only [List.cons.injEq, true_and, hA] at x
          exact hB (be_inj (by have := wB_cases op; omega) hb hb' (List.append_cancel_left x))
        rw [decide_eq_false this]; simp [hB]
    · have : ¬ (op :: (be A (wA op) ++ be B (wB op)) = op :: (be A' (wA op) ++ be B' (wB op))) := by
        intro x
        simp only [List.cons.injEq, true_and] at x
        have x2 := (List.append_inj x (by simp [be_length])).1
        exact hA (be_inj (wA_cases op) ha ha' x2)
      rw [decide_eq_false this]; simp [hA]
  · obtain ⟨m, rfl⟩ : ∃ m, n = m + 1 := ⟨n - 1, by simp at hn; omega⟩
    have : ¬ ((op :: (be A (wA op) ++ be B (wB op))).take (m + 1) = (op' :: (be A' (wA op') ++ be B' (wB op'))).take (m + 1)) := by
      rw [List.take_succ_cons, List.take_succ_cons]
      intro x
      simp only [List.cons.injEq] at x
      exact h x.1
    rw [decide_eq_false this]; simp [h]

theorem law_of (k : Nat) (q A B q' A' B' : Int) (bs cs : List Int) (t t' : ByteArray) (hk : 20 ≤ k) (hbs : bs.length ≤ 6) (hcs : cs.length ≤ 6)
    (n1 : code_Name.f q = some t) (n2 : code_Name.f q' = some t') (hd : q ≠ q' → t.toList ≠ t'.toList)
    (hap : decide (bs.take (min bs.length cs.length) = cs.take (min bs.length cs.length)) = ((0 : Int) == 0 && (q == q' && (A == A' && B == B')))) :
    provisolaw04_CodeApart.j0 (k + 1) bs cs false 0 q A B 0 q' A' B' = some true := by
  have e1 : mn (bs.length : Int) (cs.length : Int) = ((min bs.length cs.length : Nat) : Int) := by unfold mn; split <;> omega
  have g1 : (0 : Int) ≤ ((min bs.length cs.length : Nat) : Int) := by omega
  have g2 : ((min bs.length cs.length : Nat) : Int) ≤ (bs.length : Int) := by omega
  have g3 : ((min bs.length cs.length : Nat) : Int) ≤ (cs.length : Int) := by omega
  have eq : slices_Equal_byte_byte.f k (bs.take (min bs.length cs.length)) (cs.take (min bs.length cs.length)) = some ((0 : Int) == 0 && (q == q' && (A == A' && B == B'))) := by
    rw [equal_is _ _ (by rw [List.length_take, List.length_take]; omega) (by rw [List.length_take]; omega) k (by rw [List.length_take]; omega), hap]
  rw [provisolaw04_CodeApart.j0, if_neg (by decide), e1, Int.toNat_natCast]
  by_cases h : q = q'
  · rw [if_pos h, if_pos g1, if_pos g2, if_pos g3, bind_eq eq]
    simp
  · rw [if_neg h, bind_eq n1, bind_eq n2, if_neg (hd h), if_pos g1, if_pos g2, if_pos g3, bind_eq eq]
    simp

theorem name_at {q : Int} (h0 : 0 ≤ q) (h1 : q < 34) : ∃ t, code_Name.f q = some t ∧ code_Op.f 40 t = some (q, true) := by
  have := name_op ⟨q.toNat, by omega⟩
  rwa [show (((⟨q.toNat, by omega⟩ : Fin 34).val : Nat) : Int) = q by simp; omega] at this

theorem CodeApart (a0 a1 a2 a3 b0 b1 b2 b3 : Int) (ha : (Lit.int .u8 a1).wf = true) (hb : (Lit.int .u8 b1).wf = true) : ∃ k, provisolaw04_CodeApart.f k a0 a1 a2 a3 b0 b1 b2 b3 = some true := by
  obtain ⟨hx0, hx1⟩ := u8_range ha
  obtain ⟨hy0, hy1⟩ := u8_range hb
  obtain ⟨q, hq⟩ : ∃ q, q = a1 % 34 := ⟨_, rfl⟩
  obtain ⟨q', hq'⟩ : ∃ q', q' = b1 % 34 := ⟨_, rfl⟩
  have f1 := fit_X q a2 a3
  have f2 := fit_Y q a3
  have f3 := fit_X q' b2 b3
  have f4 := fit_Y q' b3
  obtain ⟨A, hA⟩ : ∃ A, A = fitX q a2 a3 := ⟨_, rfl⟩
  obtain ⟨B, hB⟩ : ∃ B, B = fitY q a3 := ⟨_, rfl⟩
  obtain ⟨A', hA'⟩ : ∃ A', A' = fitX q' b2 b3 := ⟨_, rfl⟩
  obtain ⟨B', hB'⟩ : ∃ B', B' = fitY q' b3 := ⟨_, rfl⟩
  rw [← hA] at f1; rw [← hB] at f2; rw [← hA'] at f3; rw [← hB'] at f4
  have hq0 : 0 ≤ q ∧ q < 34 := by omega
  have hq0' : 0 ≤ q' ∧ q' < 34 := by omega
  obtain ⟨t, n1, o1⟩ := name_at hq0.1 hq0.2
  obtain ⟨t', n2, o2⟩ := name_at hq0'.1 hq0'.2
  have hd : q ≠ q' → t.toList ≠ t'.toList := by
    intro hne hl
    rw [op_text hl 40, o2] at o1
    simp only [Option.some.injEq, Prod.mk.injEq] at o1
    exact hne o1.1.symm
  obtain ⟨k, hk⟩ : ∃ k : Nat, k = 39 := ⟨39, rfl⟩
  have o1' : code_Op.f (k + 1) t = some (q, true) := by rw [hk]; exact o1
  refine ⟨k + 1, ?_⟩
  have E1 : code_Encode.f (k + 1) 0 q A B = some (encodeS q A B) := encode_is 0 q A B hq0.1 (by omega) (k + 1) (by omega)
  have E2 : code_Encode.f (k + 1) 0 q' A' B' = some (encodeS q' A' B') := encode_is 0 q' A' B' hq0'.1 (by omega) (k + 1) (by omega)
  rw [bytes_of hq0.2 f1 f2] at E1
  rw [bytes_of hq0'.2 f3 f4] at E2
  have hap := apart f1 f2 f3 f4 _ rfl
  have hl1 : (q :: (be A (wA q) ++ be B (wB q))).length ≤ 6 := by have := wA_le q; have := wB_le q; simp [be_length]; omega
  have hl2 : (q' :: (be A' (wA q') ++ be B' (wB q'))).length ≤ 6 := by have := wA_le q'; have := wB_le q'; simp [be_length]; omega
  have p1 : ¬ (((q :: (be A (wA q) ++ be B (wB q))).length : Int) = 0) := by simp; omega
  have p2 : ¬ (((q' :: (be A' (wA q') ++ be B' (wB q'))).length : Int) = 0) := by simp; omega
  obtain ⟨bs, hbs⟩ : ∃ bs, bs = q :: (be A (wA q) ++ be B (wB q)) := ⟨_, rfl⟩
  obtain ⟨cs, hcs⟩ : ∃ cs, cs = q' :: (be A' (wA q') ++ be B' (wB q')) := ⟨_, rfl⟩
  rw [← hbs] at E1 hap hl1 p1
  rw [← hcs] at E2 hap hl2 p2
  have F1 := fit_is (k + 1) a0 a1 a2 a3 hx0 hx1
  have F2 := fit_is (k + 1) b0 b1 b2 b3 hy0 hy1
  rw [← hq, ← hA, ← hB] at F1
  rw [← hq', ← hA', ← hB'] at F2
  have L := law_of k q A B q' A' B' bs cs t t' (by omega) hl1 hl2 n1 n2 hd hap
  unfold provisolaw04_CodeApart.f
  rw [bind_eq F1, bind_eq F2, bind_eq E1, bind_eq E2, bind_eq n1, bind_eq o1', if_pos rfl, if_pos rfl, if_neg p1, if_neg p2, if_pos rfl]
  have e : (q != q) = false := by simp
  rw [e]
  exact L

theorem Apart (a0 a1 a2 a3 b0 b1 b2 b3 : Int) (w : World) (_ : (Lit.int .i64 a0).wf = true) (ha : (Lit.int .u8 a1).wf = true) (_ : (Lit.int .i64 a2).wf = true) (_ : (Lit.int .i64 a3).wf = true) (_ : (Lit.int .i64 b0).wf = true) (hb : (Lit.int .u8 b1).wf = true) (_ : (Lit.int .i64 b2).wf = true) (_ : (Lit.int .i64 b3).wf = true) :
    Calls Try.prog 7 #[.agg #[.int .i64 a0, .int .u8 a1, .int .i64 a2, .int .i64 a3], .agg #[.int .i64 b0, .int .u8 b1, .int .i64 b2, .int .i64 b3]] w fun e w' => e = .returned (.bool true) ∧ Below w.heap.size w w' := by
  obtain ⟨k, hk⟩ := CodeApart a0 a1 a2 a3 b0 b1 b2 b3 ha hb
  exact provisolaw04_CodeApart.calls k a0 a1 a2 a3 b0 b1 b2 b3 true w hk
end Go.Proofs.Ytcfpiamdkdedlaa.PCodeApartEnc
