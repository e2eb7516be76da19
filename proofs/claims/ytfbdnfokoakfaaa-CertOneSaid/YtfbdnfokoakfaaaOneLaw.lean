/- provisolaw06.CertOne: its walk. -/
import Derived.Test.YtfbdnfokoakfaaaDecodeC
import Derived.Test.YtfbdnfokoakfaaaReadsLaw
namespace Go.Proofs.Ytfbdnfokoakfaaa.Ct
open Go.RowKit Go.Proofs.YtfbdnfokoakfaaaW.PrintWords Go.Proofs.YtfbdnfokoakfaaaW.PrintLast Go.Proofs.YtfbdnfokoakfaaaW.PrintMore Go.Proofs.Ytfbdnfokoakfaaa.CloneC
set_option linter.unusedVariables false
set_option linter.unusedSimpArgs false

def lit9 : List Int := [112, 118, 1, 0, 0, 1, 0, 9, 0]
def en9 : En := ⟨9, true, fr0⟩
theorem lit9_head : headS lit9 = .inr (0, 1) := by kernel_rfl
theorem lit9_next : nextS lit9 (gB lit9 3) ⟨6, -1, 1, 0, 0⟩ = ((en9, true, 0), ⟨9, 9, 0, 0, 0⟩) := by kernel_rfl
theorem lit9_bytes : ∀ x, x ∈ lit9 → 0 ≤ x ∧ x ≤ 255 := by
  intro x hx
  simp [lit9] at hx
  omega

structure OlSt (w W : World) (g g7 : Nat) (A A7 : Option Addr) (c c7 n : Nat) (b : List Int) (L7 : Int) (l7 : List En) (r : RdS) : Prop where
  rd : RdB W g A c b n r
  b7 : W.heap[g7]? = some (.cells #[.int .i64 L7, .slice A7 l7.length c7] 24 (0, 0))
  r7 : Kd.R kEn 44 W w.heap.size (fun _ => True) (.slice A7 l7.length c7) l7
  below : Below w.heap.size w W
theorem OlSt.next {w W W1 : World} {g g7 : Nat} {A A7 : Option Addr} {c c7 n : Nat} {b : List Int} {L7 : Int} {l7 : List En} {r : RdS} (h : OlSt w W g g7 A A7 c c7 n b L7 l7 r) (hb : Below W.heap.size W W1) : OlSt w W1 g g7 A A7 c c7 n b L7 l7 r :=
  ⟨h.rd.next hb, blk_below h.b7 hb, Kd.R_below h.r7 hb, below_then h.below h.below.size hb⟩
theorem OlSt.after {w W W1 : World} {g g7 : Nat} {A A7 : Option Addr} {c c7 n : Nat} {b : List Int} {L7 : Int} {l7 : List En} {r r' : RdS} (h : OlSt w W g g7 A A7 c c7 n b L7 l7 r) (hg : w.heap.size ≤ g) (hn : Nx W g W1 (rdC A c b n r')) (hp : r'.at_ ≤ b.length) : OlSt w W1 g g7 A A7 c c7 n b L7 l7 r' :=
  ⟨h.rd.after hn hp, (hn.but.block _ (blk_lt h.b7) (fun e => blk_ne h.b7 h.rd.a (by decide) (by injection e))).trans h.b7, R_nx (w := w) h.r7 h.rd.a hn (by show ¬ (37 : Nat) ∈ ([44] : List Nat); decide), h.below.grown hn.but h.below.size (fun k e => by injection e with e; omega)⟩
theorem oneS_three (b : List Int) (L : Int) (p : Nat) (last : Int) (x : En) (q : Nat) (h : oneS b L p last = .inr (x, q)) : p + 3 ≤ q := by
  unfold oneS at h
  by_cases c1 : b.length < p + 2
  · rw [if_pos c1] at h; cases h
  rw [if_neg c1] at h
  by_cases c2 : risesS last (gB b p * 256 + gB b (p + 1)) ≠ 0
  · rw [if_pos c2] at h; cases h
  rw [if_neg c2] at h
  by_cases c3 : p + 2 = b.length
  · rw [if_pos c3] at h; cases h
  rw [if_neg c3] at h
  by_cases c4 : 1 < gB b (p + 2)
  · rw [if_pos c4] at h; cases h
  rw [if_neg c4] at h
  by_cases c5 : gB b (p + 2) = 0
  · rw [if_pos c5] at h
    cases h
    omega
  rw [if_neg c5] at h
  by_cases c6 : p + 3 = b.length
  · rw [if_pos c6] at h; cases h
  rw [if_neg c6] at h
  by_cases c7 : 24 < L + gB b (p + 3)
  · rw [if_pos c7] at h; cases h
  rw [if_neg c7] at h
  cases hs : slotsS b (L + gB b (p + 3)).toNat (p + 4) with
  | some y => rw [hs] at h; cases h
  | none => rw [hs] at h; cases h; omega

set_option maxHeartbeats 16000000 in
set_option maxRecDepth 100000 in
theorem one_law (A : Option Addr) (c : Nat) (b : List Int) (w : World) (h : ByR w A c b) : Calls Try.prog 6 #[.slice A b.length c] w fun e w' => e = .returned (.bool true) ∧ Below w.heap.size w w' := by
  have HB := Lib.hid h
  have hl48 := h.l
  have HD1 := Lib.hid (fun W (hb : Below w.heap.size w W) => decode_c A c b W (h.next hb))
  unfold DcPost at HD1
  have HOp := Lib.hid (fun W (hb : Below w.heap.size w W) => openP_c A c b W (h.next hb))
  obtain ⟨L7, hL7⟩ : ∃ L7, L7 = decL b := ⟨_, rfl⟩
  obtain ⟨l7, hl7⟩ : ∃ l7, l7 = decE b := ⟨_, rfl⟩
  obtain ⟨l0, es0, ⟨p, q⟩, hto⟩ : ∃ l es x, toldS b = (l, es, x) := ⟨_, _, _, rfl⟩
  rw [hto, ← hL7, ← hl7] at HD1
  have HL7 : Hid (q = 0 → l7 = l0) := Lib.hid (fun hq => by rw [hl7]; unfold decE; rw [hto]; exact if_pos hq)
  have hY9 : ByR (w.alloc (.cells (nums .u8 lit9).toArray 5)) (some ⟨w.heap.size, 0, none⟩) lit9.length lit9 := byR_block lit9 (blk_new w _) lit9_bytes (by decide)
  have HY9 := Lib.hid hY9
  have HE9 : Hid (∀ W e w', OpPost2 lit9 (some ⟨w.heap.size, 0, none⟩) 9 W e w' → ∃ g, e = .returned (.tuple #[.pointer (some ⟨g, 0, none⟩), .int .i64 0]) ∧ W.heap.size ≤ g ∧
      w'.heap[g]? = some (.cells (rdC (some ⟨w.heap.size, 0, none⟩) 9 lit9 1 ⟨6, -1, 1, 0, 0⟩) 37 (0, 0)) ∧ Below W.heap.size W w') := Lib.hid (fun W e w' he => by
    unfold OpPost2 at he
    rw [lit9_head] at he
    exact he)
  have HN9 : Hid (∀ W g e w', NxPost W g (some ⟨w.heap.size, 0, none⟩) 9 lit9 1 ⟨6, -1, 1, 0, 0⟩ e w' → e = .returned (.tuple #[.agg (enC en9).toArray, .bool true, .int .i64 0]) ∧ Nx W g w' (rdC (some ⟨w.heap.size, 0, none⟩) 9 lit9 1 ⟨9, 9, 0, 0, 0⟩)) := Lib.hid (fun W g e w' he => by
    unfold NxPost at he
    rw [lit9_next] at he
    exact he)
  have HTo := Lib.hid hto
  clear h hL7 hl7 hto hY9
  go_enter Try.func6, Try.ntmps6
  go_wp2_with fail
  refine (show Calls Try.prog 24 #[.slice (some ⟨w.heap.size, 0, none⟩) 9 9] (w.alloc (.cells (nums .u8 lit9).toArray 5)) _ from openP_c (some ⟨w.heap.size, 0, none⟩) 9 lit9 _ HY9.out).mono ?_
  intro e w1 he
  obtain ⟨g9, rfl, hg9, hg9a, hb1⟩ := HE9.out _ e w1 he
  have HR9 : Hid (RdB w1 g9 (some ⟨w.heap.size, 0, none⟩) 9 lit9 1 ⟨6, -1, 1, 0, 0⟩) := Lib.hid ⟨hg9a, HY9.out.next hb1, by decide, by decide, by decide⟩
  have HG9 : Hid (w.heap.size ≤ g9) := Lib.hid (by rw [World.size_alloc] at hg9; omega)
  have HB1 := Lib.hid (below_then (below_alloc (Below.refl w.heap.size w) (.cells (nums .u8 lit9).toArray 5)) (by simp) hb1)
  clear he hg9 hg9a hb1 HE9 HY9
  go_wp2_with fail
  refine (next_c g9 _ 9 lit9 1 _ w1 HR9.out (by decide)).mono ?_
  intro e w2 he
  obtain ⟨rfl, hnx⟩ := HN9.out _ _ e w2 he
  have HB2 : Hid (Below w.heap.size w w2) := Lib.hid (HB1.out.grown hnx.but HB1.out.size (fun k e => by injection e with e; have := HG9.out; omega))
  clear he hnx HN9 HR9 HG9
  go_upto_region 5 with (first | ((with_reducible refine gate_dst (N := 5) rfl ?_); refine wpList_alloc_box rfl rfl ?_; intro W3 hW3 hbe3 hs3) | ((with_reducible refine gate_store (t := 44) (p := 5) rfl ?_); refine wpList_store_box rfl (.tmp 5) (.tmp 29) rfl w2.heap.size hW3 fr0_wf en9 fr0_wf rfl rfl ?_; intro W4 hW4 ho4))
  have hb4 := below_only hbe3 ho4 (Nat.le_refl _)
  have H5 := Lib.hid (rng_of (range_blk hW4))
  have HB4 := Lib.hid (below_then HB2.out HB2.out.size hb4)
  clear hW4 ho4 hW3 hbe3 hs3 hb4 HB2 HB1
  go_upto_region 7 with (first | ((with_reducible refine gate_dst (N := 39) rfl ?_); refine gate_guard (by rfl) ?_; refine wpList_load_any rfl 44 (.tmp 5) rfl ⟨w2.heap.size, 0, none⟩ rfl (enC en9) _ H5.out Try.underlying44 rfl (by rw [enC_len fr0_wf]; kernel_rfl) ?_) | ((with_reducible refine gate_dst (N := 41) rfl ?_); refine gate_guard (by rfl) ?_; refine Kd.event_run rfl (run_neq44 (f := en9) (g := en9) rfl rfl rfl fr0_wf fr0_wf _) ?_; rw [eqE_self]))
  clear H5
  go_wp2_with fail
  refine (HD1.out _ HB4.out).mono ?_
  rintro e w5 ⟨v7, rfl, hr7, hb5⟩
  obtain ⟨A7, c7, rfl, hc7, _⟩ := Kd.R_reads hr7
  obtain ⟨W5, hW5⟩ : ∃ W5, W5 = w5.alloc (.cells #[.int .i64 L7, .slice A7 l7.length c7] 24) := ⟨_, rfl⟩
  obtain ⟨g7, hg7⟩ : ∃ g7, g7 = w5.heap.size := ⟨_, rfl⟩
  have hbb : Below w5.heap.size w5 W5 := by rw [hW5]; exact below_alloc (Below.refl _ _) _
  have H7 := Lib.hid (show W5.heap[g7]? = some (.cells #[.int .i64 L7, .slice A7 l7.length c7] 24 (0, 0)) by rw [hW5, hg7]; exact blk_new w5 _)
  have HR7 := Lib.hid (Kd.R_lower (Kd.R_below hr7 hbb) HB4.out.size)
  have HB5 := Lib.hid (below_then HB4.out HB4.out.size (below_then hb5 hb5.size hbb))
  clear hr7 hb5 hc7 HB4 HD1
  go_upto_region 8 with (fail)
  rw [← hg7, ← hW5]
  clear hW5 hg7 hbb
  cases hh : headS b with
  | inl x =>
    have HE : Hid (∀ W e w', OpPost2 b A c W e w' → e = .returned (.tuple #[.pointer none, .int .i64 q]) ∧ Below W.heap.size W w') := Lib.hid (fun W e w' he => by
      have hT : toldS b = ([], [], (x.1, (x.2 : Int))) := by unfold toldS; rw [hh]
      have hq : q = (x.2 : Int) := by
        have := hT.symm.trans HTo.out
        injection this with _ this
        injection this with _ this
        injection this with _ this
        exact this.symm
      unfold OpPost2 at he
      rw [hh] at he
      rw [hq]
      exact he)
    have hq0 : q ≠ 0 := by
      have hT : toldS b = ([], [], (x.1, (x.2 : Int))) := by unfold toldS; rw [hh]
      have := headS_err b x hh
      have h2 := hT.symm.trans HTo.out
      injection h2 with _ h2
      injection h2 with _ h2
      injection h2 with _ h2
      rw [← h2]
      exact this
    have d0 : (q != 0) = true := by simpa using hq0
    clear hh hq0
    go_wp2_with (first | (go_at_call 24; refine (HOp.out _ HB5.out).mono ?_; intro e w6 he; obtain ⟨rfl, hb6⟩ := HE.out _ e w6 he; clear he; have HB6 := Lib.hid hb6; clear hb6))
    go_ret
    exact ⟨by first | rfl | simp, below_then HB5.out HB5.out.size HB6.out⟩
  | inr x =>
    obtain ⟨L, n⟩ := x
    have hg := headS_ok b HB.out.y (L, n) hh
    have hL : 0 ≤ L ∧ L ≤ 16 := hg.2.1
    have hLg : L = gB b 3 := hg.2.2.1
    have hn : n ≤ 4096 := hg.2.2.2
    have h6 : 6 ≤ b.length := hg.1
    have HE : Hid (∀ W e w', OpPost2 b A c W e w' → ∃ g, e = .returned (.tuple #[.pointer (some ⟨g, 0, none⟩), .int .i64 0]) ∧ W.heap.size ≤ g ∧
        w'.heap[g]? = some (.cells (rdC A c b n ⟨6, -1, n, 0, 0⟩) 37 (0, 0)) ∧ Below W.heap.size W w') := Lib.hid (fun W e w' he => by
      unfold OpPost2 at he
      rw [hh] at he
      exact he)
    have HLg := Lib.hid hLg
    have HTd : Hid (toldF b L n 6 (-1) = (l0, es0, (p, q))) := Lib.hid (by
      have : toldS b = toldF b L n 6 (-1) := by unfold toldS; rw [hh]
      rw [← this, HTo.out])
    have hln0 : l0.length ≤ n := by have := (told_len b L n 6 (-1)).2; rw [HTd.out] at this; exact this
    have HLn := Lib.hid hln0
    clear hh hg hLg hln0
    go_wp2_with fail
    refine (HOp.out _ HB5.out).mono ?_
    intro e w6 he
    obtain ⟨g, rfl, hg1, hg2, hb6⟩ := HE.out _ e w6 he
    have HG : Hid (w.heap.size ≤ g) := Lib.hid (Nat.le_trans HB5.out.size hg1)
    have St0 : Hid (OlSt w w6 g g7 A A7 c c7 n b L7 l7 ⟨6, -1, n, 0, 0⟩) := Lib.hid ⟨⟨hg2, (HB.out.next HB5.out).next hb6, h6, h6, by rw [← HLg.out]; exact hL.2⟩, blk_below H7.out hb6, Kd.R_below HR7.out hb6, below_then HB5.out HB5.out.size hb6⟩
    clear he hg1 hg2 hb6 HOp HE HB5 HR7 H7
    go_wp2
    go_loopg [11] (n + 1) (fun k v11 W => ∃ (i : Nat) (r : RdS) (es : List Int), v11 = .int .i64 (i : Int) ∧ r.left + 1 = k ∧ r.left ≤ n ∧ 3 * i + 6 ≤ r.at_ ∧ r.at_ ≤ b.length ∧ i ≤ l0.length ∧ Hid (OlSt w W g g7 A A7 c c7 n b L7 l7 r) ∧ Hid (r.e = 0 ∧ toldF b L r.left r.at_ r.last = (l0.drop i, es, (p, q))))
    case atStart => exact ⟨0, _, es0, rfl, rfl, Nat.le_refl _, Nat.le_refl _, h6, Nat.zero_le _, St0, Lib.hid ⟨rfl, HTd.out⟩⟩
    case round =>
      obtain ⟨i, r, es, rfl, hk, hln, h3i, hat, hil, St, HT⟩ := hrel
      obtain ⟨k, rfl⟩ : ∃ k, gk = k + 1 := ⟨gk - 1, by omega⟩
      have HN := Lib.hid (next_c g A c b n r wr St.out.rd (by omega))
      have hle48 : i ≤ b.length := by omega
      clear St0
      by_cases hlt : i < l0.length
      · obtain ⟨he, htf⟩ := HT.out
        rw [List.drop_eq_getElem_cons hlt] at htf
        obtain ⟨q2, es', hes, hone, hnx1, htl⟩ := told_more b L r _ _ _ _ he htf
        have hnext := oneS_next b L r.at_ r.last _ q2 hL.1 St.out.rd.y.y hone
        have hthree := oneS_three b L r.at_ r.last _ q2 hone
        have hqb := hnext.2.1
        have hwf := hnext.2.2
        obtain ⟨y, hy⟩ : ∃ y, y = l0[i] := ⟨_, rfl⟩
        rw [← hy] at hnx1 htl hwf
        have HE : Hid (∀ e w', NxPost wr g A c b n r e w' → e = .returned (.tuple #[.agg (enC y).toArray, .bool true, .int .i64 0]) ∧ Nx wr g w' (rdC A c b n { r with at_ := q2, last := y.at_, left := r.left - 1 })) := Lib.hid (fun e w' he => by
          unfold NxPost at he
          rw [← HLg.out, hnx1] at he
          exact he)
        have HW := Lib.hid hwf
        have HY := Lib.hid hy
        have hleft : 0 < r.left := by
          rcases Nat.eq_zero_or_pos r.left with h | h
          · rw [h, toldF] at htf
            have := congrArg (fun t => t.1) htf
            cases this
          · exact h
        have HTn : Hid (r.e = 0 ∧ toldF b L (r.left - 1) q2 y.at_ = (l0.drop (i + 1), es', (p, q))) := Lib.hid ⟨he, htl⟩
        clear hes hone hnext hnx1 htl htf he hwf hy HT
        go_upto_region 14 with (first | (go_at_call 20; refine HN.out.mono ?_; intro e w8 he; obtain ⟨rfl, hnx⟩ := HE.out e w8 he; clear he; have HNX := Lib.hid hnx; clear hnx) | ((with_reducible refine gate_dst (N := 12) rfl ?_); refine wpList_alloc_box rfl rfl ?_; intro W6 hW6 hbe6 hs6) | ((with_reducible refine gate_store (t := 44) (p := 12) rfl ?_); refine wpList_store_box rfl (.tmp 12) (.tmp 68) rfl w8.heap.size hW6 fr0_wf y HW.out rfl rfl ?_; intro W7 hW7 ho7))
        have St7 : OlSt w W7 g g7 A A7 c c7 n b L7 l7 { r with at_ := q2, last := y.at_, left := r.left - 1 } := (St.out.after HG.out HNX.out hqb).next (below_only hbe6 ho7 (Nat.le_refl _))
        obtain ⟨k12, hk12⟩ : ∃ k12, k12 = w8.heap.size := ⟨_, rfl⟩
        rw [← hk12] at hW7 ⊢
        have hb12 : Rng W7.drew ⟨k12, 0, none⟩ (enC y) := rng_of (range_blk hW7)
        have hc7 : W7.drew.cell? ⟨g7, 1, none⟩ = some (.slice A7 l7.length c7) := blk_cell St7.b7 1
        have HS7 := Lib.hid St7
        clear hk12 hW7 ho7 hW6 hbe6 hs6 HNX HN HE St
        go_upto_region 16 with (fail)
        have hA : ¬ b.length < i := by omega
        by_cases hz : q = 0
        · have hl7 := HL7.out hz
          have d1 : (q == 0) = true := by simpa using hz
          subst hl7
          clear hz
          obtain ⟨ad7, rfl, _, hr7⟩ := at_en (Kd.R_reads' St7.r7).2.2 i hlt
          rw [show l7.getD i en0 = y by rw [HY.out, List.getD_eq_getElem?_getD, List.getElem?_eq_getElem hlt]; rfl] at hr7
          have hr7' : Rng W7.drew (ad7.add (i * 28)) (enC y) := hr7
          have hge : ¬ l7.length ≤ i := by omega
          clear St7 hr7
          refine start_ (n := 28) (S := fun W => Rng W ⟨k12, 0, none⟩ (enC y) ∧ Rng W (ad7.add (i * 28)) (enC y) ∧ W.cell? ⟨g7, 1, none⟩ = some (.slice (some ad7) l7.length c7)) (ds := []) #[false, false, false, false, false, false, false, false, false, false, false, false, false, false, false, false, false, false, false, false, false, false, false, false, false, false, false, false] (by kernel_rfl) rfl rfl ⟨hb12, hr7', hc7⟩ (fun hHeld => ?_)
          refine pure_ (i := 0) (N := some 87) (v := ?_) (a' := ?_) #[true, false, false, false, false, false, false, false, false, false, false, false, false, false, false, false, false, false, false, false, false, false, false, false, false, false, false, false] rfl rfl (by kernel_rfl) (fun _ _ _ h => h) (Or.inl ⟨by rfl, ?_⟩) ?_ ?_
          rotate_left
          · intro w_
            go_simp
            with_reducible rfl
          rotate_left
          · simp only [Act.put, List.setIfInBounds_toArray, List.set_cons_zero, List.set_cons_succ]
            rfl
          refine pure_ (i := 1) (N := some 88) (v := ?_) (a' := ?_) #[true, true, false, false, false, false, false, false, false, false, false, false, false, false, false, false, false, false, false, false, false, false, false, false, false, false, false, false] rfl rfl (by kernel_rfl) (fun _ _ _ h => h) (Or.inl ⟨by rfl, ?_⟩) ?_ ?_
          rotate_left
          · intro w_
            go_simp
            with_reducible rfl
          rotate_left
          · simp only [Act.put, List.setIfInBounds_toArray, List.set_cons_zero, List.set_cons_succ]
            rfl
          refine pure_ (i := 2) (N := some 89) (v := ?_) (a' := ?_) #[true, true, true, false, false, false, false, false, false, false, false, false, false, false, false, false, false, false, false, false, false, false, false, false, false, false, false, false] rfl rfl (by kernel_rfl) (fun _ _ _ h => h) (Or.inl ⟨by rfl, ?_⟩) ?_ ?_
          rotate_left
          · intro w_
            go_simp
            with_reducible rfl
          rotate_left
          · simp only [Act.put, List.setIfInBounds_toArray, List.set_cons_zero, List.set_cons_succ]
            rfl
          refine pure_ (i := 3) (N := some 90) (v := ?_) (a' := ?_) #[true, true, true, true, false, false, false, false, false, false, false, false, false, false, false, false, false, false, false, false, false, false, false, false, false, false, false, false] rfl rfl (by kernel_rfl) (fun _ _ _ h => h) (Or.inl ⟨by rfl, ?_⟩) ?_ ?_
          rotate_left
          · intro w_
            go_simp
            with_reducible rfl
          rotate_left
          · simp only [Act.put, List.setIfInBounds_toArray, List.set_cons_zero, List.set_cons_succ]
            rfl
          refine pure_ (i := 4) (N := some 91) (v := ?_) (a' := ?_) #[true, true, true, true, true, false, false, false, false, false, false, false, false, false, false, false, false, false, false, false, false, false, false, false, false, false, false, false] rfl rfl (by kernel_rfl) (fun _ _ _ h => h) (Or.inl ⟨by rfl, ?_⟩) ?_ ?_
          rotate_left
          · intro w_
            go_simp
            with_reducible rfl
          rotate_left
          · simp only [Act.put, List.setIfInBounds_toArray, List.set_cons_zero, List.set_cons_succ]
            rfl
          refine pure_ (i := 5) (N := some 92) (v := ?_) (a' := ?_) #[true, true, true, true, true, true, false, false, false, false, false, false, false, false, false, false, false, false, false, false, false, false, false, false, false, false, false, false] rfl rfl (by kernel_rfl) (fun _ _ _ h => h) (Or.inl ⟨by rfl, ?_⟩) ?_ ?_
          rotate_left
          · intro w_
            go_simp
            with_reducible rfl
          rotate_left
          · simp only [Act.put, List.setIfInBounds_toArray, List.set_cons_zero, List.set_cons_succ]
            rfl
          refine pure_ (i := 6) (N := some 93) (v := ?_) (a' := ?_) #[true, true, true, true, true, true, true, false, false, false, false, false, false, false, false, false, false, false, false, false, false, false, false, false, false, false, false, false] rfl rfl (by kernel_rfl) (fun _ _ _ h => h) (Or.inl ⟨by rfl, ?_⟩) ?_ ?_
          rotate_left
          · intro w_
            go_simp
            with_reducible rfl
          rotate_left
          · simp only [Act.put, List.setIfInBounds_toArray, List.set_cons_zero, List.set_cons_succ]
            rfl
          refine pure_ (i := 7) (N := some 94) (v := ?_) (a' := ?_) #[true, true, true, true, true, true, true, true, false, false, false, false, false, false, false, false, false, false, false, false, false, false, false, false, false, false, false, false] rfl rfl (by kernel_rfl) (fun _ _ _ h => h) (Or.inl ⟨by rfl, ?_⟩) ?_ ?_
          rotate_left
          · intro w_
            go_simp
            with_reducible rfl
          rotate_left
          · simp only [Act.put, List.setIfInBounds_toArray, List.set_cons_zero, List.set_cons_succ]
            rfl
          refine pure_ (i := 8) (N := some 95) (v := ?_) (a' := ?_) #[true, true, true, true, true, true, true, true, true, false, false, false, false, false, false, false, false, false, false, false, false, false, false, false, false, false, false, false] rfl rfl (by kernel_rfl) (fun _ _ _ h => h) (Or.inl ⟨by rfl, ?_⟩) ?_ ?_
          rotate_left
          · intro w_
            go_simp
            with_reducible rfl
          rotate_left
          · simp only [Act.put, List.setIfInBounds_toArray, List.set_cons_zero, List.set_cons_succ]
            rfl
          refine pure_ (i := 9) (N := some 96) (v := ?_) (a' := ?_) #[true, true, true, true, true, true, true, true, true, true, false, false, false, false, false, false, false, false, false, false, false, false, false, false, false, false, false, false] rfl rfl (by kernel_rfl) (fun _ _ _ h => h) (Or.inl ⟨by rfl, ?_⟩) ?_ ?_
          rotate_left
          · intro w_
            go_simp
            with_reducible rfl
          rotate_left
          · simp only [Act.put, List.setIfInBounds_toArray, List.set_cons_zero, List.set_cons_succ]
            rfl
          refine pure_ (i := 10) (N := some 97) (v := ?_) (a' := ?_) #[true, true, true, true, true, true, true, true, true, true, true, false, false, false, false, false, false, false, false, false, false, false, false, false, false, false, false, false] rfl rfl (by kernel_rfl) (fun _ _ _ h => h) (Or.inl ⟨by rfl, ?_⟩) ?_ ?_
          rotate_left
          · intro w_
            go_simp
            with_reducible rfl
          rotate_left
          · simp only [Act.put, List.setIfInBounds_toArray, List.set_cons_zero, List.set_cons_succ]
            rfl
          refine pure_ (i := 11) (N := some 98) (v := ?_) (a' := ?_) #[true, true, true, true, true, true, true, true, true, true, true, true, false, false, false, false, false, false, false, false, false, false, false, false, false, false, false, false] rfl rfl (by kernel_rfl) (fun _ _ _ h => h) (Or.inl ⟨by rfl, ?_⟩) ?_ ?_
          rotate_left
          · intro w_
            go_simp
            with_reducible rfl
          rotate_left
          · simp only [Act.put, List.setIfInBounds_toArray, List.set_cons_zero, List.set_cons_succ]
            rfl
          refine pure_ (i := 12) (N := some 99) (v := ?_) (a' := ?_) #[true, true, true, true, true, true, true, true, true, true, true, true, true, false, false, false, false, false, false, false, false, false, false, false, false, false, false, false] rfl rfl (by kernel_rfl) (fun _ _ _ h => h) (Or.inl ⟨by rfl, ?_⟩) ?_ ?_
          rotate_left
          · intro w_
            go_simp
            with_reducible rfl
          rotate_left
          · simp only [Act.put, List.setIfInBounds_toArray, List.set_cons_zero, List.set_cons_succ]
            rfl
          refine pure_ (i := 13) (N := some 100) (v := ?_) (a' := ?_) #[true, true, true, true, true, true, true, true, true, true, true, true, true, true, false, false, false, false, false, false, false, false, false, false, false, false, false, false] rfl rfl (by kernel_rfl) (fun _ _ _ h => h) (Or.inl ⟨by rfl, ?_⟩) ?_ ?_
          rotate_left
          · intro w_
            go_simp
            with_reducible rfl
          rotate_left
          · simp only [Act.put, List.setIfInBounds_toArray, List.set_cons_zero, List.set_cons_succ]
            rfl
          refine take_ (i := 14) (N := some 101) (v := ?_) (a' := ?_) #[true, true, true, true, true, true, true, true, true, true, true, true, true, true, true, false, false, false, false, false, false, false, false, false, false, false, false, false] rfl rfl (by kernel_rfl) (fun _ _ _ h => h) (Or.inl ⟨by rfl, ?_⟩) hHeld ?_ ?_
          rotate_left
          · intro w_ hS_
            have s2 := hS_.2.2
            go_simp
            with_reducible rfl
          rotate_left
          · simp only [Act.put, List.setIfInBounds_toArray, List.set_cons_zero, List.set_cons_succ]
            rfl
          refine pure_ (i := 15) (N := some 102) (v := ?_) (a' := ?_) #[true, true, true, true, true, true, true, true, true, true, true, true, true, true, true, true, false, false, false, false, false, false, false, false, false, false, false, false] rfl rfl (by kernel_rfl) (fun _ _ _ h => h) (Or.inl ⟨by rfl, ?_⟩) ?_ ?_
          rotate_left
          · intro w_
            go_simp
            with_reducible rfl
          rotate_left
          · simp only [Act.put, List.setIfInBounds_toArray, List.set_cons_zero, List.set_cons_succ]
            rfl
          refine pure_ (i := 16) (N := some 103) (v := ?_) (a' := ?_) #[true, true, true, true, true, true, true, true, true, true, true, true, true, true, true, true, true, false, false, false, false, false, false, false, false, false, false, false] rfl rfl (by kernel_rfl) (fun _ _ _ h => h) (Or.inl ⟨by rfl, ?_⟩) ?_ ?_
          rotate_left
          · intro w_
            go_simp
            with_reducible rfl
          rotate_left
          · simp only [Act.put, List.setIfInBounds_toArray, List.set_cons_zero, List.set_cons_succ]
            rfl
          refine pure_ (i := 17) (N := some 104) (v := ?_) (a' := ?_) #[true, true, true, true, true, true, true, true, true, true, true, true, true, true, true, true, true, true, false, false, false, false, false, false, false, false, false, false] rfl rfl (by kernel_rfl) (fun _ _ _ h => h) (Or.inl ⟨by rfl, ?_⟩) ?_ ?_
          rotate_left
          · intro w_
            go_simp
            with_reducible rfl
          rotate_left
          · simp only [Act.put, List.setIfInBounds_toArray, List.set_cons_zero, List.set_cons_succ]
            rfl
          refine pure_ (i := 19) (N := some 106) (v := ?_) (a' := ?_) #[true, true, true, true, true, true, true, true, true, true, true, true, true, true, true, true, true, true, false, true, false, false, false, false, false, false, false, false] rfl rfl (by kernel_rfl) (fun _ _ _ h => h) (Or.inl ⟨by rfl, ?_⟩) ?_ ?_
          rotate_left
          · intro w_
            go_simp
            with_reducible rfl
          rotate_left
          · simp only [Act.put, List.setIfInBounds_toArray, List.set_cons_zero, List.set_cons_succ]
            rfl
          refine pure_ (i := 21) (N := some 108) (v := ?_) (a' := ?_) #[true, true, true, true, true, true, true, true, true, true, true, true, true, true, true, true, true, true, false, true, false, true, false, false, false, false, false, false] rfl rfl (by kernel_rfl) (fun _ _ _ h => h) (Or.inl ⟨by rfl, ?_⟩) ?_ ?_
          rotate_left
          · intro w_
            go_simp
            with_reducible rfl
          rotate_left
          · simp only [Act.put, List.setIfInBounds_toArray, List.set_cons_zero, List.set_cons_succ]
            rfl
          refine take_ (i := 18) (N := some 105) (v := ?_) (a' := ?_) #[true, true, true, true, true, true, true, true, true, true, true, true, true, true, true, true, true, true, true, true, false, true, false, false, false, false, false, false] rfl rfl (by kernel_rfl) (fun _ _ _ h => h) (Or.inl ⟨by rfl, ?_⟩) hHeld ?_ ?_
          rotate_left
          · intro w_ hS_
            refine exec_load_any (ty := 44) (x := .tmp 12) (p := ⟨k12, 0, none⟩) (cs := enC y) ?_ ?_ hS_.1 Try.underlying44 rfl (by rw [enC_len HW.out]; kernel_rfl)
            · rfl
            · rfl
          rotate_left
          · simp only [Act.put, List.setIfInBounds_toArray, List.set_cons_zero, List.set_cons_succ]
            rfl
          refine take_ (i := 20) (N := some 107) (v := ?_) (a' := ?_) #[true, true, true, true, true, true, true, true, true, true, true, true, true, true, true, true, true, true, true, true, true, true, false, false, false, false, false, false] rfl rfl (by kernel_rfl) (fun _ _ _ h => h) (Or.inl ⟨by rfl, ?_⟩) hHeld ?_ ?_
          rotate_left
          · intro w_ hS_
            have s2 := hS_.2.2
            go_simp
            with_reducible rfl
          rotate_left
          · simp only [Act.put, List.setIfInBounds_toArray, List.set_cons_zero, List.set_cons_succ]
            rfl
          refine pure_ (i := 22) (N := some 109) (v := ?_) (a' := ?_) #[true, true, true, true, true, true, true, true, true, true, true, true, true, true, true, true, true, true, true, true, true, true, true, false, false, false, false, false] rfl rfl (by kernel_rfl) (fun _ _ _ h => h) (Or.inl ⟨by rfl, ?_⟩) ?_ ?_
          rotate_left
          · intro w_
            go_simp
            with_reducible rfl
          rotate_left
          · simp only [Act.put, List.setIfInBounds_toArray, List.set_cons_zero, List.set_cons_succ]
            rfl
          refine take_ (i := 23) (N := some 110) (v := ?_) (a' := ?_) #[true, true, true, true, true, true, true, true, true, true, true, true, true, true, true, true, true, true, true, true, true, true, true, true, false, false, false, false] rfl rfl (by kernel_rfl) (fun _ _ _ h => h) (Or.inl ⟨by rfl, ?_⟩) hHeld ?_ ?_
          rotate_left
          · intro w_ hS_
            refine exec_load_any (ty := 44) (x := .tmp 109) (p := ad7.add (i * 28)) (cs := enC y) ?_ ?_ hS_.2.1 Try.underlying44 rfl (by rw [enC_len HW.out]; kernel_rfl)
            · rfl
            · rfl
          rotate_left
          · simp only [Act.put, List.setIfInBounds_toArray, List.set_cons_zero, List.set_cons_succ]
            rfl
          refine pure_ (i := 24) (N := some 111) (v := ?_) (a' := ?_) #[true, true, true, true, true, true, true, true, true, true, true, true, true, true, true, true, true, true, true, true, true, true, true, true, true, false, false, false] rfl rfl (by kernel_rfl) (fun _ _ _ h => h) (Or.inl ⟨by rfl, ?_⟩) ?_ ?_
          rotate_left
          · intro w_
            refine (run_neq44 (x := .tmp 105) (y := .tmp 110) (f := y) (g := y) ?_ ?_ ?_ HW.out HW.out w_).trans ?_
            · rfl
            · rfl
            · rfl
            · rw [eqE_self]
          rotate_left
          · simp only [Act.put, List.setIfInBounds_toArray, List.set_cons_zero, List.set_cons_succ]
            rfl
          refine pure_ (i := 25) (N := some 112) (v := ?_) (a' := ?_) #[true, true, true, true, true, true, true, true, true, true, true, true, true, true, true, true, true, true, true, true, true, true, true, true, true, true, false, false] rfl rfl (by kernel_rfl) (fun _ _ _ h => h) (Or.inl ⟨by rfl, ?_⟩) ?_ ?_
          rotate_left
          · intro w_
            go_simp
            with_reducible rfl
          rotate_left
          · simp only [Act.put, List.setIfInBounds_toArray, List.set_cons_zero, List.set_cons_succ]
            rfl
          refine pure_ (i := 26) (N := some 113) (v := ?_) (a' := ?_) #[true, true, true, true, true, true, true, true, true, true, true, true, true, true, true, true, true, true, true, true, true, true, true, true, true, true, true, false] rfl rfl (by kernel_rfl) (fun _ _ _ h => h) (Or.inl ⟨by rfl, ?_⟩) ?_ ?_
          rotate_left
          · intro w_
            go_simp
            with_reducible rfl
          rotate_left
          · simp only [Act.put, List.setIfInBounds_toArray, List.set_cons_zero, List.set_cons_succ]
            rfl
          refine pure_ (i := 27) (N := some 114) (v := ?_) (a' := ?_) #[true, true, true, true, true, true, true, true, true, true, true, true, true, true, true, true, true, true, true, true, true, true, true, true, true, true, true, true] rfl rfl (by kernel_rfl) (fun _ _ _ h => h) (Or.inl ⟨by rfl, ?_⟩) ?_ ?_
          rotate_left
          · intro w_
            go_simp
            with_reducible rfl
          rotate_left
          · simp only [Act.put, List.setIfInBounds_toArray, List.set_cons_zero, List.set_cons_succ]
            rfl
          refine done_ (by kernel_rfl) ?_
          clear hHeld hb12 hr7' hc7 d1
          go_wp2
          go_roundg k
          case measure => omega
          case rel => exact ⟨i + 1, { r with at_ := q2, last := y.at_, left := r.left - 1 }, es', by simp, by show r.left - 1 + 1 = k; omega, by show r.left - 1 ≤ n; omega, by show 3 * (i + 1) + 6 ≤ q2; omega, hqb, by omega, Lib.hid (HS7.out.next (pw_below_drewN (Below.refl _ _) 1)), HTn⟩
        · have d1 : (q == 0) = false := by simpa using hz
          clear St7 hz
          refine start_ (n := 28) (S := fun _ => True) (ds := []) #[false, false, false, false, false, false, false, false, false, false, false, false, false, false, false, false, false, false, false, false, false, false, false, false, false, false, false, false] (by kernel_rfl) rfl rfl trivial (fun hHeld => ?_)
          refine pure_ (i := 0) (N := some 87) (v := ?_) (a' := ?_) #[true, false, false, false, false, false, false, false, false, false, false, false, false, false, false, false, false, false, false, false, false, false, false, false, false, false, false, false] rfl rfl (by kernel_rfl) (fun _ _ _ h => h) (Or.inl ⟨by rfl, ?_⟩) ?_ ?_
          rotate_left
          · intro w_
            go_simp
            with_reducible rfl
          rotate_left
          · simp only [Act.put, List.setIfInBounds_toArray, List.set_cons_zero, List.set_cons_succ]
            rfl
          refine pure_ (i := 1) (N := some 88) (v := ?_) (a' := ?_) #[true, true, false, false, false, false, false, false, false, false, false, false, false, false, false, false, false, false, false, false, false, false, false, false, false, false, false, false] rfl rfl (by kernel_rfl) (fun _ _ _ h => h) (Or.inl ⟨by rfl, ?_⟩) ?_ ?_
          rotate_left
          · intro w_
            go_simp
            with_reducible rfl
          rotate_left
          · simp only [Act.put, List.setIfInBounds_toArray, List.set_cons_zero, List.set_cons_succ]
            rfl
          refine pure_ (i := 2) (N := some 89) (v := ?_) (a' := ?_) #[true, true, true, false, false, false, false, false, false, false, false, false, false, false, false, false, false, false, false, false, false, false, false, false, false, false, false, false] rfl rfl (by kernel_rfl) (fun _ _ _ h => h) (Or.inl ⟨by rfl, ?_⟩) ?_ ?_
          rotate_left
          · intro w_
            go_simp
            with_reducible rfl
          rotate_left
          · simp only [Act.put, List.setIfInBounds_toArray, List.set_cons_zero, List.set_cons_succ]
            rfl
          refine pure_ (i := 3) (N := some 90) (v := ?_) (a' := ?_) #[true, true, true, true, false, false, false, false, false, false, false, false, false, false, false, false, false, false, false, false, false, false, false, false, false, false, false, false] rfl rfl (by kernel_rfl) (fun _ _ _ h => h) (Or.inl ⟨by rfl, ?_⟩) ?_ ?_
          rotate_left
          · intro w_
            go_simp
            with_reducible rfl
          rotate_left
          · simp only [Act.put, List.setIfInBounds_toArray, List.set_cons_zero, List.set_cons_succ]
            rfl
          refine pure_ (i := 4) (N := some 91) (v := ?_) (a' := ?_) #[true, true, true, true, true, false, false, false, false, false, false, false, false, false, false, false, false, false, false, false, false, false, false, false, false, false, false, false] rfl rfl (by kernel_rfl) (fun _ _ _ h => h) (Or.inl ⟨by rfl, ?_⟩) ?_ ?_
          rotate_left
          · intro w_
            go_simp
            with_reducible rfl
          rotate_left
          · simp only [Act.put, List.setIfInBounds_toArray, List.set_cons_zero, List.set_cons_succ]
            rfl
          refine pure_ (i := 5) (N := some 92) (v := ?_) (a' := ?_) #[true, true, true, true, true, true, false, false, false, false, false, false, false, false, false, false, false, false, false, false, false, false, false, false, false, false, false, false] rfl rfl (by kernel_rfl) (fun _ _ _ h => h) (Or.inl ⟨by rfl, ?_⟩) ?_ ?_
          rotate_left
          · intro w_
            go_simp
            with_reducible rfl
          rotate_left
          · simp only [Act.put, List.setIfInBounds_toArray, List.set_cons_zero, List.set_cons_succ]
            rfl
          refine pure_ (i := 6) (N := some 93) (v := ?_) (a' := ?_) #[true, true, true, true, true, true, true, false, false, false, false, false, false, false, false, false, false, false, false, false, false, false, false, false, false, false, false, false] rfl rfl (by kernel_rfl) (fun _ _ _ h => h) (Or.inl ⟨by rfl, ?_⟩) ?_ ?_
          rotate_left
          · intro w_
            go_simp
            with_reducible rfl
          rotate_left
          · simp only [Act.put, List.setIfInBounds_toArray, List.set_cons_zero, List.set_cons_succ]
            rfl
          refine pure_ (i := 7) (N := some 94) (v := ?_) (a' := ?_) #[true, true, true, true, true, true, true, true, false, false, false, false, false, false, false, false, false, false, false, false, false, false, false, false, false, false, false, false] rfl rfl (by kernel_rfl) (fun _ _ _ h => h) (Or.inl ⟨by rfl, ?_⟩) ?_ ?_
          rotate_left
          · intro w_
            go_simp
            with_reducible rfl
          rotate_left
          · simp only [Act.put, List.setIfInBounds_toArray, List.set_cons_zero, List.set_cons_succ]
            rfl
          refine pure_ (i := 8) (N := some 95) (v := ?_) (a' := ?_) #[true, true, true, true, true, true, true, true, true, false, false, false, false, false, false, false, false, false, false, false, false, false, false, false, false, false, false, false] rfl rfl (by kernel_rfl) (fun _ _ _ h => h) (Or.inl ⟨by rfl, ?_⟩) ?_ ?_
          rotate_left
          · intro w_
            go_simp
            with_reducible rfl
          rotate_left
          · simp only [Act.put, List.setIfInBounds_toArray, List.set_cons_zero, List.set_cons_succ]
            rfl
          refine pure_ (i := 9) (N := some 96) (v := ?_) (a' := ?_) #[true, true, true, true, true, true, true, true, true, true, false, false, false, false, false, false, false, false, false, false, false, false, false, false, false, false, false, false] rfl rfl (by kernel_rfl) (fun _ _ _ h => h) (Or.inl ⟨by rfl, ?_⟩) ?_ ?_
          rotate_left
          · intro w_
            go_simp
            with_reducible rfl
          rotate_left
          · simp only [Act.put, List.setIfInBounds_toArray, List.set_cons_zero, List.set_cons_succ]
            rfl
          refine pure_ (i := 10) (N := some 97) (v := ?_) (a' := ?_) #[true, true, true, true, true, true, true, true, true, true, true, false, false, false, false, false, false, false, false, false, false, false, false, false, false, false, false, false] rfl rfl (by kernel_rfl) (fun _ _ _ h => h) (Or.inl ⟨by rfl, ?_⟩) ?_ ?_
          rotate_left
          · intro w_
            go_simp
            with_reducible rfl
          rotate_left
          · simp only [Act.put, List.setIfInBounds_toArray, List.set_cons_zero, List.set_cons_succ]
            rfl
          refine pure_ (i := 11) (N := some 98) (v := ?_) (a' := ?_) #[true, true, true, true, true, true, true, true, true, true, true, true, false, false, false, false, false, false, false, false, false, false, false, false, false, false, false, false] rfl rfl (by kernel_rfl) (fun _ _ _ h => h) (Or.inl ⟨by rfl, ?_⟩) ?_ ?_
          rotate_left
          · intro w_
            go_simp
            with_reducible rfl
          rotate_left
          · simp only [Act.put, List.setIfInBounds_toArray, List.set_cons_zero, List.set_cons_succ]
            rfl
          refine pure_ (i := 12) (N := some 99) (v := undef) (a' := ?_) #[true, true, true, true, true, true, true, true, true, true, true, true, true, false, false, false, false, false, false, false, false, false, false, false, false, false, false, false] rfl rfl (by kernel_rfl) (fun _ _ _ h => h) (Or.inr ⟨by rfl, rfl⟩) ?_ ?_
          rotate_left
          · simp only [Act.put, List.setIfInBounds_toArray, List.set_cons_zero, List.set_cons_succ]
            rfl
          refine pure_ (i := 13) (N := some 100) (v := undef) (a' := ?_) #[true, true, true, true, true, true, true, true, true, true, true, true, true, true, false, false, false, false, false, false, false, false, false, false, false, false, false, false] rfl rfl (by kernel_rfl) (fun _ _ _ h => h) (Or.inr ⟨by rfl, rfl⟩) ?_ ?_
          rotate_left
          · simp only [Act.put, List.setIfInBounds_toArray, List.set_cons_zero, List.set_cons_succ]
            rfl
          refine pure_ (i := 14) (N := some 101) (v := undef) (a' := ?_) #[true, true, true, true, true, true, true, true, true, true, true, true, true, true, true, false, false, false, false, false, false, false, false, false, false, false, false, false] rfl rfl (by kernel_rfl) (fun _ _ _ h => h) (Or.inr ⟨by rfl, rfl⟩) ?_ ?_
          rotate_left
          · simp only [Act.put, List.setIfInBounds_toArray, List.set_cons_zero, List.set_cons_succ]
            rfl
          refine pure_ (i := 15) (N := some 102) (v := undef) (a' := ?_) #[true, true, true, true, true, true, true, true, true, true, true, true, true, true, true, true, false, false, false, false, false, false, false, false, false, false, false, false] rfl rfl (by kernel_rfl) (fun _ _ _ h => h) (Or.inr ⟨by rfl, rfl⟩) ?_ ?_
          rotate_left
          · simp only [Act.put, List.setIfInBounds_toArray, List.set_cons_zero, List.set_cons_succ]
            rfl
          refine pure_ (i := 16) (N := some 103) (v := undef) (a' := ?_) #[true, true, true, true, true, true, true, true, true, true, true, true, true, true, true, true, true, false, false, false, false, false, false, false, false, false, false, false] rfl rfl (by kernel_rfl) (fun _ _ _ h => h) (Or.inr ⟨by rfl, rfl⟩) ?_ ?_
          rotate_left
          · simp only [Act.put, List.setIfInBounds_toArray, List.set_cons_zero, List.set_cons_succ]
            rfl
          refine pure_ (i := 17) (N := some 104) (v := undef) (a' := ?_) #[true, true, true, true, true, true, true, true, true, true, true, true, true, true, true, true, true, true, false, false, false, false, false, false, false, false, false, false] rfl rfl (by kernel_rfl) (fun _ _ _ h => h) (Or.inr ⟨by rfl, rfl⟩) ?_ ?_
          rotate_left
          · simp only [Act.put, List.setIfInBounds_toArray, List.set_cons_zero, List.set_cons_succ]
            rfl
          refine pure_ (i := 19) (N := some 106) (v := undef) (a' := ?_) #[true, true, true, true, true, true, true, true, true, true, true, true, true, true, true, true, true, true, false, true, false, false, false, false, false, false, false, false] rfl rfl (by kernel_rfl) (fun _ _ _ h => h) (Or.inr ⟨by rfl, rfl⟩) ?_ ?_
          rotate_left
          · simp only [Act.put, List.setIfInBounds_toArray, List.set_cons_zero, List.set_cons_succ]
            rfl
          refine pure_ (i := 21) (N := some 108) (v := undef) (a' := ?_) #[true, true, true, true, true, true, true, true, true, true, true, true, true, true, true, true, true, true, false, true, false, true, false, false, false, false, false, false] rfl rfl (by kernel_rfl) (fun _ _ _ h => h) (Or.inr ⟨by rfl, rfl⟩) ?_ ?_
          rotate_left
          · simp only [Act.put, List.setIfInBounds_toArray, List.set_cons_zero, List.set_cons_succ]
            rfl
          refine pure_ (i := 18) (N := some 105) (v := undef) (a' := ?_) #[true, true, true, true, true, true, true, true, true, true, true, true, true, true, true, true, true, true, true, true, false, true, false, false, false, false, false, false] rfl rfl (by kernel_rfl) (fun _ _ _ h => h) (Or.inr ⟨by rfl, rfl⟩) ?_ ?_
          rotate_left
          · simp only [Act.put, List.setIfInBounds_toArray, List.set_cons_zero, List.set_cons_succ]
            rfl
          refine pure_ (i := 20) (N := some 107) (v := undef) (a' := ?_) #[true, true, true, true, true, true, true, true, true, true, true, true, true, true, true, true, true, true, true, true, true, true, false, false, false, false, false, false] rfl rfl (by kernel_rfl) (fun _ _ _ h => h) (Or.inr ⟨by rfl, rfl⟩) ?_ ?_
          rotate_left
          · simp only [Act.put, List.setIfInBounds_toArray, List.set_cons_zero, List.set_cons_succ]
            rfl
          refine pure_ (i := 22) (N := some 109) (v := undef) (a' := ?_) #[true, true, true, true, true, true, true, true, true, true, true, true, true, true, true, true, true, true, true, true, true, true, true, false, false, false, false, false] rfl rfl (by kernel_rfl) (fun _ _ _ h => h) (Or.inr ⟨by rfl, rfl⟩) ?_ ?_
          rotate_left
          · simp only [Act.put, List.setIfInBounds_toArray, List.set_cons_zero, List.set_cons_succ]
            rfl
          refine pure_ (i := 23) (N := some 110) (v := undef) (a' := ?_) #[true, true, true, true, true, true, true, true, true, true, true, true, true, true, true, true, true, true, true, true, true, true, true, true, false, false, false, false] rfl rfl (by kernel_rfl) (fun _ _ _ h => h) (Or.inr ⟨by rfl, rfl⟩) ?_ ?_
          rotate_left
          · simp only [Act.put, List.setIfInBounds_toArray, List.set_cons_zero, List.set_cons_succ]
            rfl
          refine pure_ (i := 24) (N := some 111) (v := undef) (a' := ?_) #[true, true, true, true, true, true, true, true, true, true, true, true, true, true, true, true, true, true, true, true, true, true, true, true, true, false, false, false] rfl rfl (by kernel_rfl) (fun _ _ _ h => h) (Or.inr ⟨by rfl, rfl⟩) ?_ ?_
          rotate_left
          · simp only [Act.put, List.setIfInBounds_toArray, List.set_cons_zero, List.set_cons_succ]
            rfl
          refine pure_ (i := 25) (N := some 112) (v := undef) (a' := ?_) #[true, true, true, true, true, true, true, true, true, true, true, true, true, true, true, true, true, true, true, true, true, true, true, true, true, true, false, false] rfl rfl (by kernel_rfl) (fun _ _ _ h => h) (Or.inr ⟨by rfl, rfl⟩) ?_ ?_
          rotate_left
          · simp only [Act.put, List.setIfInBounds_toArray, List.set_cons_zero, List.set_cons_succ]
            rfl
          refine pure_ (i := 26) (N := some 113) (v := ?_) (a' := ?_) #[true, true, true, true, true, true, true, true, true, true, true, true, true, true, true, true, true, true, true, true, true, true, true, true, true, true, true, false] rfl rfl (by kernel_rfl) (fun _ _ _ h => h) (Or.inl ⟨by rfl, ?_⟩) ?_ ?_
          rotate_left
          · intro w_
            go_simp
            with_reducible rfl
          rotate_left
          · simp only [Act.put, List.setIfInBounds_toArray, List.set_cons_zero, List.set_cons_succ]
            rfl
          refine pure_ (i := 27) (N := some 114) (v := ?_) (a' := ?_) #[true, true, true, true, true, true, true, true, true, true, true, true, true, true, true, true, true, true, true, true, true, true, true, true, true, true, true, true] rfl rfl (by kernel_rfl) (fun _ _ _ h => h) (Or.inl ⟨by rfl, ?_⟩) ?_ ?_
          rotate_left
          · intro w_
            go_simp
            with_reducible rfl
          rotate_left
          · simp only [Act.put, List.setIfInBounds_toArray, List.set_cons_zero, List.set_cons_succ]
            rfl
          refine done_ (by kernel_rfl) ?_
          clear hHeld hb12 hc7 d1
          go_wp2
          go_roundg k
          case measure => omega
          case rel => exact ⟨i + 1, { r with at_ := q2, last := y.at_, left := r.left - 1 }, es', by simp, by show r.left - 1 + 1 = k; omega, by show r.left - 1 ≤ n; omega, by show 3 * (i + 1) + 6 ≤ q2; omega, hqb, by omega, Lib.hid (HS7.out.next (pw_below_drewN (Below.refl _ _) 1)), HTn⟩
      · have ei : i = l0.length := by omega
        obtain ⟨he, htf⟩ := HT.out
        rw [ei, List.drop_length] at htf
        obtain ⟨r', hn1, hn2, hn3, hn4, hn5⟩ := told_end2 b L r es (p, q) he htf
        have HE : Hid (∀ e w', NxPost wr g A c b n r e w' → e = .returned (.tuple #[.agg (enC en0).toArray, .bool false, .int .i64 q]) ∧ Nx wr g w' (rdC A c b n r')) := Lib.hid (fun e w' he => by
          unfold NxPost at he
          rw [← HLg.out, hn1] at he
          exact he)
        have HR := Lib.hid hn2
        have HEi := Lib.hid ei
        clear hn1 hn2 hn3 hn4 hn5 he htf HT ei
        go_upto_region 14 with (first | (go_at_call 20; refine HN.out.mono ?_; intro e w8 he; obtain ⟨rfl, hnx⟩ := HE.out e w8 he; clear he; have HNX := Lib.hid hnx; clear hnx) | ((with_reducible refine gate_dst (N := 12) rfl ?_); refine wpList_alloc_box rfl rfl ?_; intro W6 hW6 hbe6 hs6) | ((with_reducible refine gate_store (t := 44) (p := 12) rfl ?_); refine wpList_store_box rfl (.tmp 12) (.tmp 68) rfl w8.heap.size hW6 fr0_wf en0 fr0_wf rfl rfl ?_; intro W7 hW7 ho7))
        have St7 := Lib.hid ((St.out.after HG.out HNX.out (by rw [HR.out]; exact hat)).next (below_only hbe6 ho7 (Nat.le_refl _)))
        clear hW7 ho7 hW6 hbe6 hs6 HNX HN HE St
        have c1 := blk_cell St7.out.b7 1
        simp only [List.getElem?_toArray, List.getElem?_cons_zero, List.getElem?_cons_succ] at c1
        by_cases hz : q = 0
        · have d0 : (q != 0) = false := by simpa using hz
          have d1 : (q == 0) = true := by simpa using hz
          have hl7 := HL7.out hz
          have HZ := Lib.hid hz
          subst hl7
          have d2 : ((i : Int) == (l7.length : Int)) = true := by rw [HEi.out]; simp
          clear hz
          go_wp2
          go_ret
          exact ⟨by first | rfl | simp, St7.out.below⟩
        · have d0 : (q != 0) = true := by simpa using hz
          clear hz
          go_wp2
          go_ret
          exact ⟨by first | rfl | simp, St7.out.below⟩
theorem one_row (A : Option Addr) (c : Nat) (l : List Int) (W : World) (y : l.length * 1 ≤ 140737488351232) (hc : l.length ≤ c) (hC : Kd.C (Kd.int .u8) W A l.length l) (hw : ∀ n ∈ l, (Lit.int .u8 n).wf = true) :
    Calls Try.prog 6 #[.slice A l.length c] W fun e W' => e = .returned (.bool true) ∧ Below W.heap.size W W' :=
  one_law A c l W ⟨hC, hc, u8_rows hw, by omega⟩
end Go.Proofs.Ytfbdnfokoakfaaa.Ct
