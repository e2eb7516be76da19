/- provisolaw06.CertBack: its walk. -/
import Derived.Test.YtfbdnfokoakfaaaFormLaw
namespace Go.Proofs.Ytfbdnfokoakfaaa.Ct
open Go.RowKit Go.Proofs.YtfbdnfokoakfaaaW.PrintWords Go.Proofs.YtfbdnfokoakfaaaW.PrintLast Go.Proofs.YtfbdnfokoakfaaaW.PrintMore
set_option linter.unusedVariables false
set_option linter.unusedSimpArgs false

set_option maxHeartbeats 2000000 in
set_option maxRecDepth 100000 in
theorem may_c (L : Int) (A : Option Addr) (c : Nat) (l : List En) (w : World) (h : Kd.C kEn w A l.length l) (f : Bool) (hf : ((checkS L l).2 == 0) = f) : Calls Try.prog 33 #[.agg #[.int .i64 L, .slice A l.length c]] w fun e w' => e = .returned (.bool f) ∧ Below w.heap.size w w' := by
  have HQ := Lib.hid (fun W h => rcheck_c L A c l W h)
  have HR := Lib.hid h
  obtain ⟨⟨n, e⟩, hne⟩ : ∃ x, x = checkS L l := ⟨_, rfl⟩
  rw [← hne] at HQ hf
  have hf' : (e == 0) = f := hf
  clear hne h hf
  go_enter Try.func33, Try.ntmps33
  go_wp2_with (first | (go_at_call 15; refine (HQ.out _ (Kd.C_alloc HR.out _)).mono ?_; rintro e w1 ⟨rfl, hb1⟩))
  go_ret
  exact ⟨by first | rfl | simp, below_then (below_alloc (Below.refl _ _) _) (by simp) hb1⟩
theorem C_wf {W : World} {A : Option Addr} {l : List En} (h : Kd.C kEn W A l.length l) : ∀ x, x ∈ l → x.fr.wf := by
  intro x hx
  obtain ⟨i, hi, rfl⟩ := List.getElem_of_mem hx
  obtain ⟨_, _, hw, _⟩ := at_en h i hi
  rwa [show l.getD i en0 = l[i] by rw [List.getD_eq_getElem?_getD, List.getElem?_eq_getElem hi]; rfl] at hw
theorem good_encR {L : Int} {l : List En} (h : Good L l) : encR L l = (encS L l, 0) := by
  unfold encR
  rw [if_pos ((check_good L l).2 h)]
theorem good_told {L : Int} {l : List En} (h : Good L l) (hw : ∀ x, x ∈ l → x.fr.wf) : decL (encS L l) = L ∧ decE (encS L l) = l ∧ (toldS (encS L l)).2.2.1 = 0 ∧ (toldS (encS L l)).2.2.2 = 0 := by
  obtain ⟨es, ht⟩ := told_encS L l [] h hw
  rw [List.append_nil, if_neg (by simp)] at ht
  refine ⟨?_, ?_, by rw [ht], by rw [ht]⟩
  · unfold decL; rw [ht, if_pos rfl]; unfold encS; rfl
  · unfold decE; rw [ht, if_pos rfl]
theorem encS_bytes {L : Int} {l : List En} (h : Good L l) (hw : ∀ x, x ∈ l → x.fr.wf) : ∀ x, x ∈ encS L l → 0 ≤ x ∧ x ≤ 255 := by
  obtain ⟨h0, h1, hl, hok⟩ := h
  have : ∀ (l : List En) (last : Int), OkL L last l → (∀ x, x ∈ l → x.fr.wf) → ∀ x, x ∈ encB L l → 0 ≤ x ∧ x ≤ 255 := by
    intro l
    induction l with
    | nil => intro last _ _ x hx; cases hx
    | cons y r ih =>
      intro last hk hw x hx
      rcases List.mem_append.1 (show x ∈ encE L y ++ encB L r from hx) with hx | hx
      · obtain ⟨a0, a1, a2, hb⟩ := step_at hk.1
        cases hd : y.dead with
        | true =>
          rw [encE_dead L hd] at hx
          simp at hx
          omega
        | false =>
          obtain ⟨b0, b1, b2, _, _⟩ := body_live hb hd
          rw [encE_live L hd] at hx
          rcases List.mem_append.1 hx with hx | hx
          · simp at hx
            omega
          · exact (hw y (List.mem_cons_self ..)).2 x (List.mem_of_mem_take hx)
      · exact ih _ hk.2 (fun z hz => hw z (List.mem_cons_of_mem _ hz)) x hx
  intro x hx
  unfold encS at hx
  rcases List.mem_append.1 hx with hx | hx
  · simp at hx
    omega
  · exact this l _ hok hw x hx
theorem encS_len {L : Int} {l : List En} (h : Good L l) : (encS L l).length = 6 + (encB L l).length ∧ (encB L l).length ≤ 114688 := by
  obtain ⟨h0, h1, hl, hok⟩ := h
  refine ⟨by unfold encS; rw [List.length_append]; rfl, ?_⟩
  have := encB_take L l h0 h1 hl hok l.length
  rwa [List.take_length] at this
theorem encB_step (L : Int) (l : List En) (i : Nat) (hi : i < l.length) : (encB L (l.take (i + 1))).length = (encB L (l.take i)).length + (encE L l[i]).length := by
  rw [List.take_succ_eq_append_getElem hi, encB_snoc, List.length_append]
theorem encE_size {L last : Int} {x : En} (h0 : 0 ≤ L) (h1 : L ≤ 16) (hw : x.fr.wf) (h : stepS L last x = 0) : (x.dead = true → ((encE L x).length : Int) = 3) ∧ (x.dead = false → ((encE L x).length : Int) = 3 + (1 + L + x.fr.h) ∧ 0 ≤ x.fr.h ∧ x.fr.h ≤ 24) := by
  refine ⟨fun hd => by rw [encE_dead L hd]; rfl, fun hd => ?_⟩
  obtain ⟨b0, b1, b2, _, _⟩ := body_live (step_at h).2.2.2 hd
  rw [encE_live L hd, List.length_append, List.length_take, hw.1]
  simp
  omega

structure BkSt (w W : World) (L : Int) (A A5 : Option Addr) (c c5 g1 g5 : Nat) (l : List En) : Prop where
  b1 : W.heap[g1]? = some (.cells #[.int .i64 L, .slice A l.length c] 24 (0, 0))
  b5 : W.heap[g5]? = some (.cells #[.int .i64 L, .slice A5 l.length c5] 24 (0, 0))
  r : Kd.C kEn W A l.length l
  r5 : Kd.C kEn W A5 l.length l
  below : Below w.heap.size w W
theorem BkSt.next {w W W1 : World} {L : Int} {A A5 : Option Addr} {c c5 g1 g5 : Nat} {l : List En} (h : BkSt w W L A A5 c c5 g1 g5 l) (hb : Below W.heap.size W W1) : BkSt w W1 L A A5 c c5 g1 g5 l :=
  ⟨blk_below h.b1 hb, blk_below h.b5 hb, Kd.C_below h.r hb, Kd.C_below h.r5 hb, below_then h.below h.below.size hb⟩

set_option maxHeartbeats 8000000 in
set_option maxRecDepth 100000 in
theorem back_law (L : Int) (A : Option Addr) (c : Nat) (l : List En) (w : World) (hr : Kd.C kEn w A l.length l) (hc : l.length ≤ c) (hl : l.length * 56 ≤ 140737488351232) :
    Calls Try.prog 10 #[.agg #[.int .i64 L, .slice A l.length c]] w fun e w' => e = .returned (.bool true) ∧ Below w.heap.size w w' := by
  have HR := Lib.hid hr
  have HB0 := Lib.hid (blk_new w (.cells #[.int .i64 L, .slice A l.length c] 24))
  have HSm := Lib.hid (fun L A1 A2 c1 c2 l W h1 h2 => same_c L A1 A2 c1 c2 l W h1 h2)
  by_cases hg : (checkS L l).2 = 0
  · have hgood := (check_good L l).1 hg
    have hwf := C_wf hr
    have HM := Lib.hid (fun W h => may_c L A c l W h true (by rw [hg]; rfl))
    have HE : Hid (∀ W, Kd.C kEn W A l.length l → Calls Try.prog 17 #[.agg #[.int .i64 L, .slice A l.length c]] W fun e w' => ∃ A c, e = .returned (.tuple #[.slice A (encS L l).length c, .int .i64 0]) ∧ Kd.R (Kd.int .u8) 5 w' W.heap.size (fun _ => True) (.slice A (encS L l).length c) (encS L l) ∧ Below W.heap.size W w') := Lib.hid (fun W h => (encode_c L A c l W h).mono (fun e w' he => by
      have := enc_post he
      rw [good_encR hgood] at this
      exact this))
    obtain ⟨t1, t2, t3, t4⟩ := good_told hgood hwf
    have HD := Lib.hid (fun A c W (h : ByR W A c (encS L l)) => decode_c A c (encS L l) W h)
    unfold DcPost at HD
    rw [t1, t2, t3, t4] at HD
    have HYb := Lib.hid (encS_bytes hgood hwf)
    have hsl := encS_len hgood
    have HG := Lib.hid hgood
    have HWf := Lib.hid hwf
    obtain ⟨N, hN⟩ : ∃ N, N = (encS L l).length := ⟨_, rfl⟩
    have HN := Lib.hid hN
    rw [← hN] at HE hsl
    obtain ⟨h0, h1, hl4, _⟩ := hgood
    have hN2 : N ≤ 114694 := by omega
    have HSl : Hid ((N : Int) = 6 + ((encB L l).length : Int)) := Lib.hid (by omega)
    have HHD : Hid (∀ A c W (_ : ByR W A c (encS L l)), Calls Try.prog 25 #[.slice A N c] W fun e w' => ∃ v, e = .returned (.tuple #[.agg #[.int .i64 L, v], .int .i64 0, .int .i64 0]) ∧ Kd.R kEn 44 w' W.heap.size (fun _ => True) v l ∧ Below W.heap.size W w') := Lib.hid (fun A c W h => by have := HD.out A c W h; rw [← hN] at this; exact this)
    clear hr hg t1 t2 t3 t4 hN hsl HD hwf
    go_enter Try.func10, Try.ntmps10
    go_wp2_with fail
    refine (HM.out _ (Kd.C_alloc HR.out _)).mono ?_
    rintro e w1 ⟨rfl, hb1⟩
    have HB1 := Lib.hid (below_then (below_alloc (Below.refl _ _) _) (by simp) hb1)
    have H1 := Lib.hid (blk_below HB0.out hb1)
    have HR1 := Lib.hid (Kd.C_below HR.out HB1.out)
    clear hb1 HB0 HM
    have j0 := blk_cell H1.out 0
    have j1 := blk_cell H1.out 1
    simp only [List.getElem?_toArray, List.getElem?_cons_zero, List.getElem?_cons_succ] at j0 j1
    go_wp2_with fail
    refine (HE.out _ HR1.out).mono ?_
    rintro e w2 ⟨A3, c3, rfl, hr3, hb2⟩
    clear j0 j1
    have HR3 := Lib.hid hr3
    have HB2 := Lib.hid (below_then HB1.out HB1.out.size hb2)
    have H2 := Lib.hid (blk_below H1.out hb2)
    have HY : Hid (ByR w2 A3 c3 (encS L l)) := Lib.hid ⟨(Kd.R_reads' HR3.out).2.2, by rw [← HN.out]; exact (Kd.R_reads' HR3.out).2.1, HYb.out, by rw [← HN.out]; omega⟩
    clear hr3 hb2 HB1 H1 HR1
    go_wp2_with fail
    refine (HHD.out _ _ _ HY.out).mono ?_
    rintro e w3 ⟨v5, rfl, hr5, hb3⟩
    obtain ⟨A5, c5, rfl, hc5, _⟩ := Kd.R_reads hr5
    obtain ⟨W3, hW3⟩ : ∃ W3, W3 = w3.alloc (.cells #[.int .i64 L, .slice A5 l.length c5] 24) := ⟨_, rfl⟩
    obtain ⟨g5, hg5⟩ : ∃ g5, g5 = w3.heap.size := ⟨_, rfl⟩
    have hbb : Below w3.heap.size w3 W3 := by rw [hW3]; exact below_alloc (Below.refl _ _) _
    have hb3' := below_then hb3 hb3.size hbb
    have HB3 := below_then HB2.out HB2.out.size hb3'
    have St : Hid (BkSt w W3 L A A5 c c5 w.heap.size g5 l) := Lib.hid ⟨blk_below H2.out hb3', by rw [hW3, hg5]; exact blk_new w3 _, Kd.C_below HR.out HB3, Kd.C_below (Kd.R_reads' hr5).2.2 hbb, HB3⟩
    clear hr5 hb3 hc5 hbb hb3' HB3 H2 HB2 HR3 HY HR
    go_upto_region 6 with (fail)
    rw [← hg5, ← hW3]
    clear hW3 hg5
    have j1 := blk_cell St.out.b1 1
    simp only [List.getElem?_toArray, List.getElem?_cons_zero, List.getElem?_cons_succ] at j1
    go_wp2
    clear j1
    go_loopg [8, 28] (l.length + 1) (fun k v8 v28 W => ∃ (i m : Nat), v28 = .int .i64 (i : Int) ∧ v8 = .int .i64 (6 + (m : Int)) ∧ i + k = l.length + 1 ∧ i ≤ l.length ∧ m ≤ 114688 ∧ Hid (m = (encB L (l.take i)).length) ∧ Hid (BkSt w W L A A5 c c5 w.heap.size g5 l))
    case atStart => exact ⟨0, 0, rfl, rfl, by omega, by omega, by omega, Lib.hid (by simp [encB]), St⟩
    case round =>
      obtain ⟨i, m, rfl, rfl, hi, hil, hm, HMm, St1⟩ := hrel
      have j0 := blk_cell St1.out.b1 0
      have j1 := blk_cell St1.out.b1 1
      simp only [List.getElem?_toArray, List.getElem?_cons_zero, List.getElem?_cons_succ] at j0 j1
      by_cases hlt : i < l.length
      · have d1 : decide ((i : Int) < (l.length : Int)) = true := decide_eq_true (by omega)
        obtain ⟨ad, rfl, hwf, hrng⟩ := at_en St1.out.r i hlt
        obtain ⟨x, hx⟩ : ∃ x, x = l.getD i en0 := ⟨_, rfl⟩
        rw [← hx] at hwf hrng
        have hgx : l.getD i en0 = l[i] := by rw [List.getD_eq_getElem?_getD, List.getElem?_eq_getElem hlt]; rfl
        have HX := Lib.hid (hx.trans hgx)
        have HWx := Lib.hid hwf
        have HRng := Lib.hid hrng
        clear hx hgx hwf hrng
        obtain ⟨k, rfl⟩ : ∃ k, gk = k + 1 := ⟨gk - 1, by omega⟩
        have hst := OkL_get L l (-1) i hlt HG.out.2.2.2
        obtain ⟨last, hst⟩ := hst
        rw [← HX.out] at hst
        obtain ⟨hd1, hd2⟩ := encE_size h0 h1 HWx.out hst
        have hstep := encB_step L l i hlt
        rw [← HX.out, ← HMm.out] at hstep
        have hle := encB_take L l h0 h1 hl4 HG.out.2.2.2 (i + 1)
        rw [hstep] at hle
        have HStep := Lib.hid hstep
        clear hst hstep
        go_upto_region 9 with (first | ((with_reducible refine gate_dst (N := 31) rfl ?_); refine wpList_load_any rfl 44 (.tmp 30) rfl (ad.add (i * 28)) rfl (enC x) _ HRng.out Try.underlying44 rfl (by rw [enC_len HWx.out]; kernel_rfl) ?_) | ((with_reducible refine gate_dst (N := 10) rfl ?_); refine wpList_alloc_box rfl rfl ?_; intro W6 hW6 hbe6 hs6) | ((with_reducible refine gate_store (t := 44) (p := 10) rfl ?_); refine wpList_store_box rfl (.tmp 10) (.tmp 31) rfl wr.heap.size hW6 fr0_wf x HWx.out rfl rfl ?_; intro W7 hW7 ho7))
        have hb7 := below_only hbe6 ho7 (Nat.le_refl _)
        have St7 := Lib.hid (St1.out.next hb7)
        have k1 : W7.cell? ⟨wr.heap.size, 1, none⟩ = some (.bool x.dead) := blk_cell hW7 1
        have k3 : W7.cell? ⟨wr.heap.size, 3, none⟩ = some (.int .i64 x.fr.h) := blk_cell hW7 3
        have j0' := blk_cell St7.out.b1 0
        simp only [List.getElem?_toArray, List.getElem?_cons_zero, List.getElem?_cons_succ] at j0'
        clear hW7 ho7 hW6 hbe6 hs6 hb7 j0 j1
        obtain ⟨n, hn⟩ : ∃ n, n = (encE L x).length := ⟨_, rfl⟩
        rw [← hn] at hd1 hd2 hle HStep
        cases hd : x.dead with
        | true =>
          rw [hd] at k1
          have e3 : n = 3 := by have := hd1 hd; omega
          clear hd1 hd2 hd hn
          subst e3
          go_wp2
          go_roundg k
          case measure => omega
          case rel => exact ⟨i + 1, m + 3, by simp, by simp; omega, by omega, by omega, by omega, Lib.hid HStep.out.symm, St7⟩
        | false =>
          rw [hd] at k1
          obtain ⟨e3, e4, e5⟩ := hd2 hd
          obtain ⟨H, hH⟩ : ∃ H, H = x.fr.h := ⟨_, rfl⟩
          rw [← hH] at k3 e3 e4 e5
          have E3 := Lib.hid e3
          clear hd1 hd2 hd hn hH e3
          go_wp2
          go_roundg k
          case measure => omega
          case rel => exact ⟨i + 1, m + n, by simp, by have := E3.out; simp; omega, by omega, by omega, by omega, Lib.hid HStep.out.symm, St7⟩
      · have d1 : decide ((i : Int) < (l.length : Int)) = false := decide_eq_false (by omega)
        have ei : i = l.length := by omega
        have em : (6 + (m : Int)) = (N : Int) := by
          rw [HSl.out, HMm.out, ei, List.take_length]
        have HEm := Lib.hid em
        rw [em]
        clear ei em
        have k0 := blk_cell St1.out.b5 0
        have k1 := blk_cell St1.out.b5 1
        simp only [List.getElem?_toArray, List.getElem?_cons_zero, List.getElem?_cons_succ] at k0 k1
        go_wp2_with fail
        refine (HSm.out _ _ _ _ _ _ _ St1.out.r5 St1.out.r).mono ?_
        rintro e w6 ⟨rfl, hb6⟩
        have HB6 := Lib.hid (below_then St1.out.below St1.out.below.size hb6)
        clear hb6 k0 k1 j0 j1
        go_wp2
        go_ret
        exact ⟨by first | rfl | simp, HB6.out⟩
  · have HM := Lib.hid (fun W h => may_c L A c l W h false (by simpa using hg))
    clear hg hr
    go_enter Try.func10, Try.ntmps10
    go_wp2_with fail
    refine (HM.out _ (Kd.C_alloc HR.out _)).mono ?_
    rintro e w1 ⟨rfl, hb1⟩
    go_wp2
    go_ret
    exact ⟨by first | rfl | simp, below_then (below_alloc (Below.refl _ _) _) (by simp) hb1⟩
theorem back_row (L : Int) (A : Option Addr) (c : Nat) (l : List En) (w : World) (hl : l.length * 56 ≤ 140737488351232) (hc : l.length ≤ c) (hr : Kd.C kEn w A l.length l) :
    Calls Try.prog 10 #[.agg #[.int .i64 L, .slice A l.length c]] w fun e w' => e = .returned (.bool true) ∧ Below w.heap.size w w' := back_law L A c l w hr hc hl
end Go.Proofs.Ytfbdnfokoakfaaa.Ct
