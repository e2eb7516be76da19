/- provisolaw06.CertDecodes: its walk. CertDecodes, for its row. -/
import Derived.Test.YtfbdnfokoakfaaaDecodeC
import Derived.Test.YtfbdnfokoakfaaaReadsLaw
import Derived.Test.YtfbdnfokoakfaaaChecksLaw
namespace Go.Proofs.Ytfbdnfokoakfaaa.Ct
open Go.RowKit Go.Proofs.YtfbdnfokoakfaaaW.PrintWords Go.Proofs.YtfbdnfokoakfaaaW.PrintLast Go.Proofs.YtfbdnfokoakfaaaW.PrintMore Go.Proofs.Ytfbdnfokoakfaaa.CloneC
set_option linter.unusedVariables false
set_option linter.unusedSimpArgs false

/-- Another row stays behind an append. -/
theorem R_other {α : Type} {d : Kd α} {e : Nat} {W w1 : World} {base : Nat} {v v1 v' : Value} {ys : List α} (h : d.R e W base (fun k => some k ≠ v.ownBlock) v' ys) (hg : W.grownBy w1 v.ownBlock) (hv : v1.ownBlock = v.ownBlock ∨ ∃ b, v1.ownBlock = some b ∧ W.heap.size ≤ b) : d.R e w1 base (fun k => some k ≠ v1.ownBlock) v' ys := by
  refine Kd.R_mono (Kd.R_grown (Kd.R_bound h) hg (fun k hk => hk.1)) (fun k hk => ?_)
  rcases hv with e1 | ⟨q, e1, hq⟩
  · rw [e1]; exact hk.1
  · rw [e1]
    intro e2
    injection e2 with e2
    have := hk.2.2.1
    omega
structure DsSt (w W : World) (L : Int) (g5 g8 g11 : Nat) (v5 v8 v11 va : Value) (cur l : List En) (m : List Int) : Prop where
  b5 : W.heap[g5]? = some (.cells #[.int .i64 L, v5] 24 (0, 0))
  b8 : W.heap[g8]? = some (.cells #[.int .i64 L, v8] 24 (0, 0))
  b11 : W.heap[g11]? = some (.cells #[.int .i64 L, v11] 24 (0, 0))
  r5 : Kd.R kEn 44 W w.heap.size (fun _ => True) v5 cur
  r8 : Kd.R kEn 44 W w.heap.size (fun k => some k ≠ v5.ownBlock) v8 l
  r11 : Kd.R kEn 44 W w.heap.size (fun k => some k ≠ v5.ownBlock) v11 l
  all : Kd.R (Kd.int .u8) 5 W w.heap.size (fun _ => True) va m
  below : Below w.heap.size w W
theorem DsSt.next {w W W1 : World} {L : Int} {g5 g8 g11 : Nat} {v5 v8 v11 va : Value} {cur l : List En} {m : List Int} (h : DsSt w W L g5 g8 g11 v5 v8 v11 va cur l m) (hb : Below W.heap.size W W1) : DsSt w W1 L g5 g8 g11 v5 v8 v11 va cur l m :=
  ⟨blk_below h.b5 hb, blk_below h.b8 hb, blk_below h.b11 hb, Kd.R_below h.r5 hb, Kd.R_below h.r8 hb, Kd.R_below h.r11 hb, Kd.R_below h.all hb, below_then h.below h.below.size hb⟩
theorem blk_own {W w1 : World} {base : Nat} {ok : Nat → Prop} {v : Value} {xs : List En} {g : Nat} {cs : Array Value} {t : TypeId} (hr : Kd.R kEn 44 W base ok v xs) (hg : W.grownBy w1 v.ownBlock) (h : W.heap[g]? = some (.cells cs t (0, 0))) (ht : t ≠ 44) : w1.heap[g]? = some (.cells cs t (0, 0)) :=
  (hg.block _ (blk_lt h) (Kd.R_ne hr h (fun e => ht e.symm))).trans h
theorem all_own {W w1 : World} {base base' : Nat} {ok : Nat → Prop} {v va : Value} {xs : List En} {m : List Int} (hr : Kd.R kEn 44 W base ok v xs) (hg : W.grownBy w1 v.ownBlock) (h : Kd.R (Kd.int .u8) 5 W base' (fun _ => True) va m) : Kd.R (Kd.int .u8) 5 w1 base' (fun _ => True) va m :=
  R_apart (Kd.R_mono hr (fun _ _ => trivial)) h (by show ¬ (44 : Nat) ∈ ([5] : List Nat); decide) hg
/-- An element was written. -/
theorem DsSt.put {w W w1 : World} {L : Int} {g5 g8 g11 : Nat} {v5 v8 v11 va : Value} {cur cur' l : List En} {m : List Int} (h : DsSt w W L g5 g8 g11 v5 v8 v11 va cur l m) (hr : Kd.R kEn 44 w1 w.heap.size (fun _ => True) v5 cur') (hg : W.grownBy w1 v5.ownBlock) (hb : Below w.heap.size w w1) : DsSt w w1 L g5 g8 g11 v5 v8 v11 va cur' l m :=
  ⟨blk_own h.r5 hg h.b5 (by decide), blk_own h.r5 hg h.b8 (by decide), blk_own h.r5 hg h.b11 (by decide), hr, R_other h.r8 hg (.inl rfl), R_other h.r11 hg (.inl rfl), all_own h.r5 hg h.all, hb⟩
/-- An element was appended, and the slice stored. -/
theorem DsSt.app {w W w1 : World} {L : Int} {g5 g8 g11 : Nat} {v5 v5' v8 v11 va : Value} {cur cur' l : List En} {m : List Int} (hne8 : g8 ≠ g5) (hne11 : g11 ≠ g5) (h5 : w.heap.size ≤ g5) (h : DsSt w W L g5 g8 g11 v5 v8 v11 va cur l m) (hr : Kd.R kEn 44 w1 w.heap.size (fun _ => True) v5' cur') (hg : W.grownBy w1 v5.ownBlock) (hv : v5'.ownBlock = v5.ownBlock ∨ ∃ b, v5'.ownBlock = some b ∧ W.heap.size ≤ b) (hb : Below w.heap.size w w1) :
    DsSt w (w1.setCell ⟨g5, 1, none⟩ v5') L g5 g8 g11 v5' v8 v11 va cur' l m := by
  have q5 := blk_own h.r5 hg h.b5 (by decide)
  have hs := only_grown (set_only w1 g5 1 v5')
  have hrow : ∀ k, some g5 = some k → ∃ o, w1.heap[k]? = some o ∧ ∀ cs f, o ≠ .cells cs 44 f := fun k e => by injection e with e; subst e; exact ⟨_, q5, fun _ _ e => by cases e⟩
  exact ⟨blk_set q5 1 v5', blk_far (blk_own h.r5 hg h.b8 (by decide)) (p := ⟨g5, 1, none⟩) hne8 v5', blk_far (blk_own h.r5 hg h.b11 (by decide)) (p := ⟨g5, 1, none⟩) hne11 v5',
    R_stay hr hs hrow, R_stay (R_other h.r8 hg hv) hs hrow, R_stay (R_other h.r11 hg hv) hs hrow, Kd.R_set (all_own h.r5 hg h.all) q5 (fun q hq => by have : q ∈ ([5] : List Nat) := hq; simp at this; omega) 1 v5', hb.setCell (p := ⟨g5, 1, none⟩) h5 _⟩

theorem decE_len (b : List Int) (hy : ∀ x, x ∈ b → 0 ≤ x ∧ x ≤ 255) : (decE b).length ≤ 4096 := by
  unfold decE
  by_cases hz : (toldS b).2.2.2 = 0
  · rw [if_pos hz]
    obtain ⟨L, n, hh, _⟩ := told_ok b hz
    have h1 := (headS_ok b hy _ hh).2.2.2
    have h2 : toldS b = toldF b L n 6 (-1) := by unfold toldS; rw [hh]
    rw [h2]
    exact Nat.le_trans (told_len b L n 6 (-1)).2 h1
  · rw [if_neg hz]; exact Nat.zero_le _
def enM (k : Int) : En := ⟨k, false, fr0⟩

set_option maxHeartbeats 8000000 in
set_option maxRecDepth 100000 in
theorem decodes_law (A : Option Addr) (c : Nat) (b : List Int) (w : World) (h : ByR w A c b) : Calls Try.prog 8 #[.slice A b.length c] w fun e w' => e = .returned (.bool true) ∧ Below w.heap.size w w' := by
  have HB := Lib.hid h
  have hl48 := h.l
  have HRo := Lib.hid (roomy_any A c b w h.r h.c h.l)
  have HSm := Lib.hid (fun L A1 A2 c1 c2 l W h1 h2 => same_c L A1 A2 c1 c2 l W h1 h2)
  have E4 : Hid ((b ++ ([165, 90, 195, 60] : List Int)).length = b.length + 4) := Lib.hid (by simp)
  have HD1 := Lib.hid (fun A c W (h : ByR W A c b) => decode_c A c b W h)
  have HD2 := Lib.hid (fun A c W (h : ByR W A c b) => rdecode_c A c b W h)
  unfold DcPost at HD1 HD2
  obtain ⟨L, hL⟩ : ∃ L, L = decL b := ⟨_, rfl⟩
  obtain ⟨l, hl⟩ : ∃ l, l = decE b := ⟨_, rfl⟩
  obtain ⟨p, hp⟩ : ∃ p, p = (toldS b).2.2.1 := ⟨_, rfl⟩
  obtain ⟨q, hq⟩ : ∃ q, q = (toldS b).2.2.2 := ⟨_, rfl⟩
  rw [← hL, ← hl, ← hp, ← hq] at HD1 HD2
  have hl4 : l.length ≤ 4096 := by rw [hl]; exact decE_len b HB.out.y
  clear h hL hl hp hq
  go_enter Try.func8, Try.ntmps8
  go_wp2_with fail
  refine HRo.out.mono ?_
  rintro e w1 ⟨g0, cap, rfl, ho, hcap, hb1⟩
  have hY : ByR w1 (some g0) cap b := ⟨front ho, by omega, HB.out.y, HB.out.l⟩
  have HY := Lib.hid hY
  have HAll := Lib.hid ho
  have HB1 := Lib.hid hb1
  have HCap := Lib.hid hcap
  clear ho hb1 hY hcap HRo
  go_wp2_with fail
  refine (HD1.out _ _ _ HY.out).mono ?_
  rintro e w2 ⟨v5, rfl, hr5, hb2⟩
  obtain ⟨A5, c5, rfl, hc5, _⟩ := Kd.R_reads hr5
  have HR5 := Lib.hid (Kd.R_lower hr5 HB1.out.size)
  have HB2 := Lib.hid (below_then HB1.out HB1.out.size hb2)
  have HAll2 := Lib.hid (Kd.R_below HAll.out hb2)
  have HY2 := Lib.hid (HY.out.next hb2)
  clear hr5 hb2 hc5 HAll HY HB1
  go_wp2_with fail
  obtain ⟨g5, hg5⟩ : ∃ g5, g5 = w2.heap.size := ⟨_, rfl⟩
  have hba := below_alloc (Below.refl w2.heap.size w2) (.cells #[.int .i64 L, .slice A5 l.length c5] 24)
  have H5 := Lib.hid (show (w2.alloc (.cells #[.int .i64 L, .slice A5 l.length c5] 24)).heap[g5]? = some (.cells #[.int .i64 L, .slice A5 l.length c5] 24 (0, 0)) by rw [hg5]; exact blk_new w2 _)
  have HR5a := Lib.hid (Kd.R_below HR5.out hba)
  have HBa := Lib.hid (below_then HB2.out HB2.out.size hba)
  have HAlla := Lib.hid (Kd.R_below HAll2.out hba)
  have HYa := Lib.hid (HY2.out.next hba)
  have HG5 := Lib.hid (show w.heap.size ≤ g5 by rw [hg5]; exact HB2.out.size)
  refine (HD2.out _ _ _ (HB.out.next HBa.out)).mono ?_
  rintro e w3 ⟨v8, rfl, hr8, hb3⟩
  obtain ⟨A8, c8, rfl, hc8, _⟩ := Kd.R_reads hr8
  obtain ⟨W3, hW3⟩ : ∃ W3, W3 = w3.alloc (.cells #[.int .i64 L, .slice A8 l.length c8] 24) := ⟨_, rfl⟩
  obtain ⟨g8, hg8⟩ : ∃ g8, g8 = w3.heap.size := ⟨_, rfl⟩
  have hbb : Below w3.heap.size w3 W3 := by rw [hW3]; exact below_alloc (Below.refl _ _) _
  have H8 := Lib.hid (show W3.heap[g8]? = some (.cells #[.int .i64 L, .slice A8 l.length c8] 24 (0, 0)) by rw [hW3, hg8]; exact blk_new w3 _)
  have h58 : g5 < g8 := by have := blk_lt H5.out; have := hb3.size; omega
  have hb3' := below_then hb3 hb3.size hbb
  have H5b := Lib.hid (blk_below H5.out hb3')
  have HR5b := Lib.hid (Kd.R_below HR5a.out hb3')
  have HR8b : Hid (Kd.R kEn 44 W3 w.heap.size (fun k => some k ≠ (Value.slice A5 l.length c5).ownBlock) (.slice A8 l.length c8) l) := Lib.hid (Kd.R_lower (Kd.R_mono (Kd.R_below (Kd.R_bound hr8) hbb) (fun k hk e => by have := (R_lt HR5a.out k e.symm).2; have := hk.2.1; omega)) HBa.out.size)
  have HBb := Lib.hid (below_then HBa.out HBa.out.size hb3')
  have HAllb := Lib.hid (Kd.R_below HAlla.out hb3')
  have HYb := Lib.hid (HYa.out.next hb3')
  have j0 := blk_cell H5b.out 0
  have j1 := blk_cell H5b.out 1
  have m0 := blk_cell H8.out 0
  have m1 := blk_cell H8.out 1
  simp only [List.getElem?_toArray, List.getElem?_cons_zero, List.getElem?_cons_succ] at j0 j1 m0 m1
  clear hr8 hb3 hb3' hbb hc8 hba H5 HR5a HBa HAlla HYa HY2 HAll2 HB2 HR5
  go_upto_region 4 with (fail)
  rw [← hg5, ← hg8, ← hW3]
  clear hW3 hg5 hg8
  go_wp2_with fail
  refine (HSm.out _ _ _ _ _ _ _ (Kd.R_reads' HR5b.out).2.2 (Kd.R_reads' HR8b.out).2.2).mono ?_
  rintro e w4 ⟨rfl, hb4⟩
  clear j0 j1 m0 m1
  have H5c := Lib.hid (blk_below H5b.out hb4)
  have H8c := Lib.hid (blk_below H8.out hb4)
  have HR5c := Lib.hid (Kd.R_below HR5b.out hb4)
  have HR8c := Lib.hid (Kd.R_below HR8b.out hb4)
  have HBc := Lib.hid (below_then HBb.out HBb.out.size hb4)
  have HAllc := Lib.hid (Kd.R_below HAllb.out hb4)
  have HYc := Lib.hid (HYb.out.next hb4)
  have h48 := blk_lt H8c.out
  clear hb4 H5b H8 HR5b HR8b HBb HAllb HYb
  go_wp2_with fail
  refine (HD1.out _ _ _ HYc.out).mono ?_
  rintro e w5 ⟨v11, rfl, hr11, hb5⟩
  obtain ⟨A11, c11, rfl, hc11, _⟩ := Kd.R_reads hr11
  obtain ⟨W5, hW5⟩ : ∃ W5, W5 = w5.alloc (.cells #[.int .i64 L, .slice A11 l.length c11] 24) := ⟨_, rfl⟩
  obtain ⟨g11, hg11⟩ : ∃ g11, g11 = w5.heap.size := ⟨_, rfl⟩
  have hbb : Below w5.heap.size w5 W5 := by rw [hW5]; exact below_alloc (Below.refl _ _) _
  have H11 := Lib.hid (show W5.heap[g11]? = some (.cells #[.int .i64 L, .slice A11 l.length c11] 24 (0, 0)) by rw [hW5, hg11]; exact blk_new w5 _)
  have h811 : g8 < g11 := by have := hb5.size; omega
  have hb5' := below_then hb5 hb5.size hbb
  have St : Hid (DsSt w W5 L g5 g8 g11 (.slice A5 l.length c5) (.slice A8 l.length c8) (.slice A11 l.length c11) (.slice (some g0) (b.length + 4) cap) l l (b ++ [165, 90, 195, 60])) := Lib.hid
    ⟨blk_below H5c.out hb5', blk_below H8c.out hb5', H11.out, Kd.R_below HR5c.out hb5', Kd.R_below HR8c.out hb5', Kd.R_lower (Kd.R_mono (Kd.R_below (Kd.R_bound hr11) hbb) (fun k hk e => by have := (R_lt HR5c.out k e.symm).2; have := hk.2.1; omega)) HBc.out.size, Kd.R_below HAllc.out hb5', below_then HBc.out HBc.out.size hb5'⟩
  clear hr11 hb5 hb5' hbb hc11 H5c H8c HR5c HR8c HBc HAllc HYc H11 h48 HD1 HD2
  go_upto_region 7 with (fail)
  rw [← hg11, ← hW5]
  clear hW5 hg11
  have j1 := blk_cell St.out.b5 1
  simp only [List.getElem?_toArray, List.getElem?_cons_zero, List.getElem?_cons_succ] at j1
  go_wp2
  clear j1
  go_loopg [55] (l.length + 1) (fun k v55 W => ∃ (i : Nat) (cur : List En), v55 = .int .i64 (i : Int) ∧ i + k = l.length + 1 ∧ i ≤ l.length ∧ Hid (cur.length = l.length) ∧ Hid (DsSt w W L g5 g8 g11 (.slice A5 l.length c5) (.slice A8 l.length c8) (.slice A11 l.length c11) (.slice (some g0) (b.length + 4) cap) cur l (b ++ [165, 90, 195, 60])))
  case atStart => exact ⟨0, l, rfl, by omega, by omega, Lib.hid rfl, St⟩
  case round =>
    obtain ⟨i, cur, rfl, hi, hil, hcl, St1⟩ := hrel
    have j1 := blk_cell St1.out.b5 1
    simp only [List.getElem?_toArray, List.getElem?_cons_zero, List.getElem?_cons_succ] at j1
    by_cases hlt : i < l.length
    · have d1 : decide ((i : Int) < (l.length : Int)) = true := decide_eq_true (by omega)
      obtain ⟨g9, cap9, he9, _, _, _⟩ := Kd.R_form St1.out.r5 (by rw [hcl.out]; omega)
      injection he9 with he9 _ _
      subst he9
      obtain ⟨k, rfl⟩ : ∃ k, gk = k + 1 := ⟨gk - 1, by omega⟩
      obtain ⟨ad, hade, hwf, hrng⟩ := at_en (Kd.R_reads' St1.out.r5).2.2 i (by rw [hcl.out]; exact hlt)
      injection hade with hade
      subst hade
      have HWf := Lib.hid hwf
      have HRng := Lib.hid hrng
      clear hwf hrng
      have HR := Lib.hid (show Kd.R kEn 44 wr w.heap.size (fun _ => True) (.slice (some ⟨g9, 0, none⟩) l.length c5) cur from St1.out.r5)
      have HCC : Hid (∀ j u, (enC (cur.getD i en0))[j]? = some u → wr.cell? ⟨g9, (i : Int).toNat * 28 + j, none⟩ = some u) := Lib.hid (fun j u hj => by
        have h1 := HRng.out j u hj
        have e : (((⟨g9, 0, none⟩ : Addr).add (i * 28)).add j) = ⟨g9, (i : Int).toNat * 28 + j, none⟩ := by
          rw [Addr.add_mid, Addr.add_mid, Int.toNat_natCast, Nat.zero_add]
        rwa [e] at h1)
      go_wp2_with (first | ((with_reducible refine gate_store (t := 44) (p := 62) rfl ?_); refine Kd.R_store kEn (w0 := w) w.heap.size rfl rfl 44 (.tmp 62) (.tmp 61) rfl 44 (g := g9) (n := l.length) (cap := c5) (o' := i * 28) (i : Int) 0 cur (enM (-1)) (.agg (enC (enM (-1))).toArray) (enC (enM (-1))) (enC (cur.getD i en0)) (fun _ => True) (fun k => k ≠ g9) rfl (by rw [Int.toNat_natCast]; rfl) rfl (by kernel_rfl) (by kernel_rfl) (enC_one _) HR.out (by omega) (by omega) (enC_len HWf.out) HCC.out (by rw [enC_len fr0_wf]; exact Nat.le_refl _) ⟨by rw [List.take_zero, List.nil_append, enC_len fr0_wf, List.drop_eq_nil_of_le (by rw [enC_len HWf.out]; exact Nat.le_refl _), List.append_nil], fr0_wf⟩ (fun k hk => ⟨trivial, hk⟩) St1.out.below ?_; intro W2 hR2 hb2 hg2; have HR2 := Lib.hid hR2; have HB2 := Lib.hid hb2; have HG2 := Lib.hid hg2; clear hR2 hb2 hg2))
      go_roundg k
      case measure => omega
      case rel => exact ⟨i + 1, cur.set i (enM (-1)), by simp, by omega, by omega, Lib.hid (by rw [List.length_set]; exact hcl.out), Lib.hid (St1.out.put (by have := HR2.out; rwa [Int.toNat_natCast] at this) HG2.out HB2.out)⟩
    · have d1 : decide ((i : Int) < (l.length : Int)) = false := decide_eq_false (by omega)
      have HCl := Lib.hid hcl.out
      clear hcl
      go_wp2
      obtain ⟨wo, rfl⟩ : ∃ wo : World, wo = wr := ⟨_, rfl⟩
      clear j1 d1
      go_loopg [64] 21 (fun k v64 W => ∃ (j : Nat) (cur2 : List En) (v5 : Value), v64 = .int .i64 (j : Int) ∧ j + k = 21 ∧ j ≤ 20 ∧ Hid (cur2.length = l.length + j) ∧ Hid (DsSt w W L g5 g8 g11 v5 (.slice A8 l.length c8) (.slice A11 l.length c11) (.slice (some g0) (b.length + 4) cap) cur2 l (b ++ [165, 90, 195, 60])))
      case atStart => exact ⟨0, cur, _, rfl, by omega, by omega, HCl, St1⟩
      case round =>
        obtain ⟨j, cur2, v5, rfl, hj, hjl, hc2, St2⟩ := hrel
        have j1 := blk_cell St2.out.b5 1
        simp only [List.getElem?_toArray, List.getElem?_cons_zero, List.getElem?_cons_succ] at j1
        by_cases hlt2 : j < 20
        · have d2 : decide ((j : Int) < 20) = true := decide_eq_true (by omega)
          obtain ⟨k, rfl⟩ : ∃ k, gk = k + 1 := ⟨gk - 1, by omega⟩
          have HLn : Hid ((cur2.length + 1) * 56 ≤ 140737488355328) := Lib.hid (by rw [hc2.out]; omega)
          go_wp2_with (first | ((with_reducible refine gate_dst (N := 69) rfl ?_); refine wpList_bs44 rfl (.tmp 68) rfl (enM (-2)) fr0_wf rfl ?_; intro W8 hW8 hb8 hs8) | ((with_reducible refine gate_dst (N := 70) rfl ?_); at_builtin; refine Kd.R_append_rows kEn (w0 := w) w.heap.size rfl (.tmp 67) (.tmp 69) 22 44 (enV en0) 56 rfl Try.underlying22 info44 rfl (by decide) (by omega) v5 cur2 [enM (-2)] (some ⟨wr.heap.size, 0, none⟩) 1 1 (fun _ => True) (fun _ => False) rfl rfl (Kd.R_below St2.out.r5 hb8) (C_one44 hW8 fr0_wf) (fun _ _ h => h) (fun _ h => h.elim) (fun _ _ => trivial) (below_then St2.out.below St2.out.below.size hb8) (Nat.le_trans St2.out.below.size hb8.size) HLn.out ?_; intro v1 w1 ho hb hg hv; obtain ⟨g9, cap9, rfl, _, _, _⟩ := Kd.R_form ho (by simp); have hcg := blk_own (St2.out.next hb8).r5 hg (St2.out.next hb8).b5 (by decide); have HS8 := Lib.hid (St2.out.next hb8); have HO := Lib.hid ho; have HBn := Lib.hid hb; have HGn := Lib.hid hg; have HV := Lib.hid hv; have q1 := blk_cell hcg 1; have q2 := blk_frozen hcg 1; clear hcg ho hb hg hv hW8 hb8 j1))
          go_roundg k
          case measure => omega
          case rel =>
            have hS := HS8.out.app (by omega) (by omega) HG5.out HO.out HGn.out HV.out HBn.out
            rw [List.length_append, List.length_singleton] at hS
            exact ⟨j + 1, cur2 ++ [enM (-2)], _, by simp, by omega, by omega, Lib.hid (by rw [List.length_append, List.length_singleton, hc2.out]; omega), Lib.hid hS⟩
        · have d2 : decide ((j : Int) < 20) = false := decide_eq_false (by omega)
          have k0 := blk_cell St2.out.b11 0
          have k1 := blk_cell St2.out.b11 1
          have m0 := blk_cell St2.out.b8 0
          have m1 := blk_cell St2.out.b8 1
          simp only [List.getElem?_toArray, List.getElem?_cons_zero, List.getElem?_cons_succ] at k0 k1 m0 m1
          have HU := Lib.hid (fun W (hb : Below wr.heap.size wr W) => PCertReads.provisoplain_Untouched.calls (b.length + 1) (some g0) cap (b ++ [165, 90, 195, 60]) A c b true W (Kd.C_below (Kd.R_reads' St2.out.all).2.2 hb) (by simp; exact HCap.out) (Kd.C_below (HB.out.next St2.out.below).r hb) HB.out.c (untouched_is b hl48))
          rw [E4.out] at HU
          go_wp2_with fail
          refine (HSm.out _ _ _ _ _ _ _ (Kd.R_reads' St2.out.r11).2.2 (Kd.R_reads' St2.out.r8).2.2).mono ?_
          rintro e w6 ⟨rfl, hb6⟩
          clear k0 k1 m0 m1 j1
          have HU6 := Lib.hid (HU.out _ hb6)
          have HB6 := Lib.hid (below_then St2.out.below St2.out.below.size hb6)
          clear hb6
          go_wp2_with (first | (go_at_call 29; refine HU6.out.mono ?_; rintro e w9 ⟨rfl, ⟨⟨n9, rfl⟩⟩⟩))
          go_ret
          exact ⟨by first | rfl | simp, pw_below_drewN HB6.out _⟩
end Go.Proofs.Ytfbdnfokoakfaaa.Ct
namespace Go.Proofs.Ytfbdnfokoakfaaa.Ct
open Go.RowKit Go.Proofs.YtfbdnfokoakfaaaW.PrintWords Go.Proofs.Ytfbdnfokoakfaaa.CloneC
set_option linter.unusedVariables false
theorem decodes_row (A : Option Addr) (c : Nat) (l : List Int) (W : World) (y : l.length * 1 ≤ 140737488351232) (hc : l.length ≤ c) (hC : Kd.C (Kd.int .u8) W A l.length l) (hw : ∀ n ∈ l, (Lit.int .u8 n).wf = true) :
    Calls Try.prog 8 #[.slice A l.length c] W fun e W' => e = .returned (.bool true) ∧ Below W.heap.size W W' :=
  decodes_law A c l W ⟨hC, hc, u8_rows hw, by omega⟩
end Go.Proofs.Ytfbdnfokoakfaaa.Ct
