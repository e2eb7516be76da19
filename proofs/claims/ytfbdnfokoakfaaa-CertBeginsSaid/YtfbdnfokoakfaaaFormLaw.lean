/- provisolaw06.CertForm: its walk. -/
import Derived.Test.YtfbdnfokoakfaaaDecodeC
import Derived.Test.YtfbdnfokoakfaaaBackP
import Derived.Test.YtfbdnfokoakfaaaEncodesLaw
import Derived.Test.YtfbdnfokoakfaaaReadsP
namespace Go.Proofs.Ytfbdnfokoakfaaa.Ct
open Go.RowKit Go.Proofs.YtfbdnfokoakfaaaW.PrintWords Go.Proofs.YtfbdnfokoakfaaaW.PrintLast Go.Proofs.YtfbdnfokoakfaaaW.PrintMore
set_option linter.unusedVariables false
set_option linter.unusedSimpArgs false

theorem C_nil (W : World) : Kd.C kEn W none 0 [] := ⟨rfl, by simp, fun h => by simp at h⟩
theorem enc_none : encR 2 [] = ([112, 118, 1, 2, 0, 0], 0) := by kernel_rfl
/-- What was told is encoded as the bytes that were read. -/
theorem encR_told (b : List Int) (hb : ∀ x, x ∈ b → 0 ≤ x ∧ x ≤ 255) (hz : (toldS b).2.2.2 = 0) : encR (decL b) (decE b) = (b, 0) := by
  obtain ⟨L, n, hh, _⟩ := told_ok b hz
  obtain ⟨g1, g2, _⟩ := encS_told b hb L n hh hz
  have hL : L = gB b 3 := (headS_ok b hb _ hh).2.2.1
  have e1 : decL b = L := by unfold decL; rw [if_pos hz, hL]
  have e2 : decE b = (toldS b).1 := by unfold decE; rw [if_pos hz]
  rw [e1, e2]
  unfold encR
  rw [if_pos ((check_good L _).2 g1), g2]

set_option maxHeartbeats 8000000 in
set_option maxRecDepth 100000 in
theorem form_law (A : Option Addr) (c : Nat) (b : List Int) (w : World) (h : ByR w A c b) (hl48 : b.length ≤ 140737488351232) : Calls Try.prog 12 #[.slice A b.length c] w fun e w' => e = .returned (.bool true) ∧ Below w.heap.size w w' := by
  have HB := Lib.hid h
  have HD1 := Lib.hid (fun A c W (h : ByR W A c b) => decode_c A c b W h)
  unfold DcPost at HD1
  obtain ⟨L, hL⟩ : ∃ L, L = decL b := ⟨_, rfl⟩
  obtain ⟨l, hl⟩ : ∃ l, l = decE b := ⟨_, rfl⟩
  obtain ⟨p, hp⟩ : ∃ p, p = (toldS b).2.2.1 := ⟨_, rfl⟩
  obtain ⟨q, hq⟩ : ∃ q, q = (toldS b).2.2.2 := ⟨_, rfl⟩
  rw [← hL, ← hl, ← hp, ← hq] at HD1
  have HE2 : Hid (q = 0 → ∀ A c W, Kd.C kEn W A l.length l → Calls Try.prog 17 #[.agg #[.int .i64 L, .slice A l.length c]] W fun e w' => ∃ A c, e = .returned (.tuple #[.slice A b.length c, .int .i64 0]) ∧ Kd.R (Kd.int .u8) 5 w' W.heap.size (fun _ => True) (.slice A b.length c) b ∧ Below W.heap.size W w') := Lib.hid (fun hz A c W h => (encode_c L A c l W h).mono (fun e w' he => by
    have := enc_post he
    rw [hL, hl, encR_told b HB.out.y (by rw [← hq]; exact hz)] at this
    exact this))
  have HE1 : Hid (∀ W, Calls Try.prog 17 #[.agg #[.int .i64 2, .slice none 0 0]] W fun e w' => ∃ A c, e = .returned (.tuple #[.slice A 6 c, .int .i64 0]) ∧ Kd.R (Kd.int .u8) 5 w' W.heap.size (fun _ => True) (.slice A 6 c) [112, 118, 1, 2, 0, 0] ∧ Below W.heap.size W w') := Lib.hid (fun W => (encode_c 2 none 0 [] W (C_nil W)).mono (fun e w' he => by
    have := enc_post he
    rw [enc_none] at this
    exact this))
  clear h hL hl hp hq
  go_enter Try.func12, Try.ntmps12
  go_wp2_with fail
  refine (HE1.out _).mono ?_
  rintro e w1 ⟨A1, c1, rfl, hr1, hb1⟩
  have HR1 := Lib.hid hr1
  have HB1 := Lib.hid hb1
  clear hr1 hb1
  go_wp2_with fail
  have hlit := lit_R w1 [112, 118, 1, 2, 0, 0] (by decide)
  refine (show Calls Try.prog 19 #[.slice A1 6 c1, .slice (some ⟨w1.heap.size, 0, none⟩) 6 6] (w1.alloc (.cells (nums .u8 [112, 118, 1, 2, 0, 0]).toArray 5)) _ from equal_c A1 (some ⟨w1.heap.size, 0, none⟩) c1 6 [112, 118, 1, 2, 0, 0] (by decide) _ (Kd.C_alloc (Kd.R_reads' HR1.out).2.2 _) (Kd.R_reads' HR1.out).2.1 (Kd.R_reads' hlit).2.2 (Kd.R_reads' hlit).2.1).mono ?_
  rintro e w2 ⟨rfl, ⟨⟨n2, rfl⟩⟩⟩
  obtain ⟨W2, hW2⟩ : ∃ W2, W2 = (w1.alloc (.cells (nums .u8 [112, 118, 1, 2, 0, 0]).toArray 5)).drewN n2 := ⟨_, rfl⟩
  have HB2 : Hid (Below w.heap.size w W2) := Lib.hid (by rw [hW2]; exact pw_below_drewN (below_alloc HB1.out _) n2)
  rw [← hW2]
  clear hW2 hlit HR1 HB1
  by_cases hz : q = 0
  · have d0 : (q != 0) = false := by simpa using hz
    have HZ := Lib.hid hz
    have HE3 := Lib.hid (HE2.out hz)
    clear hz HE2
    go_wp2_with fail
    refine (HD1.out _ _ _ (HB.out.next HB2.out)).mono ?_
    rintro e w3 ⟨v5, rfl, hr5, hb3⟩
    obtain ⟨A5, c5, rfl, hc5, _⟩ := Kd.R_reads hr5
    obtain ⟨W3, hW3⟩ : ∃ W3, W3 = w3.alloc (.cells #[.int .i64 L, .slice A5 l.length c5] 24) := ⟨_, rfl⟩
    obtain ⟨g5, hg5⟩ : ∃ g5, g5 = w3.heap.size := ⟨_, rfl⟩
    have hbb : Below w3.heap.size w3 W3 := by rw [hW3]; exact below_alloc (Below.refl _ _) _
    have H5 := Lib.hid (show W3.heap[g5]? = some (.cells #[.int .i64 L, .slice A5 l.length c5] 24 (0, 0)) by rw [hW3, hg5]; exact blk_new w3 _)
    have HC5 := Lib.hid (Kd.C_below (Kd.R_reads' hr5).2.2 hbb)
    have HB3 := Lib.hid (below_then HB2.out HB2.out.size (below_then hb3 hb3.size hbb))
    clear hr5 hb3 hc5
    go_upto_region 5 with (fail)
    rw [← hg5, ← hW3]
    clear hW3 hg5 hbb
    have j0 := blk_cell H5.out 0
    have j1 := blk_cell H5.out 1
    simp only [List.getElem?_toArray, List.getElem?_cons_zero, List.getElem?_cons_succ] at j0 j1
    go_wp2_with fail
    refine (HE3.out _ _ _ HC5.out).mono ?_
    rintro e w4 ⟨A6, c6, rfl, hr6, hb4⟩
    clear j0 j1
    have HR6 := Lib.hid hr6
    have HB4 := Lib.hid (below_then HB3.out HB3.out.size hb4)
    clear hr6 hb4
    go_wp2_with fail
    refine (equal_c A6 A c6 c b (by omega) _ (Kd.R_reads' HR6.out).2.2 (Kd.R_reads' HR6.out).2.1 (HB.out.next HB4.out).r HB.out.c).mono ?_
    rintro e w5 ⟨rfl, ⟨⟨n5, rfl⟩⟩⟩
    go_wp2
    go_ret
    exact ⟨by first | rfl | simp, pw_below_drewN HB4.out _⟩
  · have d0 : (q != 0) = true := by simpa using hz
    clear hz HE2
    go_wp2_with fail
    refine (HD1.out _ _ _ (HB.out.next HB2.out)).mono ?_
    rintro e w3 ⟨v5, rfl, hr5, hb3⟩
    obtain ⟨A5, c5, rfl, hc5, _⟩ := Kd.R_reads hr5
    have HB3 := Lib.hid (below_then HB2.out HB2.out.size hb3)
    clear hr5 hb3 hc5
    go_wp2
    go_ret
    exact ⟨by first | rfl | simp, below_alloc HB3.out _⟩
theorem form_row (A : Option Addr) (c : Nat) (l : List Int) (W : World) (y : l.length * 1 ≤ 140737488351232) (hc : l.length ≤ c) (hC : Kd.C (Kd.int .u8) W A l.length l) (hw : ∀ n ∈ l, (Lit.int .u8 n).wf = true) :
    Calls Try.prog 12 #[.slice A l.length c] W fun e W' => e = .returned (.bool true) ∧ Below W.heap.size W W' :=
  form_law A c l W ⟨hC, hc, CloneC.u8_rows hw, by omega⟩ (by omega)
end Go.Proofs.Ytfbdnfokoakfaaa.Ct
