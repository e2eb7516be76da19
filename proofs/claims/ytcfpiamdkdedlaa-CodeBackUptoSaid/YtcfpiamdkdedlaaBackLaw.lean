/- The law CodeBack, walked, where what comes in is not too long. -/
import Derived.Test.YtcfpiamdkdedlaaSpecC
import Derived.Test.YtcfpiamdkdedlaaFitC
import Derived.Test.YtcfpiamdkdedlaaEncC
import Derived.Test.YtcfpiamdkdedlaaCloneC
import Derived.Test.YtcfpiamdkdedlaaDecodeE
namespace Go.Proofs.Ytcfpiamdkdedlaa.BackC
open Go.RowKit Go.Proofs.YtcfpiamdkdedlaaW.PrintWords Go.Proofs.YtcfpiamdkdedlaaW.PrintLast Go.Proofs.YtcfpiamdkdedlaaW.PrintMore Go.Proofs.Ytcfpiamdkdedlaa.Spec Go.Proofs.Ytcfpiamdkdedlaa.EncC Go.Proofs.Ytcfpiamdkdedlaa.FitC
open Go.Proofs.Ytcfpiamdkdedlaa.DecodeC (decode_any DecPost size_any)
set_option linter.unusedVariables false
attribute [local go_sem] drewN_set drewN_new

set_option maxHeartbeats 2000000 in
set_option maxRecDepth 100000 in
theorem law_any (a op A B : Int) (A1 : Option Addr) (c1 : Nat) (l1 : List Int) (A2 : Option Addr) (c2 : Nat) (l2 : List Int) (w : World) (h0 : 0 ≤ op) (h1 : op ≤ 255)
    (hl1 : l1.length ≤ 1048576) (hc1 : l1.length ≤ c1) (hr1 : Kd.C (Kd.int .u8) w A1 l1.length l1) (hb1 : ∀ x ∈ l1, 0 ≤ x ∧ x ≤ 255)
    (hl2 : l2.length ≤ 1048576) (hc2 : l2.length ≤ c2) (hr2 : Kd.C (Kd.int .u8) w A2 l2.length l2) (hb2 : ∀ x ∈ l2, 0 ≤ x ∧ x ≤ 255) :
    Calls Try.prog 8 #[.agg #[.int .i64 a, .int .u8 op, .int .i64 A, .int .i64 B], .slice A1 l1.length c1, .slice A2 l2.length c2] w fun e w' => e = .returned (.bool true) ∧ Below w.heap.size w w' := by
  have HR1 := Lib.hid hr1
  have HB1 := Lib.hid hb1
  have HR2 := Lib.hid hr2
  have HB2 := Lib.hid hb2
  clear hr1 hb1 hr2 hb2
  obtain ⟨q, hq⟩ : ∃ q, q = op % 34 := ⟨_, rfl⟩
  have hq0 : 0 ≤ q := by omega
  have hq1 : q < 34 := by omega
  obtain ⟨X, hX⟩ : ∃ X, X = fitX q A B := ⟨_, rfl⟩
  obtain ⟨Y, hY⟩ : ∃ Y, Y = fitY q B := ⟨_, rfl⟩
  have F1 : Hid (fitS q X (wA q) = true) := Lib.hid (by rw [hX]; exact fit_X q A B)
  have F2 : Hid (fitS q Y (wB q) = true) := Lib.hid (by rw [hY]; exact fit_Y q B)
  have HF : Hid (∀ W, Calls Try.prog 32 #[.agg #[.int .i64 a, .int .u8 op, .int .i64 A, .int .i64 B]] W fun e w' => e = .returned (.agg #[.int .i64 0, .int .u8 q, .int .i64 X, .int .i64 Y]) ∧ Below W.heap.size W w') := by
    refine Lib.hid (fun W => ?_)
    have := fit_any a op A B W h0 h1
    rw [← hq] at this
    rw [hX, hY]
    exact this
  clear hX hY hq
  obtain ⟨bs, hbs⟩ : ∃ bs, bs = q :: (be X (wA q) ++ be Y (wB q)) := ⟨_, rfl⟩
  have hblen : bs.length ≤ 6 := by rw [hbs]; have := wA_le q; have := wB_le q; simp [be_length]; omega
  have hbpos : 0 < bs.length := by rw [hbs]; simp
  have hbsz : (sizeS q == (bs.length : Int)) = true := by
    rw [hbs]
    unfold sizeS
    rw [if_neg (by omega)]
    simp [be_length]; omega
  have HS := Lib.hid hbs
  clear hbs
  go_enter Try.func8, Try.ntmps8
  go_wp2_with fail
  refine (HF.out _).mono ?_
  rintro e w1 ⟨rfl, b1⟩
  have B1 := Lib.hid ((below_alloc (Below.refl w.heap.size w) (.cells #[Value.int IntKind.i64 a, Value.int IntKind.u8 op, Value.int IntKind.i64 A, Value.int IntKind.i64 B] 29)).trans (b1.mono (by simp)))
  have K1 := blk_below (blk_new w (.cells #[Value.int IntKind.i64 a, Value.int IntKind.u8 op, Value.int IntKind.i64 A, Value.int IntKind.i64 B] 29)) b1
  have hx0 : w1.cell? ⟨w.heap.size, 0, none⟩ = some (Value.int IntKind.i64 a) := (blk_cell K1 0).trans rfl
  have hx1 : w1.cell? ⟨w.heap.size, 1, none⟩ = some (Value.int IntKind.u8 op) := (blk_cell K1 1).trans rfl
  have hx2 : w1.cell? ⟨w.heap.size, 2, none⟩ = some (Value.int IntKind.i64 A) := (blk_cell K1 2).trans rfl
  have hx3 : w1.cell? ⟨w.heap.size, 3, none⟩ = some (Value.int IntKind.i64 B) := (blk_cell K1 3).trans rfl
  have hf0 : w1.frozen? ⟨w.heap.size, 0, none⟩ = false := blk_frozen K1 0
  have hf1 : w1.frozen? ⟨w.heap.size, 1, none⟩ = false := blk_frozen K1 1
  have hf2 : w1.frozen? ⟨w.heap.size, 2, none⟩ = false := blk_frozen K1 2
  have hf3 : w1.frozen? ⟨w.heap.size, 3, none⟩ = false := blk_frozen K1 3
  have K2 : Hid (((((w1.setCell ⟨w.heap.size, 0, none⟩ (Value.int IntKind.i64 0)).setCell ⟨w.heap.size, 1, none⟩ (Value.int IntKind.u8 q)).setCell ⟨w.heap.size, 2, none⟩ (Value.int IntKind.i64 X)).setCell ⟨w.heap.size, 3, none⟩ (Value.int IntKind.i64 Y)).heap[w.heap.size]? = some (.cells #[Value.int IntKind.i64 0, Value.int IntKind.u8 q, Value.int IntKind.i64 X, Value.int IntKind.i64 Y] 29 (0, 0))) := Lib.hid (blk_put (blk_put (blk_put (blk_put K1 0 _ rfl) 1 _ rfl) 2 _ rfl) 3 _ rfl)
  have B2 : Hid (Below w.heap.size w ((((w1.setCell ⟨w.heap.size, 0, none⟩ (Value.int IntKind.i64 0)).setCell ⟨w.heap.size, 1, none⟩ (Value.int IntKind.u8 q)).setCell ⟨w.heap.size, 2, none⟩ (Value.int IntKind.i64 X)).setCell ⟨w.heap.size, 3, none⟩ (Value.int IntKind.i64 Y))) := Lib.hid (below_set (below_set (below_set (below_set B1.out (Nat.le_refl _)) (Nat.le_refl _)) (Nat.le_refl _)) (Nat.le_refl _))
  clear b1 K1
  go_wp2_with fail
  generalize ((((w1.setCell ⟨w.heap.size, 0, none⟩ (Value.int IntKind.i64 0)).setCell ⟨w.heap.size, 1, none⟩ (Value.int IntKind.u8 q)).setCell ⟨w.heap.size, 2, none⟩ (Value.int IntKind.i64 X)).setCell ⟨w.heap.size, 3, none⟩ (Value.int IntKind.i64 Y)) = W2 at K2 B2 ⊢
  clear hx0 hx1 hx2 hx3 hf0 hf1 hf2 hf3 B1
  refine (encode_any 0 q X Y hq0 (by omega) _).mono ?_
  rintro e w2 ⟨v0, rfl, ho, b2⟩
  rw [encode_of hq1 F1.out F2.out] at ho ⊢
  rw [← HS.out] at ho
  obtain ⟨A3, c3, rfl, hc3, hC3⟩ := Kd.R_reads ho
  have K3 := Lib.hid (blk_below K2.out b2)
  have B3 := Lib.hid (B2.out.trans (b2.mono B2.out.size))
  have HC3 := Lib.hid hC3
  clear b2 ho hC3 B2 K2
  have hbn : (bs.length == 0) = false := beq_eq_false_iff_ne.2 (by omega)
  have hbn2 : ((bs.length : Int) == 0) = false := beq_eq_false_iff_ne.2 (by omega)
  go_wp2_with fail
  refine (CloneC.clone_any A1 c1 l1 _ (Kd.C_below HR1.out B3.out) hc1 (by omega)).mono ?_
  rintro e w3 ⟨v1, rfl, ho, b3⟩
  have K4 := Lib.hid (blk_below K3.out b3)
  have O1 := Lib.hid (Kd.R_lower ho B3.out.size)
  have C3 := Lib.hid (Kd.C_below HC3.out b3)
  have B4 := Lib.hid (B3.out.trans (b3.mono B3.out.size))
  clear b3 ho B3 K3 HC3
  go_wp2_with (first
    | (at_builtin; refine Kd.R_append_rows (Kd.int .u8) (w0 := w) w.heap.size rfl (.tmp 26) (.tmp 27) 30 5 (.int .u8 0) 1 rfl Try.underlying30 PCodePatches.info5 rfl (by decide) (by omega) v1 l1 bs A3 bs.length c3 (fun _ => True) (fun k => some k ≠ v1.ownBlock) rfl rfl O1.out C3.out (fun _ _ h => h) (fun k h => ⟨trivial, h⟩) (fun _ _ => trivial) B4.out B4.out.size (by omega) ?_; intro v2 w4 ho hb hg _; have O2 := Lib.hid ho; have B5 := Lib.hid hb; have K5 := Lib.hid (blk_grown K4.out hg (Kd.R_ne O1.out K4.out (by decide))); clear ho hb hg)
    | (at_builtin; refine Kd.R_append_rows (Kd.int .u8) (w0 := w) w.heap.size rfl (.tmp 28) (.tmp 29) 30 5 (.int .u8 0) 1 rfl Try.underlying30 PCodePatches.info5 rfl (by decide) (by omega) v2 (l1 ++ bs) l2 A2 l2.length c2 (fun _ => True) (fun k => some k ≠ v2.ownBlock) rfl rfl O2.out (Kd.C_below HR2.out B5.out) (fun _ _ h => h) (fun k h => ⟨trivial, h⟩) (fun _ _ => trivial) B5.out B5.out.size (by rw [List.length_append]; omega) ?_; intro v3 w5 ho hb hg _; obtain ⟨A4, c4, rfl, hc4, hC4⟩ := Kd.R_reads ho; have C6 := Lib.hid hC4; have B6 := Lib.hid hb; have K6 := Lib.hid (blk_grown K5.out hg (Kd.R_ne O2.out K5.out (by decide))); clear ho hb hg hC4))
  have hLL : ((l1 ++ bs) ++ l2).length = l1.length + (bs.length + l2.length) := by simp
  refine calls_of_args (args' := #[.slice A4 ((l1 ++ bs) ++ l2).length c4, .int .i64 (l1.length : Int)]) (by rw [hLL]) ?_
  have hbb : ∀ x ∈ (l1 ++ bs) ++ l2, 0 ≤ x ∧ x ≤ 255 := by
    intro x hx
    rw [List.mem_append, List.mem_append] at hx
    rcases hx with (hx | hx) | hx
    · exact HB1.out x hx
    · rw [HS.out] at hx
      have := encode_bytes q X Y hq0 (by omega) x
      rw [encode_of hq1 F1.out F2.out] at this
      exact this hx
    · exact HB2.out x hx
  have hdec : decodeS ((l1 ++ bs) ++ l2) (l1.length : Int) = (((l1.length : Int), q, X, Y), 0) := by
    rw [HS.out]; exact back hq0 hq1 F1.out F2.out l1 l2
  refine (decode_any A4 c4 ((l1 ++ bs) ++ l2) (l1.length : Int) _ (by rw [hLL]; omega) hc4 C6.out hbb).mono ?_
  rintro e w6 ⟨rfl, b6⟩
  rw [hdec]
  have K7 := blk_below K6.out b6
  have B7 := Lib.hid (B6.out.trans (b6.mono B6.out.size))
  have hz : w.heap.size < w6.heap.size := blk_lt K7
  have hz2 : w.heap.size < w6.heap.size + 1 := by omega
  have hne : w6.heap.size ≠ w.heap.size := by omega
  have hne2 : w.heap.size ≠ w6.heap.size := by omega
  have hq_0 : w6.cell? ⟨w.heap.size, 0, none⟩ = some (Value.int IntKind.i64 0) := (blk_cell K7 0).trans rfl
  have hq_1 : w6.cell? ⟨w.heap.size, 1, none⟩ = some (Value.int IntKind.u8 q) := (blk_cell K7 1).trans rfl
  have hq_2 : w6.cell? ⟨w.heap.size, 2, none⟩ = some (Value.int IntKind.i64 X) := (blk_cell K7 2).trans rfl
  have hq_3 : w6.cell? ⟨w.heap.size, 3, none⟩ = some (Value.int IntKind.i64 Y) := (blk_cell K7 3).trans rfl
  have hf_0 : w6.frozen? ⟨w.heap.size, 0, none⟩ = false := blk_frozen K7 0
  clear K7 b6 hLL hbb hdec hc4
  go_wp2_with fail
  refine (size_any q hq0 (by omega) _).mono ?_
  rintro e w7 ⟨rfl, ⟨⟨n7, rfl⟩⟩⟩
  go_wp2_with fail
  go_ret
  exact ⟨by simp, pw_below_drewN (below_alloc (below_set B7.out (Nat.le_refl _)) _) _⟩

theorem u8_rows {l : List Int} (h : ∀ x ∈ l, (Lit.int .u8 x).wf = true) : ∀ x ∈ l, 0 ≤ x ∧ x ≤ 255 := by
  intro x hx
  have := h x hx
  simp [Lit.wf, IntKind.min, IntKind.max, IntKind.signed, IntKind.bits] at this
  omega

theorem CodeBack (a op A B : Int) (A1 : Option Addr) (c1 : Nat) (l1 : List Int) (A2 : Option Addr) (c2 : Nat) (l2 : List Int) (w : World) (_ : (Lit.int .i64 a).wf = true) (ho : (Lit.int .u8 op).wf = true) (_ : (Lit.int .i64 A).wf = true) (_ : (Lit.int .i64 B).wf = true)
    (hl1 : l1.length ≤ 1048576) (_ : l1.length * 1 ≤ 140737488351232) (hc1 : l1.length ≤ c1) (hr1 : Kd.C (Kd.int .u8) w A1 l1.length l1) (hb1 : ∀ x ∈ l1, (Lit.int .u8 x).wf = true)
    (hl2 : l2.length ≤ 1048576) (_ : l2.length * 1 ≤ 140737488351232) (hc2 : l2.length ≤ c2) (hr2 : Kd.C (Kd.int .u8) w A2 l2.length l2) (hb2 : ∀ x ∈ l2, (Lit.int .u8 x).wf = true) :
    Calls Try.prog 8 #[.agg #[.int .i64 a, .int .u8 op, .int .i64 A, .int .i64 B], .slice A1 l1.length c1, .slice A2 l2.length c2] w fun e w' => e = .returned (.bool true) ∧ Below w.heap.size w w' := by
  have h : 0 ≤ op ∧ op ≤ 255 := by
    simp [Lit.wf, IntKind.min, IntKind.max, IntKind.signed, IntKind.bits] at ho
    omega
  exact law_any a op A B A1 c1 l1 A2 c2 l2 w h.1 h.2 hl1 hc1 hr1 (u8_rows hb1) hl2 hc2 hr2 (u8_rows hb2)
end Go.Proofs.Ytcfpiamdkdedlaa.BackC
