/- provisolaw06.CertEncodes: its walk. -/
import Derived.Test.YtfbdnfokoakfaaaREncC
import Derived.Test.YtfbdnfokoakfaaaChecksLaw
import Derived.Test.YtfbdnfokoakfaaaPCertEncodesx1
namespace Go.Proofs.Ytfbdnfokoakfaaa.Ct
open Go.RowKit Go.Proofs.YtfbdnfokoakfaaaW.PrintWords Go.Proofs.YtfbdnfokoakfaaaW.PrintLast Go.Proofs.YtfbdnfokoakfaaaW.PrintMore
set_option linter.unusedVariables false
set_option linter.unusedSimpArgs false

theorem eq_bytes (l : List Int) (h : l.length ≤ 140737488355328) : ∀ (d i k : Nat), i + d = l.length → d < k → PCertEncodes.slices_Equal_byte_byte.l0 k l l (l.length : Int) (i : Int) = some true := by
  intro d
  induction d with
  | zero =>
    intro i k hi hk
    obtain ⟨k, rfl⟩ : ∃ m, k = m + 1 := ⟨k - 1, by omega⟩
    rw [PCertEncodes.slices_Equal_byte_byte.l0, if_neg (by omega)]
  | succ d ih =>
    intro i k hi hk
    obtain ⟨k, rfl⟩ : ∃ m, k = m + 1 := ⟨k - 1, by omega⟩
    have ew : wrap64 ((i : Int) + 1) = ((i + 1 : Nat) : Int) := by unfold wrap64; omega
    rw [PCertEncodes.slices_Equal_byte_byte.l0, if_pos (by omega), if_pos (by omega), if_pos (by omega), if_pos (by omega)]
    simp only [ew, ih (i + 1) k (by omega) (by omega)]
    simp
theorem equal_c (A0 A1 : Option Addr) (c0 c1 : Nat) (l : List Int) (hl : l.length ≤ 140737488355328) (w : World) (hr0 : Kd.C (Kd.int .u8) w A0 l.length l) (hc0 : l.length ≤ c0) (hr1 : Kd.C (Kd.int .u8) w A1 l.length l) (hc1 : l.length ≤ c1) :
    Calls Try.prog 19 #[.slice A0 l.length c0, .slice A1 l.length c1] w fun e w' => e = .returned (.bool true) ∧ Drawn0 w w' :=
  PCertEncodes.slices_Equal_byte_byte.calls (l.length + 1) A0 c0 l A1 c1 l true w hr0 hc0 hr1 hc1 (by
    unfold PCertEncodes.slices_Equal_byte_byte.f
    rw [if_pos rfl]
    exact eq_bytes l hl l.length 0 _ (by omega) (by omega))

def encR (L : Int) (l : List En) : List Int × Int := if (checkS L l).2 = 0 then (encS L l, 0) else ([], (checkS L l).2)
theorem enc_post {L : Int} {l : List En} {w : World} {e : Ending} {w' : World} (h : EncPost L l w e w') : ∃ A c, e = .returned (.tuple #[.slice A (encR L l).1.length c, .int .i64 (encR L l).2]) ∧ Kd.R (Kd.int .u8) 5 w' w.heap.size (fun _ => True) (.slice A (encR L l).1.length c) (encR L l).1 ∧ Below w.heap.size w w' := by
  unfold EncPost at h
  unfold encR
  by_cases c : (checkS L l).2 = 0
  · rw [if_pos c] at h
    rw [if_pos c]
    obtain ⟨v, rfl, hr, hb⟩ := h
    obtain ⟨A, c, rfl⟩ := Kd.R_slice hr
    exact ⟨A, c, rfl, hr, hb⟩
  · rw [if_neg c] at h
    rw [if_neg c]
    obtain ⟨rfl, hb⟩ := h
    exact ⟨none, 0, rfl, Kd.R_nil _ _ _ _ _, hb⟩
theorem encR_len (L : Int) (l : List En) : (encR L l).1.length ≤ 140737488355328 := by
  unfold encR
  by_cases c : (checkS L l).2 = 0
  · rw [if_pos c]
    obtain ⟨g0, g1, g2, g3⟩ := (check_good L l).1 c
    have := encB_take L l g0 g1 g2 g3 l.length
    rw [List.take_length] at this
    unfold encS
    rw [List.length_append]
    simp
    omega
  · rw [if_neg c]; simp

set_option maxHeartbeats 2000000 in
set_option maxRecDepth 100000 in
theorem encodes_law (L : Int) (A : Option Addr) (c : Nat) (l : List En) (w : World) (hr : Kd.C kEn w A l.length l) (hc : l.length ≤ c) (hl : l.length * 56 ≤ 140737488351232) :
    Calls Try.prog 4 #[.agg #[.int .i64 L, .slice A l.length c]] w fun e w' => e = .returned (.bool true) ∧ Below w.heap.size w w' := by
  have HC := Lib.hid (fun W h => copied_c L A c l W h hc hl)
  have HK := Lib.hid (fun A c W h => (encode_c L A c l W h).mono (fun _ _ h => enc_post h))
  have HQ := Lib.hid (fun A c W h => (rencode_c L A c l W h).mono (fun _ _ h => enc_post h))
  have HS := Lib.hid (fun A1 A2 c1 c2 W h1 h2 => same_c L A1 A2 c1 c2 l W h1 h2)
  have HEL := Lib.hid (encR_len L l)
  obtain ⟨⟨bs, e⟩, hne⟩ : ∃ x, x = encR L l := ⟨_, rfl⟩
  rw [← hne] at HK HQ HEL
  have HR := Lib.hid hr
  clear hne hr
  go_enter Try.func4, Try.ntmps4
  go_wp2_with fail
  refine (HC.out _ (Kd.C_alloc HR.out _)).mono ?_
  rintro e1 w1 ⟨A1, c1, rfl, ho1, b1⟩
  have B0 : CtBox w1 w.heap.size L A c l := CtBox.next ⟨blk_new w _, Kd.C_alloc HR.out _⟩ b1
  have HB0 := Lib.hid B0
  have HO1 := Lib.hid ho1
  have HL1 := Lib.hid (b1.mono (w := w.alloc (.cells #[.int .i64 L, .slice A l.length c] 24)) (Nat.le_refl _))
  clear B0 ho1 b1
  go_wp2_with fail
  have B1 : CtBox (w1.alloc (.cells #[.int .i64 L, .slice A1 l.length c1] 24)) w1.heap.size L A1 c1 l := ⟨blk_new w1 _, Kd.C_alloc (Kd.R_reads' HO1.out).2.2 _⟩
  have HBW := Lib.hid (show Below w.heap.size w (w1.alloc (.cells #[.int .i64 L, .slice A1 l.length c1] 24)) from below_alloc ((below_alloc (Below.refl _ _) _).trans (HL1.out.mono (Nat.le_of_lt (by rw [World.size_alloc]; exact Nat.lt_succ_self _)))) _)
  refine (HK.out _ _ _ B1.r).mono ?_
  rintro e2 w2 ⟨A2, c2, rfl, ho2, b2⟩
  have B1' := B1.next b2
  have B0' := (HB0.out.next (below_alloc (Below.refl _ _) (.cells #[.int .i64 L, .slice A1 l.length c1] 24))).next b2
  have k0 := blk_cell B0'.a 0
  have k1 := blk_cell B0'.a 1
  simp only [List.getElem?_toArray, List.getElem?_cons_zero, List.getElem?_cons_succ] at k0 k1
  have HB2 := Lib.hid (HBW.out.trans (b2.mono HBW.out.size))
  have H1 := Lib.hid B1'
  have H0 := Lib.hid B0'
  have HO2 := Lib.hid ho2
  clear B1 B1' B0' b2 ho2
  go_wp2_with fail
  refine (HQ.out _ _ _ H0.out.r).mono ?_
  rintro e3 w3 ⟨A3, c3, rfl, ho3, b3⟩
  have B1 := H1.out.next b3
  have B0 := H0.out.next b3
  have HO2' := Lib.hid (Kd.R_below HO2.out b3)
  have HB3 := Lib.hid (HB2.out.trans (b3.mono HB2.out.size))
  have G1 := Lib.hid B1
  have G0 := Lib.hid B0
  have HO3 := Lib.hid ho3
  clear B1 B0 b3 k0 k1 ho3
  go_wp2_with fail
  refine (equal_c A2 A3 c2 c3 bs HEL.out w3 (Kd.R_reads' HO2'.out).2.2 (Kd.R_reads' HO2'.out).2.1 (Kd.R_reads' HO3.out).2.2 (Kd.R_reads' HO3.out).2.1).mono ?_
  rintro e4 w4 ⟨rfl, ⟨⟨n4, rfl⟩⟩⟩
  have B1 := G1.out.drewN n4
  have B0 := G0.out.drewN n4
  have j0 := blk_cell B0.a 0
  have j1 := blk_cell B0.a 1
  have m0 := blk_cell B1.a 0
  have m1 := blk_cell B1.a 1
  simp only [List.getElem?_toArray, List.getElem?_cons_zero, List.getElem?_cons_succ] at j0 j1 m0 m1
  have I1 := Lib.hid B1
  have I0 := Lib.hid B0
  clear B1 B0
  go_wp2_with fail
  refine (HS.out _ _ _ _ _ I1.out.r I0.out.r).mono ?_
  rintro e4 w4 ⟨rfl, b4⟩
  have HB4 := Lib.hid (Below.trans (pw_below_drewN HB3.out n4) (b4.mono (Nat.le_trans HB3.out.size (Nat.le_refl _))))
  go_wp2
  go_ret
  exact ⟨rfl, HB4.out⟩
theorem encodes_row (L : Int) (A : Option Addr) (c : Nat) (l : List En) (w : World) (hl : l.length * 56 ≤ 140737488351232) (hc : l.length ≤ c) (hr : Kd.C kEn w A l.length l) :
    Calls Try.prog 4 #[.agg #[.int .i64 L, .slice A l.length c]] w fun e w' => e = .returned (.bool true) ∧ Below w.heap.size w w' := encodes_law L A c l w hr hc hl
end Go.Proofs.Ytfbdnfokoakfaaa.Ct
