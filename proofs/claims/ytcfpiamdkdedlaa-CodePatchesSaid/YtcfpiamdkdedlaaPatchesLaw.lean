/- The law CodePatches, walked. -/
import Derived.Test.YtcfpiamdkdedlaaBytesC
namespace Go.Proofs.Ytcfpiamdkdedlaa.DecodeC
open Go.RowKit Go.Proofs.YtcfpiamdkdedlaaW.PrintWords Go.Proofs.YtcfpiamdkdedlaaW.PrintLast Go.Proofs.YtcfpiamdkdedlaaW.PrintMore Go.Proofs.Ytcfpiamdkdedlaa.PCodePatches Go.Proofs.Ytcfpiamdkdedlaa.Spec Go.Proofs.Ytcfpiamdkdedlaa.CloneC
set_option linter.unusedVariables false
set_option linter.unusedSimpArgs false
attribute [local go_sem] drewN_set drewN_new

theorem patch_len (l : List Int) (a t : Int) : (patchS l a t).1.length ≤ 4096 := by
  unfold patchS
  split
  · simp
  · split
    · simp
    · split
      · simp
      · split
        · simp
        · simp [putS]; omega
theorem R_slice {W : World} {base : Nat} {v : Value} {xs : List Int} (h : Kd.R (Kd.int .u8) 5 W base (fun _ => True) v xs) : ∃ A c, v = .slice A xs.length c := by
  obtain ⟨A, c, e, _⟩ := Kd.R_reads h
  exact ⟨A, c, e⟩
theorem R_C {W : World} {base : Nat} {A : Option Addr} {n c : Nat} {xs : List Int} (h : Kd.R (Kd.int .u8) 5 W base (fun _ => True) (.slice A n c) xs) : Kd.C (Kd.int .u8) W A xs.length xs ∧ xs.length ≤ c := by
  have := Kd.R_reads' h
  exact ⟨this.2.2, by omega⟩

theorem rows3 {W : World} {base : Nat} {A2 A4 : Option Addr} {n c2 c4 : Nat} {va : Value} {px al : List Int} (x : Kd.R (Kd.int .u8) 5 W base (fun _ => True) (.slice A2 n c2) px) (g : Kd.R (Kd.int .u8) 5 W base (fun _ => True) (.slice A4 n c4) px) (h : Kd.R (Kd.int .u8) 5 W base (fun _ => True) va al) (s1 : Sep (.slice A2 n c2) va) (s2 : Sep (.slice A4 n c4) va) (s3 : Sep (.slice A4 n c4) (.slice A2 n c2)) :
    Rows8 W base 3 (vsF (fun j => if j = 0 then A2 else A4) (fun _ => n) (fun j => if j = 0 then c2 else c4) va) (fun j => if j < 2 then px else al) := by
  refine ⟨fun i hi => ?_, fun i j hi hj hne => ?_⟩
  · match i, hi with
    | 0, _ => exact x
    | 1, _ => exact g
    | 2, _ => exact h
  · match i, hi, j, hj with
    | 0, _, 0, _ => exact absurd rfl hne
    | 0, _, 1, _ => exact s3.symm
    | 0, _, 2, _ => exact s1
    | 1, _, 0, _ => exact s3
    | 1, _, 1, _ => exact absurd rfl hne
    | 1, _, 2, _ => exact s2
    | 2, _, 0, _ => exact s1.symm
    | 2, _, 1, _ => exact s2.symm
    | 2, _, 2, _ => exact absurd rfl hne

set_option maxHeartbeats 8000000 in
set_option maxRecDepth 100000 in
theorem law_patches (A : Option Addr) (c : Nat) (l : List Int) (a t : Int) (w : World) (hl : l.length ≤ 140737488351232) (hc : l.length ≤ c) (hr : Kd.C (Kd.int .u8) w A l.length l) (hb : ∀ x ∈ l, 0 ≤ x ∧ x ≤ 255) :
    Calls Try.prog 10 #[.slice A l.length c, .int .i64 a, .int .i64 t] w fun e w' => e = .returned (.bool true) ∧ Below w.heap.size w w' := by
  have HR := Lib.hid hr
  have hpl0 := patch_len l a t
  have HP0 : ∃ (px : List Int) (q : Int), px.length ≤ 4096 ∧ (∀ W A c, l.length ≤ c → Kd.C (Kd.int .u8) W A l.length l → Calls Try.prog 34 #[.slice A l.length c, .int .i64 a, .int .i64 t] W fun e w' => ∃ A2 c2, e = .returned (.tuple #[.slice A2 px.length c2, .int .i64 q]) ∧ Kd.R (Kd.int .u8) 5 w' W.heap.size (fun _ => True) (.slice A2 px.length c2) px ∧ Below W.heap.size W w')
      ∧ (∀ W A c, l.length ≤ c → Kd.C (Kd.int .u8) W A l.length l → Calls Try.prog 35 #[.slice A l.length c, .int .i64 a, .int .i64 t] W fun e w' => ∃ A2 c2, e = .returned (.tuple #[.slice A2 px.length c2, .int .i64 q]) ∧ Kd.R (Kd.int .u8) 5 w' W.heap.size (fun _ => True) (.slice A2 px.length c2) px ∧ Below W.heap.size W w') := by
    refine ⟨(patchS l a t).1, (patchS l a t).2, hpl0, fun W A c hc hr => (patch_c A c l a t W hl hc hr hb).mono ?_, fun W A c hc hr => (rpatch_c A c l a t W hl hc hr hb).mono ?_⟩
    all_goals
      rintro e w' ⟨v, rfl, h1, h2⟩
      obtain ⟨A2, c2, rfl⟩ := R_slice h1
      exact ⟨A2, c2, rfl, h1, h2⟩
  obtain ⟨px, q, hpl, hp1, hp2⟩ := HP0
  have HP1 := Lib.hid hp1
  have HP2 := Lib.hid hp2
  clear hr hb hpl0 hp1 hp2
  have E4 : Hid ((l ++ ([165, 90, 195, 60] : List Int)).length = l.length + 4) := Lib.hid (by simp)
  go_enter Try.func10, Try.ntmps10
  go_wp2_with fail
  refine (roomy_any A c l _ HR.out hc hl).mono ?_
  rintro e w1 ⟨g, cap, rfl, ho, hcap, hb1⟩
  have H1 := Lib.hid ho
  have B1 := Lib.hid hb1
  have hcap2 : l.length ≤ cap := by omega
  clear ho hb1 hcap
  go_wp2_with fail
  refine (HP1.out _ (some g) cap hcap2 (front H1.out)).mono ?_
  rintro e w2 ⟨A2, c2, rfl, hx, hb2⟩
  have X2 := Lib.hid hx
  have SX := Lib.hid (sep_late H1.out hx)
  have H2 := Lib.hid (Kd.R_below H1.out hb2)
  have B2 := Lib.hid (B1.out.trans (hb2.mono B1.out.size))
  have X2l := Lib.hid (Kd.R_lower hx B1.out.size)
  clear hb2 hx
  go_wp2_with fail
  refine (HP2.out _ A c hc (Kd.C_below HR.out B2.out)).mono ?_
  rintro e w3 ⟨A3, c3, rfl, hy, hb3⟩
  have Y3 := Lib.hid hy
  have X3 := Lib.hid (Kd.R_below X2l.out hb3)
  have H3 := Lib.hid (Kd.R_below H2.out hb3)
  have B3 := Lib.hid (B2.out.trans (hb3.mono B2.out.size))
  clear hb3 hy H1 H2 X2 X2l B1 B2
  go_wp2_with fail
  refine (slices_Equal_byte_byte.calls (px.length + 1) A2 c2 px A3 c3 px true _ (R_C X3.out).1 (R_C X3.out).2 (R_C Y3.out).1 (R_C Y3.out).2 (equal_same px (by omega))).mono ?_
  rintro e w4 ⟨rfl, ⟨⟨n4, rfl⟩⟩⟩
  go_wp2_with fail
  refine calls_of_args (args' := #[.slice (some g) (l ++ ([165, 90, 195, 60] : List Int)).length cap, .slice A l.length c]) (by rw [E4.out]) ?_
  refine (provisoplain_Untouched.calls (l.length + 1) (some g) cap (l ++ [165, 90, 195, 60]) A c l true _ (Kd.C_below (R_C H3.out).1 (pw_below_drewN (Below.refl _ _) _)) (by rw [E4.out]; exact (Kd.R_reads' H3.out).2.1) (Kd.C_below (Kd.C_below HR.out B3.out) (pw_below_drewN (Below.refl _ _) _)) hc (untouched_is l hl)).mono ?_
  rintro e w5 ⟨rfl, ⟨⟨n5, rfl⟩⟩⟩
  go_wp2_with fail
  obtain ⟨wa, hwa⟩ : ∃ W, W = (w3.alloc (.cells #[.slice none 0 0, .slice none 0 0] 57)).drewN (n4 + n5) := ⟨_, rfl⟩
  have hbw : Below w3.heap.size w3 wa := by rw [hwa]; exact pw_below_drewN (below_alloc (Below.refl _ _) _) _
  obtain ⟨gs, hgs⟩ : ∃ g, g = w3.heap.size := ⟨_, rfl⟩
  have hbsA : wa.heap[gs]? = some (.cells #[.slice none 0 0, .slice none 0 0] 57 (0, 0)) := by rw [hwa, hgs]; exact blk_new w3 _
  rw [← hwa, ← hgs]
  have HGs : Hid (w.heap.size ≤ gs) := Lib.hid (by rw [hgs]; exact B3.out.size)
  have X5 := Lib.hid (Kd.R_below X3.out hbw)
  have H5 := Lib.hid (Kd.R_below H3.out hbw)
  have B5 := Lib.hid (below_then B3.out B3.out.size hbw)
  have S5 := Lib.hid hbsA
  clear hwa hbw hgs hbsA X3 H3 Y3 B3
  refine (HP1.out wa (some g) cap hcap2 (front H5.out)).mono ?_
  rintro e w6 ⟨A4, c4, rfl, hag, hb6⟩
  have SG1 := Lib.hid (sep_late H5.out hag)
  have SG2 := Lib.hid (sep_late X5.out hag)
  have G6 := Lib.hid (Kd.R_lower hag B5.out.size)
  have X6 := Lib.hid (Kd.R_below X5.out hb6)
  have H6 := Lib.hid (Kd.R_below H5.out hb6)
  have S6 := Lib.hid (blk_below S5.out hb6)
  have B6 := Lib.hid (below_then B5.out B5.out.size hb6)
  clear hag hb6 X5 H5 S5 B5
  go_wp2_with fail
  refine (bytes_c w gs (.slice none 0 0) [] A2 px.length c2 w6 (by simp) S6.out HGs.out (Kd.R_nil _ _ _ _ _) B6.out).mono ?_
  rintro e w7 ⟨rfl, vb1, hs7, hr7, hb7, hk7⟩
  have G7 := Lib.hid (hk7 _ _ _ G6.out)
  have X7 := Lib.hid (hk7 _ _ _ X6.out)
  have H7 := Lib.hid (hk7 _ _ _ H6.out)
  have S7 := Lib.hid hs7
  have R7 := Lib.hid hr7
  have B7 := Lib.hid hb7
  clear hs7 hr7 hb7 hk7 G6 X6 H6 S6 B6
  go_wp2_with fail
  refine (bytes_c w gs vb1 _ A4 px.length c4 w7 (by simp) S7.out HGs.out R7.out B7.out).mono ?_
  rintro e w8 ⟨rfl, vb2, hs8, hr8, hb8, hk8⟩
  obtain ⟨gb, cb, rfl, _, _, _⟩ := Kd.R_form hr8 (by simp)
  have hOa : OaSt w w8 gs gb cb (fun j => if j = 0 then A2 else A4) (fun _ => px.length) (fun j => if j = 0 then c2 else c4) (.slice (some g) (l.length + 4) cap) (fun j => if j < 2 then px else l ++ [165, 90, 195, 60]) :=
    ⟨hs8, hr8, rows3 (hk8 _ _ _ X7.out) (hk8 _ _ _ G7.out) (hk8 _ _ _ H7.out) SX.out SG1.out SG2.out, hb8⟩
  have HOwn := Lib.hid (own_c w gs gb cb _ _ _ _ _ (fun _ => hpl) (fun j hj => by simp [hj]) w8 hOa)
  clear hs8 hr8 hb8 hk8 hOa G7 X7 H7 S7 R7 B7
  go_wp2_with fail
  refine HOwn.out.mono ?_
  rintro e w9 ⟨rfl, hr9, hb9⟩
  have H9 : Hid (Kd.R (Kd.int .u8) 5 w9 w.heap.size (fun _ => True) (.slice (some g) (l.length + 4) cap) (l ++ [165, 90, 195, 60])) := Lib.hid hr9
  have B9 := Lib.hid hb9
  clear hr9 hb9 HOwn
  go_wp2_with fail
  refine calls_of_args (args' := #[.slice (some g) (l ++ ([165, 90, 195, 60] : List Int)).length cap, .slice A l.length c]) (by rw [E4.out]) ?_
  refine (provisoplain_Untouched.calls (l.length + 1) (some g) cap (l ++ [165, 90, 195, 60]) A c l true _ (R_C H9.out).1 (by rw [E4.out]; exact (Kd.R_reads' H9.out).2.1) (Kd.C_below HR.out B9.out) hc (untouched_is l hl)).mono ?_
  rintro e w10 ⟨rfl, ⟨⟨n10, rfl⟩⟩⟩
  go_wp2_with fail
  go_ret
  exact ⟨by simp, pw_below_drewN B9.out _⟩

theorem CodePatches (A : Option Addr) (c : Nat) (l : List Int) (a t : Int) (w : World) (hl : l.length * 1 ≤ 140737488351232) (hc : l.length ≤ c) (hr : Kd.C (Kd.int .u8) w A l.length l) (hb : ∀ x ∈ l, (Lit.int .u8 x).wf = true) (_ : (Lit.int .i64 a).wf = true) (_ : (Lit.int .i64 t).wf = true) :
    Calls Try.prog 10 #[.slice A l.length c, .int .i64 a, .int .i64 t] w fun e w' => e = .returned (.bool true) ∧ Below w.heap.size w w' :=
  law_patches A c l a t w (by omega) hc hr (u8_rows hb)
end Go.Proofs.Ytcfpiamdkdedlaa.DecodeC
