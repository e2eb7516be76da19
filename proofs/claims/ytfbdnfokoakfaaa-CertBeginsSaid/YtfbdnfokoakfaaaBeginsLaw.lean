/- provisolaw06.CertBegins: its walk. -/
import Derived.Test.YtfbdnfokoakfaaaBackLaw
import Derived.Test.YtfbdnfokoakfaaaBigApp
namespace Go.Proofs.Ytfbdnfokoakfaaa.Ct
open Go.RowKit Go.Proofs.YtfbdnfokoakfaaaW.PrintWords Go.Proofs.YtfbdnfokoakfaaaW.PrintLast Go.Proofs.YtfbdnfokoakfaaaW.PrintMore Go.Proofs.Ytfbdnfokoakfaaa.CloneC
set_option linter.unusedVariables false
set_option linter.unusedSimpArgs false

theorem ByR.front {w : World} {A : Option Addr} {c : Nat} {b : List Int} (h : ByR w A c b) (k : Nat) (hk : k ≤ b.length) : ByR w A c (b.take k) := by
  have e : (b.take k).length = k := by rw [List.length_take]; omega
  refine ⟨Kd.C_take h.r hk |> fun h => by rw [e] at *; exact h, by have := h.c; omega, fun x hx => h.y x (List.mem_of_mem_take hx), by have := h.l; omega⟩

set_option maxHeartbeats 8000000 in
set_option maxRecDepth 100000 in
theorem begins_law (L : Int) (A : Option Addr) (c : Nat) (l : List En) (cut : Int) (Am : Option Addr) (cm : Nat) (more : List Int) (w : World) (hr : Kd.C kEn w A l.length l) (hc : l.length ≤ c) (hl : l.length * 56 ≤ 140737488351232) (hcut0 : 0 ≤ cut) (hcut1 : cut ≤ 18446744073709551615) (hm : ByR w Am cm more) (hml : more.length ≤ 140737488351232) :
    Calls Try.prog 11 #[.agg #[.int .i64 L, .slice A l.length c], .int .u64 cut, .slice Am more.length cm] w fun e w' => e = .returned (.bool true) ∧ Below w.heap.size w w' := by
  have HR := Lib.hid hr
  have HB0 := Lib.hid (blk_new w (.cells #[.int .i64 L, .slice A l.length c] 24))
  have HM8 := Lib.hid hm
  by_cases hg : (checkS L l).2 = 0
  · have hgood := (check_good L l).1 hg
    have hwf := C_wf hr
    have HM := Lib.hid (fun W h => may_c L A c l W h true (by rw [hg]; rfl))
    have HE : Hid (∀ W, Kd.C kEn W A l.length l → Calls Try.prog 17 #[.agg #[.int .i64 L, .slice A l.length c]] W fun e w' => ∃ A c, e = .returned (.tuple #[.slice A (encS L l).length c, .int .i64 0]) ∧ Kd.R (Kd.int .u8) 5 w' W.heap.size (fun _ => True) (.slice A (encS L l).length c) (encS L l) ∧ Below W.heap.size W w') := Lib.hid (fun W h => (encode_c L A c l W h).mono (fun e w' he => by
      have := enc_post he
      rw [good_encR hgood] at this
      exact this))
    have HYb := Lib.hid (encS_bytes hgood hwf)
    have hsl := encS_len hgood
    obtain ⟨N, hN⟩ : ∃ N, N = (encS L l).length := ⟨_, rfl⟩
    have HN := Lib.hid hN
    rw [← hN] at HE hsl
    have hN2 : N ≤ 114694 ∧ 6 ≤ N := by omega
    obtain ⟨k, hk⟩ : ∃ k : Nat, k = (cut % (N : Int)).toNat := ⟨_, rfl⟩
    have hk0 := Int.emod_nonneg cut (show (N : Int) ≠ 0 by omega)
    have hk1 := Int.emod_lt_of_pos cut (show (0 : Int) < (N : Int) by omega)
    have hmod : cut % (N : Int) = (k : Int) := by omega
    have hkN : k < N := by omega
    have htk : ((encS L l).take k).length = k := by rw [List.length_take]; omega
    have hcutk := told_encS_cut L l k hgood hwf (by omega)
    have HD1 : Hid (∀ A c W (_ : ByR W A c ((encS L l).take k)), Calls Try.prog 25 #[.slice A k c] W fun e w' => ∃ L1 v, e = .returned (.tuple #[.agg #[.int .i64 L1, v], .int .i64 (k : Int), .int .i64 2]) ∧ (∃ A1 n1 c1, v = .slice A1 n1 c1) ∧ Below W.heap.size W w') := Lib.hid (fun A c W h => by
      have := decode_c A c _ W h
      rw [htk] at this
      refine this.mono ?_
      rintro e w' ⟨v, he, hr, hb⟩
      rw [hcutk] at he
      obtain ⟨A1, c1, rfl, _, _⟩ := Kd.R_reads hr
      exact ⟨_, _, he, ⟨_, _, _, rfl⟩, hb⟩)
    have HD2 : Hid (0 < more.length → ∀ A c W (_ : ByR W A c (encS L l ++ more)), Calls Try.prog 25 #[.slice A (N + more.length) c] W fun e w' => ∃ L1 v, e = .returned (.tuple #[.agg #[.int .i64 L1, v], .int .i64 (N : Int), .int .i64 3]) ∧ (∃ A1 n1 c1, v = .slice A1 n1 c1) ∧ Below W.heap.size W w') := Lib.hid (fun hpos A c W h => by
      have := decode_c A c _ W h
      rw [List.length_append, ← hN] at this
      refine this.mono ?_
      rintro e w' ⟨v, he, hr, hb⟩
      obtain ⟨es, ht⟩ := told_encS L l more hgood hwf
      rw [if_pos hpos, ← hN] at ht
      rw [ht] at he
      obtain ⟨A1, c1, rfl, _, _⟩ := Kd.R_reads hr
      exact ⟨_, _, he, ⟨_, _, _, rfl⟩, hb⟩)
    obtain ⟨B, hB⟩ : ∃ B, B = encS L l := ⟨_, rfl⟩
    rw [← hB] at HYb HN HE HD1 HD2
    have hB6 : 6 ≤ B.length ∧ B.length = N := by have := HN.out; omega
    have HBl := Lib.hid hB6
    clear hr hg hN hsl hwf hgood htk hcutk hk hk0 hk1 hB hB6 hm
    go_enter Try.func11, Try.ntmps11
    go_wp2_with fail
    refine (HM.out _ (Kd.C_alloc HR.out _)).mono ?_
    rintro e w1 ⟨rfl, hb1⟩
    have HB1 := Lib.hid (below_then (below_alloc (Below.refl _ _) _) (by simp) hb1)
    have H1 := Lib.hid (blk_below HB0.out hb1)
    have HR1 := Lib.hid (Kd.C_below HR.out HB1.out)
    clear hb1 HB0 HM HR
    have j0 := blk_cell H1.out 0
    have j1 := blk_cell H1.out 1
    simp only [List.getElem?_toArray, List.getElem?_cons_zero, List.getElem?_cons_succ] at j0 j1
    go_wp2_with fail
    refine (HE.out _ HR1.out).mono ?_
    rintro e w2 ⟨A3, c3, rfl, hr3, hb2⟩
    clear j0 j1
    have HR3 := Lib.hid (Kd.R_lower hr3 HB1.out.size)
    have HB2 := Lib.hid (below_then HB1.out HB1.out.size hb2)
    have HY : Hid (ByR w2 A3 c3 B) := Lib.hid ⟨(Kd.R_reads' HR3.out).2.2, by rw [HBl.out.2]; exact (Kd.R_reads' HR3.out).2.1, HYb.out, by rw [HBl.out.2]; omega⟩
    have hc3 : N ≤ c3 := (Kd.R_reads' HR3.out).2.1
    clear hr3 hb2 HB1 H1 HR1 HE
    have hcutr : ∀ W, (Instr.slice 31 (.slice A3 N c3) none (some (.int .i64 (k : Int))) none).run Try.prog W = .ok (.slice A3 k c3) W := fun W => by
      have := cut_to (P := Try.prog) 31 5 .i64 Try.underlying31 (i := (Try.prog.info? 5).get!) rfl A3 N c3 (k : Int) (by omega) (by omega) hc3 W
      simpa using this
    have HCl : Hid (∀ W, ByR W A3 c3 B → Calls Try.prog 34 #[.slice A3 N c3] W fun e w' => ∃ v0, e = .returned v0 ∧ Kd.R (Kd.int .u8) 5 w' W.heap.size (fun _ => True) v0 B ∧ Below W.heap.size W w') := Lib.hid (fun W h => by
      have := clone_any A3 c3 B W h.r h.c (by have := HBl.out; omega)
      rw [HBl.out.2] at this
      exact this)
    go_upto_region 7 with (fail)
    have HCut := Lib.hid hcutr
    go_wp2_with fail
    refine (HD1.out _ _ _ (HY.out.front k (by rw [HBl.out.2]; omega))).mono ?_
    rintro e w3 ⟨L1, v, rfl, ⟨A1, n1, c1, rfl⟩, hb3⟩
    obtain ⟨W3, hW3⟩ : ∃ W3, W3 = w3.alloc (.cells #[.int .i64 L1, .slice A1 n1 c1] 24) := ⟨_, rfl⟩
    have hbb : Below w3.heap.size w3 W3 := by rw [hW3]; exact below_alloc (Below.refl _ _) _
    have hb3' := below_then hb3 hb3.size hbb
    have HB3 := Lib.hid (below_then HB2.out HB2.out.size hb3')
    have HY3 := Lib.hid (HY.out.next hb3')
    clear hcutr hb3 hb3' hbb HCut
    go_upto_region 8 with (fail)
    rw [← hW3]
    clear hW3
    go_upto_region 12 with (fail)
    · go_ret
      exact ⟨by first | rfl | simp, HB3.out⟩
    · have hmp : 0 < more.length := by
        rcases Nat.eq_zero_or_pos more.length with h | h
        · exfalso
          first | omega | simp_all
        · exact h
      have HP := Lib.hid hmp
      have HD3 := Lib.hid (HD2.out hmp)
      clear HD2 HD1
      go_wp2_with fail
      refine (HCl.out _ HY3.out).mono ?_
      rintro e w4 ⟨v0, rfl, hr4, hb4⟩
      have HR4 := Lib.hid (Kd.R_lower hr4 HB3.out.size)
      have HB4 := Lib.hid (below_then HB3.out HB3.out.size hb4)
      clear hr4 hb4
      go_wp2_with ((with_reducible refine gate_dst (N := 56) rfl ?_); refine wpList_big rfl (.tmp 54) (.tmp 55) rfl (base := w.heap.size) rfl rfl (by have := HBl.out; omega) HP.out HR4.out (HM8.out.next HB4.out).r (by have := HBl.out; omega) HB4.out.size ?_; intro v1 w5 hr5 hg5; obtain ⟨g9, cap9, rfl, _, _, _⟩ := Kd.R_form hr5 (by rw [List.length_append]; have := HP.out; omega); have HR5 := Lib.hid hr5; have HB5 := Lib.hid (HB4.out.grown hg5 HB4.out.size (fun q e => (R_lt HR4.out q e).1)); clear hr5 hg5)
      have hY5 : ByR w5 (some ⟨g9, 0, none⟩) cap9 (B ++ more) := ⟨(Kd.R_reads' HR5.out).2.2, (Kd.R_reads' HR5.out).2.1, fun x hx => (List.mem_append.1 hx).elim (HYb.out x) (HM8.out.y x), by rw [List.length_append]; have := HBl.out; omega⟩
      rw [HBl.out.2]
      refine (HD3.out _ _ _ hY5).mono ?_
      rintro e w6 ⟨L2, v, rfl, ⟨A6, n6, c6, rfl⟩, hb6⟩
      have HB6 := Lib.hid (below_then HB5.out HB5.out.size hb6)
      clear hb6 hY5
      go_wp2
      go_ret
      exact ⟨by first | rfl | simp, HB6.out⟩
  · have HM := Lib.hid (fun W h => may_c L A c l W h false (by simpa using hg))
    clear hg hr
    go_enter Try.func11, Try.ntmps11
    go_wp2_with fail
    refine (HM.out _ (Kd.C_alloc HR.out _)).mono ?_
    rintro e w1 ⟨rfl, hb1⟩
    go_wp2
    go_ret
    exact ⟨by first | rfl | simp, below_then (below_alloc (Below.refl _ _) _) (by simp) hb1⟩
theorem begins_row (L : Int) (A : Option Addr) (c : Nat) (l : List En) (cut : Int) (Am : Option Addr) (cm : Nat) (more : List Int) (W : World) (hl : l.length * 56 ≤ 140737488351232) (hc : l.length ≤ c) (hr : Kd.C kEn W A l.length l) (hw : (Lit.int .u64 cut).wf = true)
    (y : more.length * 1 ≤ 140737488351232) (hcm : more.length ≤ cm) (hC : Kd.C (Kd.int .u8) W Am more.length more) (hwm : ∀ n ∈ more, (Lit.int .u8 n).wf = true) :
    Calls Try.prog 11 #[.agg #[.int .i64 L, .slice A l.length c], .int .u64 cut, .slice Am more.length cm] W fun e W' => e = .returned (.bool true) ∧ Below W.heap.size W W' := by
  have h : 0 ≤ cut ∧ cut ≤ 18446744073709551615 := by
    simp [Lit.wf, IntKind.min, IntKind.max, IntKind.signed, IntKind.bits] at hw
    omega
  exact begins_law L A c l cut Am cm more W hr hc hl h.1 h.2 ⟨hC, hcm, u8_rows hwm, by omega⟩ (by omega)
end Go.Proofs.Ytfbdnfokoakfaaa.Ct
