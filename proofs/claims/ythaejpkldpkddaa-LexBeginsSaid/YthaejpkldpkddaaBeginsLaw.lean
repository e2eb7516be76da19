/- provisolaw10.LexBegins: its walk. -/
import Derived.Test.YthaejpkldpkddaaAwake
namespace Go.Proofs.Ythaejpkldpkddaa.Scn
open Go.RowKit Go.Proofs.YthaejpkldpkddaaW.PrintWords Go.Proofs.YthaejpkldpkddaaW.PrintLast Go.Proofs.YthaejpkldpkddaaW.PrintMore
set_option linter.unusedVariables false
set_option linter.unusedSimpArgs false
attribute [local go_sem] drewN_set drewN_new

theorem C_take {α : Type} {d : Kd α} {w : World} {A : Option Addr} {n : Nat} {xs : List α} (h : d.C w A n xs) (m : Nat) (hm : m ≤ n) : d.C w A m (xs.take m) := by
  obtain ⟨h1, h2, h3⟩ := h
  refine ⟨by rw [List.length_take]; omega, by omega, fun hp => ?_⟩
  obtain ⟨ad, e, hc⟩ := h3 (by omega)
  refine ⟨ad, e, fun j p hj => hc j p ?_⟩
  rw [List.getElem?_take] at hj
  split at hj
  · exact hj
  · cases hj

set_option maxHeartbeats 4000000 in
set_option maxRecDepth 100000 in
theorem begins_law (s : ByteArray) (k : Int) (w : World) (hs : s.size ≤ 140737488351232) (hk : (Lit.int .u64 k).wf = true) : Calls Try.prog 8 #[.string s, .int .u64 k] w fun e w' => e = .returned (.bool true) ∧ Below w.heap.size w w' := by
  have HS := Lib.hid (fun W => scan_any s W)
  have HL := Lib.hid (begins s)
  have HZ := Lib.hid (fun r h => (scanV_toks s r h).2)
  have HA := Lib.hid awake_any
  obtain ⟨R, hR⟩ : ∃ R, R = scanV s := ⟨_, rfl⟩
  rw [← hR] at HS HL HZ
  clear hR
  cases R with
  | error x =>
    clear HL HZ
    go_enter Try.func8, Try.ntmps8
    go_wp2_with (first | (go_at_call 15; refine (HA.out _).mono ?_; rintro e w1 ⟨rfl, b1⟩) | (go_at_call 16; refine (HS.out _).mono ?_; rintro e w2 ⟨rfl, b2⟩))
    go_ret
    exact ⟨rfl, b1.trans (b2.mono b1.size)⟩
  | ok l =>
    obtain ⟨hl1, hs1⟩ := HZ.out l rfl
    by_cases hl0 : l.length = 0
    · have hd : ((l.length : Int) == 0) = true := by rw [beq_iff_eq]; omega
      clear HL HZ
      go_enter Try.func8, Try.ntmps8
      go_wp2_with (first | (go_at_call 15; refine (HA.out _).mono ?_; rintro e w1 ⟨rfl, b1⟩) | (go_at_call 16; refine (HS.out _).mono ?_; rintro e w2 ⟨A, c, rfl, ho, b2⟩))
      go_ret
      exact ⟨rfl, b1.trans (b2.mono b1.size)⟩
    · have hd : ((l.length : Int) == 0) = false := by rw [beq_eq_false_iff_ne]; omega
      have hd' : ((l.length : Int) = 0) = False := eq_false (by omega)
      have hu36 := Try.underlying36
      have hk0 : 0 ≤ k := by simp only [Lit.wf, Bool.and_eq_true, decide_eq_true_eq] at hk; exact hk.1
      obtain ⟨n, rfl⟩ : ∃ n : Nat, k = n := ⟨k.toNat, by omega⟩
      obtain ⟨m, hm⟩ : ∃ m, m = n % l.length := ⟨_, rfl⟩
      have hlt : m < l.length := by rw [hm]; exact Nat.mod_lt _ (by omega)
      have hmod : (n : Int) % (l.length : Int) = (m : Int) := by rw [hm]; simp
      clear hm
      obtain ⟨E, hE, h1, h2, hv⟩ := HL.out l rfl m hlt
      have hrd : (PLexScans.rd_T36 l (m : Int)).f2 = (E : Int) := by
        rw [← hE]
        simp [PLexScans.rd_T36, List.getD_eq_getElem?_getD, hlt]
      have hlen : (l.take (m + 1)).length = m + 1 := by rw [List.length_take]; omega
      have HS2 := Lib.hid (show ∀ W, Calls Try.prog 16 #[.string (s.extract 0 E)] W (ScanPost (.ok (l.take (m + 1))) W) from fun W => by have h := scan_any (s.extract 0 E) W; rw [hv] at h; exact h)
      have HRD := Lib.hid hrd
      have HLN := Lib.hid hlen
      have hcut : ∀ W, (Instr.slice 9 (.string s) none (some (.int .i64 (E : Int))) none).run Try.prog W = .ok (.string (s.extract 0 E)) W := fun W => by
        have := run_slice_string_to_if (P := Try.prog) W 9 s .i64 (E : Int) Try.underlying9
        rw [if_pos (by omega)] at this
        simpa using this
      have d3 : decide ((s.size : Int) < (E : Int)) = false := by simp; omega
      clear HL HZ hv hrd hE hlen
      go_enter Try.func8, Try.ntmps8
      go_wp2_with fail
      refine (HA.out _).mono ?_
      rintro e w1 ⟨rfl, b1⟩
      go_wp2_with fail
      refine (HS.out _).mono ?_
      rintro e w2 ⟨A, c, rfl, ho, b2⟩
      obtain ⟨ad, e1, c0, c1, c2, c3, c4⟩ := PLexScans.at_T36 (Kd.R_reads' ho).2.2 (m : Int) (by omega) (by omega)
      rw [HRD.out] at c2
      simp only [Int.toNat_natCast] at c0 c1 c2 c3 c4
      cases e1
      have HB := Lib.hid (b1.trans (b2.mono b1.size))
      have HO := Lib.hid ho
      clear ho b1 b2 c0 c1 c3 c4
      have hnn : decide ((E : Int) < 0) = false := by simp
      go_wp2_with fail
      refine (HS2.out _).mono ?_
      rintro e w3 ⟨A3, c3, rfl, ho3, b3⟩
      have hcc := (Kd.R_reads' HO.out).2.1
      have hcut2 := cut_to (P := Try.prog) 30 36 .i64 Try.underlying30 (i := (Try.prog.info? 36).get!) rfl (some ad) l.length c ((m : Int) + 1) (by omega) (by omega) hcc
      have HB3 := Lib.hid b3
      have hEq := PLexScans.api_Token.calls ((l.take (m + 1)).length + 1) A3 c3 (l.take (m + 1)) (some ad) c (l.take (m + 1)) true w3 (Kd.R_reads' ho3).2.2 (Kd.R_reads' ho3).2.1 (by rw [HLN.out]; exact C_take (Kd.C_below (Kd.R_reads' HO.out).2.2 (b3.mono (Nat.le_refl _))) (m + 1) (by omega)) (by rw [HLN.out]; omega) (tok_eq _ (by rw [HLN.out]; omega))
      rw [HLN.out] at ho3 hEq ⊢
      have HE := Lib.hid hEq
      clear hEq ho3 b3
      go_wp2_with fail
      refine HE.out.mono ?_
      rintro e w4 ⟨rfl, ⟨⟨n4, rfl⟩⟩⟩
      go_wp2
      go_ret
      exact ⟨rfl, pw_below_drewN (HB.out.trans (HB3.out.mono HB.out.size)) _⟩
theorem begins_row (s : ByteArray) (k : Int) (w : World) (hs : s.size ≤ 140737488351232) (hk : (Lit.int .u64 k).wf = true) : Calls Try.prog 8 #[.string s, .int .u64 k] w fun e w' => e = .returned (.bool true) ∧ Below w.heap.size w w' := begins_law s k w hs hk
end Go.Proofs.Ythaejpkldpkddaa.Scn
