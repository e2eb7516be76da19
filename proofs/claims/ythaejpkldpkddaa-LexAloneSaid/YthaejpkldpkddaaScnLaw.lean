/- provisolaw10.LexScans holds at every text. -/
import Derived.Test.YthaejpkldpkddaaScnScan
import Derived.BigQuiet
namespace Go.Proofs.Ythaejpkldpkddaa.Scn
open Go.RowKit Go.Proofs.YthaejpkldpkddaaW.PrintWords Go.Proofs.YthaejpkldpkddaaW.PrintLast Go.Proofs.YthaejpkldpkddaaW.PrintMore
set_option linter.unusedVariables false
set_option linter.unusedSimpArgs false
attribute [local go_sem] drewN_set drewN_new

set_option maxRecDepth 100000 in
theorem why_nil (w : World) : Calls Try.prog 19 #[.nilIface] w fun e w' => e = .returned (.tuple #[.int .i64 0, .int .i64 0]) ∧ Below w.heap.size w w' := by
  go_enter Try.func19, Try.ntmps19
  go_wp2
  go_ret2
  exact ⟨rfl, Below.refl _ _⟩

set_option maxRecDepth 100000 in
theorem why_fault (p ec : Int) (w : World) : Calls Try.prog 19 #[.iface 49 (.agg #[.int .i64 p, .int .i64 ec])] w fun e w' => e = .returned (.tuple #[.int .i64 ec, .int .i64 p]) ∧ Below w.heap.size w w' := by
  have hta : ∀ (v : Value) (W : World), (Instr.typeAssert (.iface 49 v) 32 49 true).run Try.prog W = .ok (.tuple #[v, .bool true]) W := fun v W => by
    simp [Instr.typeAssert, go_sem]
  go_enter Try.func19, Try.ntmps19
  go_wp2
  go_quiet (fail)
  go_wp2
  go_ret2
  exact ⟨rfl, pw_below_drewN (below_alloc (Below.refl _ _) _) _⟩

theorem tok_self (l : List Tok) (hl : l.length ≤ 65536) : ∀ (d i k : Nat), i + d = l.length → d < k → PLexScans.api_Token.l0 k l l (l.length : Int) (i : Int) = some true := by
  intro d
  induction d with
  | zero =>
    intro i k hi hk
    obtain ⟨k, rfl⟩ : ∃ m, k = m + 1 := ⟨k - 1, by omega⟩
    rw [PLexScans.api_Token.l0, if_neg (by omega)]
  | succ d ih =>
    intro i k hi hk
    obtain ⟨k, rfl⟩ : ∃ m, k = m + 1 := ⟨k - 1, by omega⟩
    have ew : wrap64 ((i : Int) + 1) = ((i + 1 : Nat) : Int) := by unfold wrap64; omega
    rw [PLexScans.api_Token.l0, if_pos (by omega), if_pos (by omega), if_pos (by omega), if_pos (by omega), if_neg (by simp), ew]
    exact ih (i + 1) k (by omega) (by omega)
theorem tok_eq (l : List Tok) (hl : l.length ≤ 65536) : PLexScans.api_Token.f (l.length + 1) l l = some true := by
  unfold PLexScans.api_Token.f
  rw [if_pos rfl]
  exact tok_self l hl l.length 0 _ (by omega) (by omega)

theorem scanF_len (s : ByteArray) : ∀ (f p : Nat) (l r : List Tok), l.length ≤ 16384 → scanF s f p l = .ok r → r.length ≤ 16384
  | 0, p, l, r, hl, h => by simp only [scanF] at h; cases h; exact hl
  | f + 1, p, l, r, hl, h => by
    rw [scanF] at h
    split at h
    · split at h
      · cases h
      · split at h
        · cases h
        · exact scanF_len s f _ _ r (by rw [List.length_append, List.length_singleton]; omega) h
    · cases h; exact hl
theorem scanV_len (s : ByteArray) (r : List Tok) (h : scanV s = .ok r) : r.length ≤ 16384 := by
  unfold scanV at h
  split at h
  · cases h
  · exact scanF_len s _ _ _ r (by simp) h

set_option maxHeartbeats 2000000 in
set_option maxRecDepth 100000 in
theorem scans_law (s : ByteArray) (hs : s.size ≤ 140737488351232) (w : World) : Calls Try.prog 7 #[.string s] w fun e w' => e = .returned (.bool true) ∧ Below w.heap.size w w' := by
  have HS := Lib.hid (fun W => scan_any s W)
  have HR := Lib.hid (fun W => PLexScans.provisoref10_Scan.calls _ s (scanT (scanV s)).1 (scanT (scanV s)).2.1 (scanT (scanV s)).2.2 W (ref_scan s))
  have HL := Lib.hid (scanV_len s)
  obtain ⟨R, hR⟩ : ∃ R, R = scanV s := ⟨_, rfl⟩
  rw [← hR] at HS HR HL
  clear hR
  cases R with
  | error x =>
    have HR2 := Lib.hid (show ∀ W, Calls Try.prog 18 #[.string s] W fun e w' => ∃ v0_ : Value, e = .returned (.tuple #[v0_, .int .i64 (x.1 : Int), .int .i64 x.2]) ∧ Kd.R PLexScans.k36 36 w' W.heap.size (fun _ => True) v0_ [] ∧ Below W.heap.size W w' from HR.out)
    clear HR HL
    go_enter Try.func7, Try.ntmps7
    go_wp2_with (first | (go_at_call 16; refine (HS.out _).mono ?_; rintro e w1 ⟨rfl, b1⟩) | (go_at_call 18; refine (HR2.out _).mono ?_; rintro e w2 ⟨v0, rfl, ho, b2⟩; obtain ⟨A, c, rfl⟩ := Kd.R_slice ho) | (go_at_call 19; refine (why_fault _ _ _).mono ?_; rintro e w3 ⟨rfl, b3⟩) | (go_at_call 20; refine (PLexScans.api_Token.calls 1 none 0 [] A c [] true _ (Kd.R_reads' (Kd.R_nil PLexScans.k36 36 _ 0 (fun _ => True))).2.2 (Nat.le_refl _) (Kd.R_reads' (Kd.R_below ho b3)).2.2 (Nat.zero_le _) (tok_eq [] (by simp))).mono ?_; rintro e w4 ⟨rfl, ⟨⟨n4, rfl⟩⟩⟩))
    go_ret
    exact ⟨rfl, pw_below_drewN ((b1.trans (b2.mono b1.size)).trans (b3.mono (Nat.le_trans b1.size b2.size))) _⟩
  | ok l =>
    have HR2 := Lib.hid (show ∀ W, Calls Try.prog 18 #[.string s] W fun e w' => ∃ v0_ : Value, e = .returned (.tuple #[v0_, .int .i64 0, .int .i64 0]) ∧ Kd.R PLexScans.k36 36 w' W.heap.size (fun _ => True) v0_ l ∧ Below W.heap.size W w' from HR.out)
    have hl : l.length ≤ 16384 := HL.out l rfl
    clear HR HL
    go_enter Try.func7, Try.ntmps7
    go_wp2_with (first | (go_at_call 16; refine (HS.out _).mono ?_; rintro e w1 ⟨A0, c0, rfl, ho0, b1⟩) | (go_at_call 18; refine (HR2.out _).mono ?_; rintro e w2 ⟨v0, rfl, ho, b2⟩; obtain ⟨A, c, rfl⟩ := Kd.R_slice ho) | (go_at_call 19; refine (why_nil _).mono ?_; rintro e w3 ⟨rfl, b3⟩) | (go_at_call 20; refine (PLexScans.api_Token.calls (l.length + 1) A0 c0 l A c l true _ (Kd.R_reads' (Kd.R_below (Kd.R_below ho0 b2) b3)).2.2 (Kd.R_reads' ho0).2.1 (Kd.R_reads' (Kd.R_below ho b3)).2.2 (Kd.R_reads' ho).2.1 (tok_eq l (by omega))).mono ?_; rintro e w4 ⟨rfl, ⟨⟨n4, rfl⟩⟩⟩))
    go_ret
    exact ⟨rfl, pw_below_drewN ((b1.trans (b2.mono b1.size)).trans (b3.mono (Nat.le_trans b1.size b2.size))) _⟩
theorem scans_row (s : ByteArray) (w : World) (hs : s.size ≤ 140737488351232) : Calls Try.prog 7 #[.string s] w fun e w' => e = .returned (.bool true) ∧ Below w.heap.size w w' := scans_law s hs w
end Go.Proofs.Ythaejpkldpkddaa.Scn
