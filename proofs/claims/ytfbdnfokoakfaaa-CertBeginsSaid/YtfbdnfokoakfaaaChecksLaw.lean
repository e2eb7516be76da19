/- The reference's Same, of two certificates that are the same; slices.Clone of entries. provisolaw06.CertChecks: its walk. -/
import Derived.Test.YtfbdnfokoakfaaaREncC
import Derived.WalkSpells
namespace Go.Proofs.Ytfbdnfokoakfaaa.Ct
open Go.RowKit Go.Proofs.YtfbdnfokoakfaaaW.PrintWords Go.Proofs.YtfbdnfokoakfaaaW.PrintLast Go.Proofs.YtfbdnfokoakfaaaW.PrintMore
set_option linter.unusedVariables false
set_option linter.unusedSimpArgs false

structure SmSt (w W : World) (L : Int) (A1 A2 : Option Addr) (c1 c2 : Nat) (l : List En) : Prop where
  a : W.heap[w.heap.size]? = some (.cells #[.int .i64 L, .slice A1 l.length c1] 24 (0, 0))
  b : W.heap[w.heap.size + 1]? = some (.cells #[.int .i64 L, .slice A2 l.length c2] 24 (0, 0))
  below : Below w.heap.size w W
theorem SmSt.drewN {w W : World} {L : Int} {A1 A2 : Option Addr} {c1 c2 : Nat} {l : List En} (h : SmSt w W L A1 A2 c1 c2 l) (n : Nat) : SmSt w (W.drewN n) L A1 A2 c1 c2 l := ⟨h.a, h.b, pw_below_drewN h.below n⟩

set_option maxHeartbeats 2000000 in
set_option maxRecDepth 100000 in
theorem same_c (L : Int) (A1 A2 : Option Addr) (c1 c2 : Nat) (l : List En) (w : World) (hr1 : Kd.C kEn w A1 l.length l) (hr2 : Kd.C kEn w A2 l.length l) :
    Calls Try.prog 16 #[.agg #[.int .i64 L, .slice A1 l.length c1], .agg #[.int .i64 L, .slice A2 l.length c2]] w fun e w' => e = .returned (.bool true) ∧ Below w.heap.size w w' := by
  have HR1 := Lib.hid hr1
  have HR2 := Lib.hid hr2
  have hlen : l.length ≤ 9223372036854775807 := hr1.2.1
  clear hr1 hr2
  have d1 : (L != L) = false := by simp
  have d2 : ((l.length : Int) != (l.length : Int)) = false := by simp
  go_enter Try.func16, Try.ntmps16
  go_wp2
  go_loopg [5] (l.length + 1) (fun k v5 W => ∃ (i : Nat), v5 = .int .i64 (i : Int) ∧ i + k = l.length + 1 ∧ i ≤ l.length ∧ SmSt w W L A1 A2 c1 c2 l)
  case atStart => exact ⟨0, rfl, by omega, Nat.zero_le _, blk_alloc (blk_new w _) _, by rw [← World.size_alloc w (.cells #[.int .i64 L, .slice A1 l.length c1] 24)]; exact blk_new _ _, below_alloc (below_alloc (Below.refl _ _) _) _⟩
  case round =>
    obtain ⟨i, rfl, hi, hil, St⟩ := hrel
    obtain ⟨k, rfl⟩ : ∃ k, gk = k + 1 := ⟨gk - 1, by omega⟩
    have k1 : wr.cell? ⟨w.heap.size, 1, none⟩ = some (.slice A1 l.length c1) := blk_cell St.a 1
    have k2 : wr.cell? ⟨w.heap.size + 1, 1, none⟩ = some (.slice A2 l.length c2) := blk_cell St.b 1
    by_cases hlt : i < l.length
    · have e1 : decide ((i : Int) < (l.length : Int)) = true := decide_eq_true (by exact_mod_cast hlt)
      obtain ⟨ad1, rfl, hwf, hrg1⟩ := at_en (Kd.C_below HR1.out St.below) i hlt
      obtain ⟨ad2, rfl, _, hrg2⟩ := at_en (Kd.C_below HR2.out St.below) i hlt
      obtain ⟨x, hx⟩ : ∃ x, x = l.getD i en0 := ⟨_, rfl⟩
      rw [← hx] at hwf hrg1 hrg2
      have HW := Lib.hid hwf
      have HG1 := Lib.hid hrg1
      have HG2 := Lib.hid hrg2
      have HSt := Lib.hid St
      clear hx hwf hrg1 hrg2 St
      go_wp2
      refine start_ (n := 11) (S := fun W => W.cell? ⟨w.heap.size, 1, none⟩ = some (.slice (some ad1) l.length c1) ∧ W.cell? ⟨w.heap.size + 1, 1, none⟩ = some (.slice (some ad2) l.length c2) ∧ Rng W (ad1.add (i * 28)) (enC x) ∧ Rng W (ad2.add (i * 28)) (enC x)) (ds := []) #[false, false, false, false, false, false, false, false, false, false, false] (by kernel_rfl) rfl rfl ⟨k1, k2, HG1.out, HG2.out⟩ (fun hHeld => ?_)
      refine pure_ (i := 0) (N := some 27) (v := ?_) (a' := ?_) #[true, false, false, false, false, false, false, false, false, false, false] rfl rfl (by kernel_rfl) (fun _ _ _ h => h) (Or.inl ⟨by rfl, ?_⟩) ?_ ?_
      rotate_left
      · intro w_
        go_simp
        with_reducible rfl
      rotate_left
      · simp only [Act.put, List.setIfInBounds_toArray, List.set_cons_zero, List.set_cons_succ]
        rfl
      refine pure_ (i := 2) (N := some 29) (v := ?_) (a' := ?_) #[true, false, true, false, false, false, false, false, false, false, false] rfl rfl (by kernel_rfl) (fun _ _ _ h => h) (Or.inl ⟨by rfl, ?_⟩) ?_ ?_
      rotate_left
      · intro w_
        go_simp
        with_reducible rfl
      rotate_left
      · simp only [Act.put, List.setIfInBounds_toArray, List.set_cons_zero, List.set_cons_succ]
        rfl
      refine pure_ (i := 5) (N := some 32) (v := ?_) (a' := ?_) #[true, false, true, false, false, true, false, false, false, false, false] rfl rfl (by kernel_rfl) (fun _ _ _ h => h) (Or.inl ⟨by rfl, ?_⟩) ?_ ?_
      rotate_left
      · intro w_
        go_simp
        with_reducible rfl
      rotate_left
      · simp only [Act.put, List.setIfInBounds_toArray, List.set_cons_zero, List.set_cons_succ]
        rfl
      refine pure_ (i := 7) (N := some 34) (v := ?_) (a' := ?_) #[true, false, true, false, false, true, false, true, false, false, false] rfl rfl (by kernel_rfl) (fun _ _ _ h => h) (Or.inl ⟨by rfl, ?_⟩) ?_ ?_
      rotate_left
      · intro w_
        go_simp
        with_reducible rfl
      rotate_left
      · simp only [Act.put, List.setIfInBounds_toArray, List.set_cons_zero, List.set_cons_succ]
        rfl
      refine take_ (i := 1) (N := some 28) (v := ?_) (a' := ?_) #[true, true, true, false, false, true, false, true, false, false, false] rfl rfl (by kernel_rfl) (fun _ _ _ h => h) (Or.inl ⟨by rfl, ?_⟩) hHeld ?_ ?_
      rotate_left
      · intro w_ hS_
        obtain ⟨s0, s1, s2, s3⟩ := hS_
        go_simp
        with_reducible rfl
      rotate_left
      · simp only [Act.put, List.setIfInBounds_toArray, List.set_cons_zero, List.set_cons_succ]
        rfl
      refine pure_ (i := 3) (N := some 30) (v := ?_) (a' := ?_) #[true, true, true, true, false, true, false, true, false, false, false] rfl rfl (by kernel_rfl) (fun _ _ _ h => h) (Or.inl ⟨by rfl, ?_⟩) ?_ ?_
      rotate_left
      · intro w_
        go_simp
        with_reducible rfl
      rotate_left
      · simp only [Act.put, List.setIfInBounds_toArray, List.set_cons_zero, List.set_cons_succ]
        rfl
      refine take_ (i := 4) (N := some 31) (v := ?_) (a' := ?_) #[true, true, true, true, true, true, false, true, false, false, false] rfl rfl (by kernel_rfl) (fun _ _ _ h => h) (Or.inl ⟨by rfl, ?_⟩) hHeld ?_ ?_
      rotate_left
      · intro w_ hS_
        obtain ⟨s0, s1, s2, s3⟩ := hS_
        refine exec_load_any (ty := 44) (x := .tmp 30) (p := ad1.add (i * 28)) (cs := enC x) ?_ ?_ s2 Try.underlying44 rfl (by rw [enC_len HW.out]; kernel_rfl)
        · rfl
        · rfl
      rotate_left
      · simp only [Act.put, List.setIfInBounds_toArray, List.set_cons_zero, List.set_cons_succ]
        rfl
      refine take_ (i := 6) (N := some 33) (v := ?_) (a' := ?_) #[true, true, true, true, true, true, true, true, false, false, false] rfl rfl (by kernel_rfl) (fun _ _ _ h => h) (Or.inl ⟨by rfl, ?_⟩) hHeld ?_ ?_
      rotate_left
      · intro w_ hS_
        obtain ⟨s0, s1, s2, s3⟩ := hS_
        go_simp
        with_reducible rfl
      rotate_left
      · simp only [Act.put, List.setIfInBounds_toArray, List.set_cons_zero, List.set_cons_succ]
        rfl
      refine pure_ (i := 8) (N := some 35) (v := ?_) (a' := ?_) #[true, true, true, true, true, true, true, true, true, false, false] rfl rfl (by kernel_rfl) (fun _ _ _ h => h) (Or.inl ⟨by rfl, ?_⟩) ?_ ?_
      rotate_left
      · intro w_
        go_simp
        with_reducible rfl
      rotate_left
      · simp only [Act.put, List.setIfInBounds_toArray, List.set_cons_zero, List.set_cons_succ]
        rfl
      refine take_ (i := 9) (N := some 36) (v := ?_) (a' := ?_) #[true, true, true, true, true, true, true, true, true, true, false] rfl rfl (by kernel_rfl) (fun _ _ _ h => h) (Or.inl ⟨by rfl, ?_⟩) hHeld ?_ ?_
      rotate_left
      · intro w_ hS_
        obtain ⟨s0, s1, s2, s3⟩ := hS_
        refine exec_load_any (ty := 44) (x := .tmp 35) (p := ad2.add (i * 28)) (cs := enC x) ?_ ?_ s3 Try.underlying44 rfl (by rw [enC_len HW.out]; kernel_rfl)
        · rfl
        · rfl
      rotate_left
      · simp only [Act.put, List.setIfInBounds_toArray, List.set_cons_zero, List.set_cons_succ]
        rfl
      refine pure_ (i := 10) (N := some 37) (v := ?_) (a' := ?_) #[true, true, true, true, true, true, true, true, true, true, true] rfl rfl (by kernel_rfl) (fun _ _ _ h => h) (Or.inl ⟨by rfl, ?_⟩) ?_ ?_
      rotate_left
      · intro w_
        refine (run_neq44 (x := .tmp 31) (y := .tmp 36) (f := x) (g := x) ?_ ?_ ?_ HW.out HW.out w_).trans ?_
        · rfl
        · rfl
        · rfl
        · rw [eqE_self]
      rotate_left
      · simp only [Act.put, List.setIfInBounds_toArray, List.set_cons_zero, List.set_cons_succ]
        rfl
      refine done_ (by kernel_rfl) ?_
      go_wp2
      go_roundg k
      case measure => omega
      case rel => exact ⟨i + 1, by simp, by omega, by omega, HSt.out.drewN 1⟩
    · have e1 : decide ((i : Int) < (l.length : Int)) = false := decide_eq_false (by omega)
      have HSt := Lib.hid St
      clear St
      go_wp2
      go_ret
      exact ⟨rfl, HSt.out.below⟩

set_option maxHeartbeats 1000000 in
set_option maxRecDepth 100000 in
theorem clone_c (A : Option Addr) (c : Nat) (l : List En) (w : World) (hr : Kd.C kEn w A l.length l) (hc : l.length ≤ c) (hl : l.length * 56 ≤ 140737488351232) :
    Calls Try.prog 35 #[.slice A l.length c] w fun e w' => ∃ v0, e = .returned v0 ∧ Kd.R kEn 44 w' w.heap.size (fun _ => True) v0 l ∧ Below w.heap.size w w' := by
  have hnil := fun (W : World) => Lib.run_eql_slice_nil (P := Try.prog) W 22 44 A l.length c 0 0 Try.underlying22
  rcases A with _ | ad
  · have e0 : l = [] := by
      rcases Nat.eq_zero_or_pos l.length with h | h
      · exact List.eq_nil_of_length_eq_zero h
      · obtain ⟨ad, h, _⟩ := hr.2.2 h
        cases h
    have HL := Lib.hid e0
    clear e0
    go_enter Try.func35, Try.ntmps35
    go_wp2
    go_ret
    exact ⟨_, rfl, by rw [HL.out]; exact Kd.R_nil _ _ _ _ _, Below.refl _ _⟩
  · have HR := Lib.hid hr
    clear hr
    go_enter Try.func35, Try.ntmps35
    have hO : Kd.R kEn 44 (w.alloc (.cells #[] 44)) w.heap.size (fun _ => True) (.slice (some ⟨w.heap.size, 0, none⟩) 0 0) [] := by
      refine ⟨fun _ _ => trivial, [], ?_, ?_⟩
      · have h2 := World.ownsRow_lit (base := w.heap.size) (e := 44) (size := 28) w #[] 0 (Nat.le_refl _) (by simp [maxLen]) (by simp)
        have h3 : (w.alloc (.cells #[] 44)).ownsRow w.heap.size 44 28 (.slice (some ⟨w.heap.size, 0, none⟩) 0 0) 0 [] := by simpa using h2
        exact h3
      · exact ⟨by simp, fun j p hj => by simp at hj⟩
    have HO := Lib.hid hO
    clear hO
    go_wp2_with (at_builtin; refine Kd.R_append_rows kEn (w0 := w) w.heap.size rfl (.tmp 5) (.tmp 6) 22 44 (enV en0) 56 rfl Try.underlying22 info44 rfl (by decide) (by omega) _ [] l (some ad) l.length c (fun _ => True) (fun _ => False) rfl rfl HO.out ?aR (fun _ _ h => h) (fun _ h => h.elim) (fun _ _ => trivial) ?aB ?aS ?aL ?_; (case aR => exact Kd.C_alloc HR.out _); (case aB => exact below_alloc (Below.refl _ _) _); (case aS => simp); (case aL => simp; omega); intro v1 w1 ho hb _ _; have H1 := Lib.hid ho; have H2 := Lib.hid hb; clear ho hb)
    go_ret
    exact ⟨_, rfl, H1.out, H2.out⟩

set_option maxHeartbeats 1000000 in
set_option maxRecDepth 100000 in
theorem copied_c (L : Int) (A : Option Addr) (c : Nat) (l : List En) (w : World) (hr : Kd.C kEn w A l.length l) (hc : l.length ≤ c) (hl : l.length * 56 ≤ 140737488351232) :
    Calls Try.prog 13 #[.agg #[.int .i64 L, .slice A l.length c]] w fun e w' => ∃ A1 c1, e = .returned (.agg #[.int .i64 L, .slice A1 l.length c1]) ∧ Kd.R kEn 44 w' w.heap.size (fun _ => True) (.slice A1 l.length c1) l ∧ Below w.heap.size w w' := by
  have HC := Lib.hid (fun W h => clone_c A c l W h hc hl)
  have HR := Lib.hid hr
  clear hr
  go_enter Try.func13, Try.ntmps13
  go_wp2_with fail
  refine (HC.out _ (Kd.C_alloc (Kd.C_alloc HR.out _) _)).mono ?_
  rintro e w1 ⟨v1, rfl, ho, hb⟩
  obtain ⟨A1, c1, rfl⟩ := Kd.R_slice ho
  have hb1 := blk_below (blk_alloc (blk_new w (.cells #[.int .i64 L, .slice A l.length c] 24)) (.cells #[.int .i64 0, .slice none 0 0] 24)) hb
  have hb2 := blk_below (by rw [← World.size_alloc w (.cells #[.int .i64 L, .slice A l.length c] 24)]; exact blk_new (w.alloc (.cells #[.int .i64 L, .slice A l.length c] 24)) (.cells #[.int .i64 0, .slice none 0 0] 24) : ((w.alloc (.cells #[.int .i64 L, .slice A l.length c] 24)).alloc (.cells #[.int .i64 0, .slice none 0 0] 24)).heap[w.heap.size + 1]? = some (.cells #[.int .i64 0, .slice none 0 0] 24 (0, 0))) hb
  have k0 := blk_cell hb1 0
  have k1 := blk_cell hb1 1
  have f0 := blk_frozen hb1 0
  have f1 := blk_frozen hb1 1
  have z1 := blk_lt hb1
  have m0 := blk_cell hb2 0
  have m1 := blk_cell hb2 1
  have g0 := blk_frozen hb2 0
  have g1 := blk_frozen hb2 1
  have z2 := blk_lt hb2
  simp only [List.getElem?_toArray, List.getElem?_cons_zero, List.getElem?_cons_succ] at k0 k1 m0 m1
  have HO := Lib.hid ho
  have HB := Lib.hid hb
  have H2 := Lib.hid hb2
  clear hb1 hb2 ho hb
  go_wp2
  have q2 := blk_put (blk_put (blk_far (p := ⟨w.heap.size, 1, none⟩) H2.out (by simp) (.slice A1 l.length c1)) 0 (.int .i64 L) rfl) 1 (.slice A1 l.length c1) rfl
  have hsz : ((w.alloc (.cells #[.int .i64 L, .slice A l.length c] 24)).alloc (.cells #[.int .i64 0, .slice none 0 0] 24)).heap.size = w.heap.size + 1 + 1 := by rw [World.size_alloc, World.size_alloc]
  have hO2 := Kd.R_mono (ok' := fun k => k ≠ w.heap.size ∧ k ≠ w.heap.size + 1) (Kd.R_bound HO.out) (fun k hk => by have := hk.2.1; rw [hsz] at this; omega)
  have hO3 := Kd.R_lower (Kd.R_mono (Kd.R_far (p := ⟨w.heap.size + 1, 1, none⟩) (Kd.R_far (p := ⟨w.heap.size + 1, 0, none⟩) (Kd.R_far (p := ⟨w.heap.size, 1, none⟩) hO2 (fun k hk => hk.1) (.slice A1 l.length c1)) (fun k hk => hk.2) (.int .i64 L)) (fun k hk => hk.2) (.slice A1 l.length c1)) (ok' := fun _ => True) (fun _ _ => trivial)) (base' := w.heap.size) (by rw [hsz]; omega)
  have hfin := below_set (below_set (below_set ((below_alloc (below_alloc (Below.refl w.heap.size w) (.cells #[.int .i64 L, .slice A l.length c] 24)) (.cells #[.int .i64 0, .slice none 0 0] 24)).trans (HB.out.mono (by rw [hsz]; omega))) (g := w.heap.size) (j := 1) (v := .slice A1 l.length c1) (Nat.le_refl _)) (g := w.heap.size + 1) (j := 0) (v := .int .i64 L) (Nat.le_succ _)) (g := w.heap.size + 1) (j := 1) (v := .slice A1 l.length c1) (Nat.le_succ _)
  refine bodyPost_ret (results_cell_row rfl _ _ (w.heap.size + 1) 24 _ (0, 0) _ rfl q2 Try.underlying24 rfl (by kernel_rfl)) rfl ?_
  exact ⟨A1, c1, rfl, hO3, hfin⟩
end Go.Proofs.Ytfbdnfokoakfaaa.Ct
namespace Go.Proofs.Ytfbdnfokoakfaaa.Ct
open Go.RowKit Go.Proofs.YtfbdnfokoakfaaaW.PrintWords Go.Proofs.YtfbdnfokoakfaaaW.PrintLast Go.Proofs.YtfbdnfokoakfaaaW.PrintMore
set_option linter.unusedVariables false
set_option linter.unusedSimpArgs false

/-- The box of a certificate, with what lies in it. -/
structure CtBox (W : World) (g : Nat) (L : Int) (A : Option Addr) (c : Nat) (l : List En) : Prop where
  a : W.heap[g]? = some (.cells #[.int .i64 L, .slice A l.length c] 24 (0, 0))
  r : Kd.C kEn W A l.length l
theorem CtBox.next {W W2 : World} {g : Nat} {L : Int} {A : Option Addr} {c : Nat} {l : List En} (h : CtBox W g L A c l) (b : Below W.heap.size W W2) : CtBox W2 g L A c l :=
  ⟨blk_below h.a b, Kd.C_below h.r b⟩
theorem CtBox.drewN {W : World} {g : Nat} {L : Int} {A : Option Addr} {c : Nat} {l : List En} (h : CtBox W g L A c l) (n : Nat) : CtBox (W.drewN n) g L A c l := h.next (pw_below_drewN (Below.refl _ _) n)

set_option maxHeartbeats 2000000 in
set_option maxRecDepth 100000 in
theorem checks_law (L : Int) (A : Option Addr) (c : Nat) (l : List En) (w : World) (hr : Kd.C kEn w A l.length l) (hc : l.length ≤ c) (hl : l.length * 56 ≤ 140737488351232) :
    Calls Try.prog 3 #[.agg #[.int .i64 L, .slice A l.length c]] w fun e w' => e = .returned (.bool true) ∧ Below w.heap.size w w' := by
  have HC := Lib.hid (fun W h => copied_c L A c l W h hc hl)
  have HK := Lib.hid (fun A c W h => check_c L A c l W h)
  have HQ := Lib.hid (fun A c W h => rcheck_c L A c l W h)
  have HS := Lib.hid (fun A1 A2 c1 c2 W h1 h2 => same_c L A1 A2 c1 c2 l W h1 h2)
  obtain ⟨⟨n, e⟩, hne⟩ : ∃ x, x = checkS L l := ⟨_, rfl⟩
  rw [← hne] at HK HQ
  have HR := Lib.hid hr
  clear hne hr
  go_enter Try.func3, Try.ntmps3
  go_wp2_with fail
  refine (HC.out _ (Kd.C_alloc HR.out _)).mono ?_
  rintro e1 w1 ⟨A1, c1, rfl, ho1, b1⟩
  have B0 : CtBox w1 w.heap.size L A c l := CtBox.next ⟨blk_new w _, Kd.C_alloc HR.out _⟩ b1
  have HB0 := Lib.hid B0
  have HO1 := Lib.hid ho1
  have HL1 := Lib.hid (b1.mono (w := w.alloc (.cells #[.int .i64 L, .slice A l.length c] 24)) (Nat.le_refl _))
  clear B0 ho1 b1
  go_wp2_with fail
  have B1 : CtBox (w1.alloc (.cells #[.int .i64 L, .slice A1 l.length c1] 24)) w1.heap.size L A1 c1 l := ⟨blk_new w1 _, Kd.C_alloc (Kd.R_reads' HO1.out).2.2 _⟩
  have HBW := Lib.hid (show Below w.heap.size w (w1.alloc (.cells #[.int .i64 L, .slice A1 l.length c1] 24)) from below_alloc ((below_alloc (Below.refl _ _) _).trans (HL1.out.mono (Nat.le_of_lt (by rw [World.size_alloc]; exact Nat.lt_succ_self _)))) _)
  refine (HK.out _ _ _ B1.r).mono ?_
  rintro e2 w2 ⟨rfl, b2⟩
  have B1' := B1.next b2
  have B0' := (HB0.out.next (below_alloc (Below.refl _ _) (.cells #[.int .i64 L, .slice A1 l.length c1] 24))).next b2
  have k0 := blk_cell B0'.a 0
  have k1 := blk_cell B0'.a 1
  simp only [List.getElem?_toArray, List.getElem?_cons_zero, List.getElem?_cons_succ] at k0 k1
  have HB2 := Lib.hid (HBW.out.trans (b2.mono HBW.out.size))
  have H1 := Lib.hid B1'
  have H0 := Lib.hid B0'
  clear B1 B1' B0' b2
  go_wp2_with fail
  refine (HQ.out _ _ _ H0.out.r).mono ?_
  rintro e3 w3 ⟨rfl, b3⟩
  have B1 := H1.out.next b3
  have B0 := H0.out.next b3
  have j0 := blk_cell B0.a 0
  have j1 := blk_cell B0.a 1
  have m0 := blk_cell B1.a 0
  have m1 := blk_cell B1.a 1
  simp only [List.getElem?_toArray, List.getElem?_cons_zero, List.getElem?_cons_succ] at j0 j1 m0 m1
  have HB3 := Lib.hid (HB2.out.trans (b3.mono HB2.out.size))
  have G1 := Lib.hid B1
  have G0 := Lib.hid B0
  clear B1 B0 b3 k0 k1
  go_wp2_with fail
  refine (HS.out _ _ _ _ _ G1.out.r G0.out.r).mono ?_
  rintro e4 w4 ⟨rfl, b4⟩
  have HB4 := Lib.hid (HB3.out.trans (b4.mono HB3.out.size))
  go_wp2
  go_ret
  exact ⟨rfl, HB4.out⟩
theorem checks_row (L : Int) (A : Option Addr) (c : Nat) (l : List En) (w : World) (hl : l.length * 56 ≤ 140737488351232) (hc : l.length ≤ c) (hr : Kd.C kEn w A l.length l) :
    Calls Try.prog 3 #[.agg #[.int .i64 L, .slice A l.length c]] w fun e w' => e = .returned (.bool true) ∧ Below w.heap.size w w' := checks_law L A c l w hr hc hl
end Go.Proofs.Ytfbdnfokoakfaaa.Ct
