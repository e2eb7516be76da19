/- cert.frame. -/
import Derived.Test.YtfbdnfokoakfaaaEnt
import Derived.Deep.Slices
namespace Go.Proofs.Ytfbdnfokoakfaaa.Ct
open Go.RowKit Go.Proofs.YtfbdnfokoakfaaaW.PrintWords Go.Proofs.YtfbdnfokoakfaaaW.PrintLast Go.Proofs.YtfbdnfokoakfaaaW.PrintMore
set_option linter.unusedVariables false
set_option linter.unusedSimpArgs false

structure FrSt (w W : World) (f : Fr) : Prop where
  a : W.heap[w.heap.size]? = some (.cells (frC f).toArray 42 (0, 0))
  below : Below w.heap.size w W
theorem FrSt.next {w W W2 : World} {f : Fr} (h : FrSt w W f) (b : Below W.heap.size W W2) : FrSt w W2 f :=
  ⟨blk_below h.a b, h.below.trans (b.mono h.below.size)⟩
theorem FrSt.drewN {w W : World} {f : Fr} (h : FrSt w W f) (n : Nat) : FrSt w (W.drewN n) f := ⟨h.a, pw_below_drewN h.below n⟩

theorem sizeOf_of {P : Program} {t : TypeId} {n : Nat} (h : (P.info? t).map (·.size) = some n) (W : World) : (sizeOf t).run P W = .ok n W := by
  cases hq : P.info? t with
  | none => simp [hq] at h
  | some i =>
    simp [hq] at h
    simp [sizeOf, typeInfo, hq, h]
theorem size39 (W : World) : (sizeOf 39).run Try.prog W = .ok 1 W := sizeOf_of (by kernel_rfl) W
/-- Slots[n:] and Slots[:n]. -/
theorem cut_from24 (g n : Nat) (hn : n ≤ 24) : ∃ p : Addr, (∀ i, i < 24 - n → p.add i = ⟨g, 2 + n + i, none⟩) ∧
    ∀ W, (Instr.sliceAt 40 (.pointer (some ⟨g, 2, none⟩)) (some (.int .i64 (n : Int))) none none).run Try.prog W = .ok (.slice (some p) (24 - n) (24 - n)) W := by
  have ha : Try.prog.arrayLen 40 = 24 := by kernel_rfl
  have he : Try.prog.elem 40 = 39 := by kernel_rfl
  refine ⟨if 24 = n then ⟨g, 2, none⟩ else (⟨g, 2, none⟩ : Addr).add n, fun i hi => ?_, fun W => ?_⟩
  · rw [if_neg (by omega), Deep.add_add, Addr.add_mid, Nat.add_assoc]
  · have h := run_sliceAt_array_l (P := Try.prog) W 40 ⟨g, 2, none⟩ (by rw [ha, he]; exact Try.underlying40) .i64 (n : Int) (by omega) (by rw [ha]; omega)
    rw [h, ha, he, size39]
    simp [slicedAt, Result.andThen]
theorem cut_to24 (g n : Nat) (hn : n ≤ 24) : ∀ W, (Instr.sliceAt 40 (.pointer (some ⟨g, 2, none⟩)) none (some (.int .i64 (n : Int))) none).run Try.prog W = .ok (.slice (some ⟨g, 2, none⟩) n 24) W := by
  intro W
  have ha : Try.prog.arrayLen 40 = 24 := by kernel_rfl
  have he : Try.prog.elem 40 = 39 := by kernel_rfl
  have h := run_sliceAt_array_h (P := Try.prog) W 40 ⟨g, 2, none⟩ (by rw [ha, he]; exact Try.underlying40) .i64 (n : Int) (by omega) (by rw [ha]; omega)
  rw [h, ha, he, size39]
  simp [slicedAt, Result.andThen, Addr.add]

set_option maxHeartbeats 2000000 in
set_option maxRecDepth 100000 in
theorem frame_c (f : Fr) (L : Int) (hf : f.wf) (h0 : 0 ≤ L) (h1 : L ≤ 16) (w : World) : Calls Try.prog 37 #[frV f, .int .i64 L] w fun e w' => e = .returned (.int .i64 (frameS f L)) ∧ Below w.heap.size w w' := by
  have g0 := cell_l (range_new w (frC f) 42)
  have g1 := cell_h (range_new w (frC f) 42)
  unfold frV
  by_cases hbad : f.l ≠ L ∨ f.h < 0 ∨ 24 - L < f.h
  · have hv : frameS f L = 65 := by unfold frameS; rw [if_pos hbad]
    rw [hv]
    by_cases c1 : f.l = L
    · have d1 : (f.l != L) = false := by simp [c1]
      by_cases c2 : f.h < 0
      · have d2 : decide (f.h < 0) = true := by simp [c2]
        go_enter Try.func37, Try.ntmps37
        go_wp2
        go_ret
        exact ⟨rfl, below_alloc (Below.refl _ _) _⟩
      · have d2 : decide (f.h < 0) = false := by simp; omega
        have d3 : decide (24 - L < f.h) = true := by simp; omega
        go_enter Try.func37, Try.ntmps37
        go_wp2
        go_ret
        exact ⟨rfl, below_alloc (Below.refl _ _) _⟩
    · have d1 : (f.l != L) = true := by simp [c1]
      go_enter Try.func37, Try.ntmps37
      go_wp2
      go_ret
      exact ⟨rfl, below_alloc (Below.refl _ _) _⟩
  · obtain ⟨hl, hh0, hh1⟩ : f.l = L ∧ 0 ≤ f.h ∧ f.h ≤ 24 - L := by
      refine ⟨?_, by omega, by omega⟩
      by_cases c : f.l = L
      · exact c
      · exact absurd (.inl c) hbad
    obtain ⟨n, hn⟩ : ∃ n : Nat, (L + f.h) = (n : Int) := ⟨(L + f.h).toNat, by omega⟩
    have hn24 : n ≤ 24 := by omega
    have hv : frameS f L = if (f.s.drop n).all (fun t => t == 0) = true then (if (f.s.take n).all knownB = true then 0 else 62) else 65 := by
      unfold frameS
      rw [if_neg hbad, hn, Int.toNat_natCast]
    have HV := Lib.hid hv
    have hs24 : f.s.length = 24 := hf.1
    have d1 : (f.l != L) = false := by simp [hl]
    have d2 : decide (f.h < 0) = false := by simp; omega
    have d3 : decide (24 - L < f.h) = false := by simp; omega
    obtain ⟨p, hp, hc1⟩ := cut_from24 w.heap.size n hn24
    have hc2 := cut_to24 w.heap.size n hn24
    have HP := Lib.hid hp
    have HR := Lib.hid (range_new w (frC f) 42)
    have St0 : FrSt w (w.alloc (.cells (frC f).toArray 42)) f := ⟨blk_new w _, below_alloc (Below.refl _ _) _⟩
    have HS := Lib.hid St0
    clear hbad hv hp St0
    go_enter Try.func37, Try.ntmps37
    go_wp2
    go_loopg [34] (24 - n + 1) (fun k v34 W => ∃ i : Nat, v34 = .int .i64 (i : Int) ∧ i + k = 24 - n + 1 ∧ FrSt w W f ∧ Hid (∀ j, (hj : n + j < f.s.length) → j < i → f.s[n + j] = 0))
    case atStart => exact ⟨0, rfl, by omega, HS.out, Lib.hid (fun j hj h => absurd h (Nat.not_lt_zero _))⟩
    case round =>
      obtain ⟨i, rfl, hi, St, HZ⟩ := hrel
      clear HS HR
      by_cases hlt : i < 24 - n
      · have hx := range_slot (range_blk St.a) (n + i) (by omega)
        rw [show 0 + 2 + (n + i) = 2 + n + i by omega, ← HP.out i hlt] at hx
        have HSt := Lib.hid St
        obtain ⟨x, hxx⟩ : ∃ x, x = f.s[n + i] := ⟨_, rfl⟩
        rw [← hxx] at hx
        have e1 : decide ((i : Int) < ((24 - n : Nat) : Int)) = true := by simp; omega
        by_cases hz : x = 0
        · subst hz
          have HXX := Lib.hid hxx
          clear hxx St
          obtain ⟨k, rfl⟩ : ∃ k, gk = k + 1 := ⟨gk - 1, by omega⟩
          go_wp2
          go_roundg k
          case measure => omega
          case rel => exact ⟨i + 1, by simp, by omega, HSt.out, Lib.hid (fun j hj h => by
            by_cases e : j = i
            · subst e; exact HXX.out.symm
            · exact HZ.out j hj (by omega))⟩
        · have hne : (x != 0) = true := by simp [hz]
          have hv0 : frameS f L = 65 := by
            rw [HV.out, if_neg]
            intro h
            rw [List.all_eq_true] at h
            have this : (f.s[n + i] == 0) = true := h f.s[n + i] (by rw [List.mem_drop_iff_getElem]; exact ⟨i, by omega, rfl⟩)
            rw [← hxx] at this
            exact hz (by simpa using this)
          have HV0 := Lib.hid hv0
          clear hxx St hv0
          go_wp2
          go_ret
          exact ⟨by rw [HV0.out]; rfl, HSt.out.below⟩
      · have e1 : decide ((i : Int) < ((24 - n : Nat) : Int)) = false := by simp; omega
        have hall : (f.s.drop n).all (fun t => t == 0) = true := by
          rw [List.all_eq_true]
          intro t ht
          rw [List.mem_drop_iff_getElem] at ht
          obtain ⟨j, hj, rfl⟩ := ht
          simp [HZ.out j (by omega) (by omega)]
        have HV2 := Lib.hid (show frameS f L = if (f.s.take n).all knownB = true then 0 else 62 by rw [HV.out, if_pos hall])
        have HSt := Lib.hid St
        clear HZ hall St HV
        go_wp2
        go_loopg [45] (n + 1) (fun k v45 W => ∃ i : Nat, v45 = .int .i64 (i : Int) ∧ i + k = n + 1 ∧ FrSt w W f ∧ Hid (∀ j, (hj : j < f.s.length) → j < i → knownB f.s[j] = true))
        case atStart => exact ⟨0, rfl, by omega, HSt.out, Lib.hid (fun j hj h => absurd h (Nat.not_lt_zero _))⟩
        case round =>
          obtain ⟨i, rfl, hi, St, HZ⟩ := hrel
          clear HSt
          by_cases hlt : i < n
          · have hx := range_slot (range_blk St.a) i (by omega)
            rw [show 0 + 2 + i = 2 + i by omega] at hx
            have HSt := Lib.hid St
            obtain ⟨x, hxx⟩ : ∃ x, x = f.s[i] := ⟨_, rfl⟩
            rw [← hxx] at hx
            have e1 : decide ((i : Int) < (n : Int)) = true := by simp; omega
            have HK := Lib.hid (known_c x)
            by_cases hz : knownB x = true
            · rw [hz] at HK
              have HXX := Lib.hid (show knownB f.s[i] = true by rw [← hxx]; exact hz)
              clear hxx St hz
              obtain ⟨k, rfl⟩ : ∃ k, gk = k + 1 := ⟨gk - 1, by omega⟩
              go_wp2_with (go_at_call 45; refine (HK.out _).mono ?_; rintro e w1 ⟨rfl, ⟨⟨n1, rfl⟩⟩⟩)
              go_roundg k
              case measure => omega
              case rel => exact ⟨i + 1, by simp, by omega, HSt.out.drewN _, Lib.hid (fun j hj h => by
                by_cases e : j = i
                · subst e; exact HXX.out
                · exact HZ.out j hj (by omega))⟩
            · have hv0 : frameS f L = 62 := by
                rw [HV2.out, if_neg]
                intro h
                rw [List.all_eq_true] at h
                have this := h f.s[i] (by rw [List.mem_take_iff_getElem]; exact ⟨i, by omega, rfl⟩)
                rw [← hxx] at this
                exact hz this
              have HV0 := Lib.hid hv0
              replace hz := Bool.eq_false_iff.mpr hz
              rw [hz] at HK
              clear hxx St hz hv0
              go_wp2_with (go_at_call 45; refine (HK.out _).mono ?_; rintro e w1 ⟨rfl, ⟨⟨n1, rfl⟩⟩⟩)
              go_ret
              exact ⟨by rw [HV0.out]; rfl, pw_below_drewN HSt.out.below _⟩
          · have e1 : decide ((i : Int) < (n : Int)) = false := by simp; omega
            have hall : (f.s.take n).all knownB = true := by
              rw [List.all_eq_true]
              intro t ht
              rw [List.mem_take_iff_getElem] at ht
              obtain ⟨j, hj, rfl⟩ := ht
              exact HZ.out j (by omega) (by omega)
            have hv0 : frameS f L = 0 := by rw [HV2.out, if_pos hall]
            have HV0 := Lib.hid hv0
            have HSt := Lib.hid St
            clear HZ hall St HV2 hv0
            go_wp2
            go_ret
            exact ⟨by rw [HV0.out]; rfl, HSt.out.below⟩
end Go.Proofs.Ytfbdnfokoakfaaa.Ct
