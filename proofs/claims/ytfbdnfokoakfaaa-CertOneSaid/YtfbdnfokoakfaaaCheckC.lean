/- Frames and entries as plain values, and as cells. cert.frame. '==' of frames and entries. The reference's body. cert.Check and the reference's. Certificates that may be, and their bytes, as plain functions. -/
import Derived.Test.YtfbdnfokoakfaaaPCertChecksx1
import Derived.Deep.MidRow
import Derived.Deep.WholeRow
import Derived.Lib.Hide
import Derived.Lib.SliceRun
import Derived.Deep.Slices
import Derived.Laws.StructEq
namespace Go.Proofs.Ytfbdnfokoakfaaa.Ct
open Go.RowKit Go.Proofs.YtfbdnfokoakfaaaW.PrintWords Go.Proofs.YtfbdnfokoakfaaaW.PrintLast Go.Proofs.YtfbdnfokoakfaaaW.PrintMore
set_option linter.unusedVariables false
set_option linter.unusedSimpArgs false

/-- A frame. -/
structure Fr where
  l : Int
  h : Int
  s : List Int
structure En where
  at_ : Int
  dead : Bool
  fr : Fr
def Fr.wf (f : Fr) : Prop := f.s.length = 24 ∧ ∀ x, x ∈ f.s → 0 ≤ x ∧ x ≤ 255
def frC (f : Fr) : List Value := .int .i64 f.l :: .int .i64 f.h :: nums .u8 f.s
def enC (x : En) : List Value := .int .i64 x.at_ :: .bool x.dead :: frC x.fr
def frV (f : Fr) : Value := .agg (frC f).toArray
def enV (x : En) : Value := .agg (enC x).toArray
def fr0 : Fr := ⟨0, 0, List.replicate 24 0⟩
def en0 : En := ⟨0, false, fr0⟩
theorem fr0_wf : fr0.wf := ⟨by simp [fr0], fun x hx => by simp [fr0] at hx; omega⟩
theorem frC_len {f : Fr} (h : f.wf) : (frC f).length = 26 := by simp [frC, nums, h.1]
theorem enC_len {x : En} (h : x.fr.wf) : (enC x).length = 28 := by simp [enC, frC, nums, h.1]
theorem frC_one (f : Fr) : ∀ u, u ∈ frC f → u.oneCell' = true := by
  intro u hu
  simp only [frC, List.mem_cons, nums, List.mem_map] at hu
  rcases hu with rfl | rfl | ⟨a, _, rfl⟩ <;> rfl
theorem enC_one (x : En) : ∀ u, u ∈ enC x → u.oneCell' = true := by
  intro u hu
  simp only [enC, List.mem_cons] at hu
  rcases hu with rfl | rfl | hu
  · rfl
  · rfl
  · exact frC_one x.fr u hu

/-- Rows of entries. -/
def kEn : Kd En where
  sz := 28
  E := []
  K := fun _ x cs => cs = enC x ∧ x.fr.wf
  M := fun _ _ _ x cs => cs = enC x ∧ x.fr.wf
  K_len := fun {w x cs} h => by rw [h.1]; exact enC_len h.2
  K_one := fun {w x cs} h u hu => by rw [h.1] at hu; exact enC_one x u hu
  K_below := fun _ h => h
  K_of_M := fun h => h
  M_mono := fun _ h => h
  M_bound := fun h => h
  M_move := fun _ h => h
  M_lower := fun _ h => h

theorem info42 : (Try.prog.info? 42).map (fun i => (i.zero, i.size)) = some (some (frV fr0), 26) := by kernel_rfl
theorem info44 : (Try.prog.info? 44).map (fun i => (i.zero, i.size, i.bytes)) = some (some (enV en0), 28, 56) := by kernel_rfl
theorem info44s : (Try.prog.info? 44).map (fun i => (i.zero, i.size)) = some (some (enV en0), 28) := by kernel_rfl

theorem range_new (W : World) (cs : List Value) (t : TypeId) : (W.alloc (.cells cs.toArray t)).rangeAt W.heap.size 0 cs := by
  intro j v hj
  rw [Nat.zero_add, cell_of_row _ _ j cs.toArray t (0, 0) (heap_alloc_last W _)]
  simpa using hj
theorem range_blk {W : World} {g : Nat} {cs : List Value} {t : TypeId} (h : W.heap[g]? = some (.cells cs.toArray t (0, 0))) : W.rangeAt g 0 cs := by
  intro j v hj
  rw [Nat.zero_add, cell_of_row _ _ j cs.toArray t (0, 0) h]
  simpa using hj
theorem range_part {W : World} {g o n : Nat} {cs cs' : List Value} (h : W.rangeAt g o cs) (hn : ∀ j v, cs'[j]? = some v → cs[n + j]? = some v) : W.rangeAt g (o + n) cs' := fun j v hj => by
  rw [Nat.add_assoc]; exact h (n + j) v (hn j v hj)
theorem range_fr {W : World} {g o : Nat} {x : En} (h : W.rangeAt g o (enC x)) : W.rangeAt g (o + 2) (frC x.fr) := range_part h (fun j v hj => by rw [show 2 + j = j + 1 + 1 by omega]; exact hj)
theorem range_slot {W : World} {g o : Nat} {f : Fr} (h : W.rangeAt g o (frC f)) (i : Nat) (hi : i < f.s.length) : W.cell? ⟨g, o + 2 + i, none⟩ = some (.int .u8 (f.s[i])) := by
  have := h (2 + i) (.int .u8 f.s[i]) (by rw [show 2 + i = i + 1 + 1 by omega]; simp [frC, nums, hi])
  rw [← Nat.add_assoc] at this
  exact this
theorem cell_l {W : World} {g o : Nat} {f : Fr} (h : W.rangeAt g o (frC f)) : W.cell? ⟨g, o, none⟩ = some (.int .i64 f.l) := h 0 _ rfl
theorem cell_h {W : World} {g o : Nat} {f : Fr} (h : W.rangeAt g o (frC f)) : W.cell? ⟨g, o + 1, none⟩ = some (.int .i64 f.h) := h 1 _ rfl
theorem cell_at {W : World} {g o : Nat} {x : En} (h : W.rangeAt g o (enC x)) : W.cell? ⟨g, o, none⟩ = some (.int .i64 x.at_) := h 0 _ rfl
theorem cell_dead {W : World} {g o : Nat} {x : En} (h : W.rangeAt g o (enC x)) : W.cell? ⟨g, o + 1, none⟩ = some (.bool x.dead) := h 1 _ rfl

theorem load42 {W : World} {g o : Nat} {f : Fr} (hw : f.wf) (h : W.rangeAt g o (frC f)) : (Instr.loadAt 42 (.pointer (some ⟨g, o, none⟩))).run Try.prog W = .ok (frV f) W :=
  run_loadAt_mid W g o 42 (frC f) _ h Try.underlying42 rfl (by rw [frC_len hw]; kernel_rfl)
theorem load44 {W : World} {g o : Nat} {x : En} (hw : x.fr.wf) (h : W.rangeAt g o (enC x)) : (Instr.loadAt 44 (.pointer (some ⟨g, o, none⟩))).run Try.prog W = .ok (enV x) W :=
  run_loadAt_mid W g o 44 (enC x) _ h Try.underlying44 rfl (by rw [enC_len hw]; kernel_rfl)
theorem store44_new (W : World) {x y : En} (hx : x.fr.wf) (hy : y.fr.wf) : (Instr.storeAt 44 (.pointer (some ⟨W.heap.size, 0, none⟩)) (enV x)).run Try.prog (W.alloc (.cells (enC y).toArray 44)) = .ok () (W.alloc (.cells (enC x).toArray 44)) :=
  run_storeAt_new W 44 (enC y).toArray (enC x).toArray (by simp only [List.size_toArray, enC_len hx]; kernel_rfl) (by simp [enC_len hx, enC_len hy]) (all_oneCell_toArray (enC_one x))
theorem store42_new (W : World) {x y : Fr} (hx : x.wf) (hy : y.wf) : (Instr.storeAt 42 (.pointer (some ⟨W.heap.size, 0, none⟩)) (frV x)).run Try.prog (W.alloc (.cells (frC y).toArray 42)) = .ok () (W.alloc (.cells (frC x).toArray 42)) :=
  run_storeAt_new W 42 (frC y).toArray (frC x).toArray (by simp only [List.size_toArray, frC_len hx]; kernel_rfl) (by simp [frC_len hx, frC_len hy]) (all_oneCell_toArray (frC_one x))

/-! ### What the checks answer -/
def knownB (t : Int) : Bool := decide (t ≤ 5) || (decide (16 ≤ t) && decide (t < 48))
def risesS (last at_ : Int) : Int := if at_ < 0 ∨ 4096 ≤ at_ then 5 else if at_ = last then 61 else if at_ < last then 60 else 0
def frameS (f : Fr) (L : Int) : Int :=
  if f.l ≠ L ∨ f.h < 0 ∨ 24 - L < f.h then 65
  else if (f.s.drop (L + f.h).toNat).all (fun t => t == 0) = true then (if (f.s.take (L + f.h).toNat).all knownB = true then 0 else 62) else 65

theorem known_c (t : Int) (w : World) : Calls Try.prog 45 #[.int .u8 t] w fun e w' => e = .returned (.bool (knownB t)) ∧ Drawn0 w w' :=
  PCertChecks.cert_known.calls t _ w (by
    unfold PCertChecks.cert_known.f knownB
    by_cases h : t ≤ 5
    · rw [if_pos h]; simp [h]
    · rw [if_neg h]
      by_cases h2 : t ≥ 16
      · rw [if_pos h2]; simp [h, h2]
      · rw [if_neg h2]; simp [h, h2])
theorem isCode_c (t : Int) (w : World) : Calls Try.prog 46 #[.int .u8 t] w fun e w' => e = .returned (.bool (knownB t)) ∧ Drawn0 w w' :=
  PCertChecks.provisoref06_IsCode.calls t _ w (by
    unfold PCertChecks.provisoref06_IsCode.f knownB
    by_cases h : t ≤ 5
    · rw [if_pos h]; simp [h]
    · rw [if_neg h]
      by_cases h2 : t ≥ 16
      · rw [if_pos h2]; simp [h, h2]; omega
      · rw [if_neg h2]; simp [h, h2])
theorem rises_v (last at_ : Int) : PCertChecks.cert_rises.f 5 last at_ = some (risesS last at_) := by
  unfold PCertChecks.cert_rises.f risesS
  by_cases h : at_ < 0
  · rw [if_pos h, if_pos (.inl h), PCertChecks.cert_rises.j0, if_pos rfl]
  · rw [if_neg h]
    by_cases h2 : at_ ≥ 4096
    · rw [if_pos (.inr h2), decide_eq_true h2, PCertChecks.cert_rises.j0, if_pos rfl]
    · rw [if_neg (by omega), decide_eq_false h2, PCertChecks.cert_rises.j0, if_neg (by decide)]
      by_cases h3 : at_ = last
      · simp [h3]
      · by_cases h4 : at_ < last <;> simp [h3, h4]
theorem after_v (at_ last : Int) : PCertChecks.provisoref06_after.f 5 at_ last = some (risesS last at_) := by
  unfold PCertChecks.provisoref06_after.f risesS
  by_cases h : at_ < 0
  · rw [if_pos h, if_pos (.inl h), PCertChecks.provisoref06_after.j0, if_pos rfl]
  · rw [if_neg h]
    by_cases h2 : at_ > 4095
    · rw [if_pos (.inr (by omega)), decide_eq_true h2, PCertChecks.provisoref06_after.j0, if_pos rfl]
    · rw [if_neg (by omega), decide_eq_false h2, PCertChecks.provisoref06_after.j0, if_neg (by decide)]
      by_cases h3 : at_ = last
      · simp [h3]
      · by_cases h4 : at_ < last <;> simp [h3, h4]
theorem rises_c (last at_ : Int) (w : World) : Calls Try.prog 36 #[.int .i64 last, .int .i64 at_] w fun e w' => e = .returned (.int .i64 (risesS last at_)) ∧ Drawn0 w w' := PCertChecks.cert_rises.calls 5 last at_ _ w (rises_v last at_)
theorem after_c (at_ last : Int) (w : World) : Calls Try.prog 38 #[.int .i64 at_, .int .i64 last] w fun e w' => e = .returned (.int .i64 (risesS last at_)) ∧ Drawn0 w w' := PCertChecks.provisoref06_after.calls 5 at_ last _ w (after_v at_ last)
end Go.Proofs.Ytfbdnfokoakfaaa.Ct
namespace Go.Proofs.Ytfbdnfokoakfaaa.Ct
open Go.RowKit Go.Proofs.YtfbdnfokoakfaaaW.PrintWords Go.Proofs.YtfbdnfokoakfaaaW.PrintLast Go.Proofs.YtfbdnfokoakfaaaW.PrintMore
set_option linter.unusedVariables false
set_option linter.unusedSimpArgs false

structure FrSt (w W : World) (f : Fr) : Prop where
  a : W.heap[w.heap.size]? = some (.cells (frC f).toArray 42 (0, 0))
  below : Below w.heap.size w W
theorem FrSt.next {w W W2 : World} {f : Fr} (h : FrSt w W f) (b : Below W.heap.size W W2) : FrSt w W2 f :=
  ⟨blk_below h.a b, h.below.trans (b.mono h.below.size)⟩
theorem FrSt.drewN {w W : World} {f : Fr} (h : FrSt w W f) (n : Nat) : FrSt w (W.drewN n) f := ⟨h.a, pw_below_drewN h.below n⟩

theorem sizeOf_of {P : Program} {t : TypeId} {n : Nat} (h : (P.info? t).map (·.size) = some n) (W : World) : (sizeOf t).run P W = .ok n W := by
  cases hq : P.info? t with
  | none => simp [hq] at h
  | some i =>
    simp [hq] at h
    simp [sizeOf, typeInfo, hq, h]
theorem size39 (W : World) : (sizeOf 39).run Try.prog W = .ok 1 W := sizeOf_of (by kernel_rfl) W
/-- Slots[n:] and Slots[:n]. -/
theorem cut_from24 (g n : Nat) (hn : n ≤ 24) : ∃ p : Addr, (∀ i, i < 24 - n → p.add i = ⟨g, 2 + n + i, none⟩) ∧
    ∀ W, (Instr.sliceAt 40 (.pointer (some ⟨g, 2, none⟩)) (some (.int .i64 (n : Int))) none none).run Try.prog W = .ok (.slice (some p) (24 - n) (24 - n)) W := by
  have ha : Try.prog.arrayLen 40 = 24 := by kernel_rfl
  have he : Try.prog.elem 40 = 39 := by kernel_rfl
  refine ⟨if 24 = n then ⟨g, 2, none⟩ else (⟨g, 2, none⟩ : Addr).add n, fun i hi => ?_, fun W => ?_⟩
  · rw [if_neg (by omega), Deep.add_add, Addr.add_mid, Nat.add_assoc]
  · have h := run_sliceAt_array_l (P := Try.prog) W 40 ⟨g, 2, none⟩ (by rw [ha, he]; exact Try.underlying40) .i64 (n : Int) (by omega) (by rw [ha]; omega)
    rw [h, ha, he, size39]
    simp [slicedAt, Result.andThen]
theorem cut_to24 (g n : Nat) (hn : n ≤ 24) : ∀ W, (Instr.sliceAt 40 (.pointer (some ⟨g, 2, none⟩)) none (some (.int .i64 (n : Int))) none).run Try.prog W = .ok (.slice (some ⟨g, 2, none⟩) n 24) W := by
  intro W
  have ha : Try.prog.arrayLen 40 = 24 := by kernel_rfl
  have he : Try.prog.elem 40 = 39 := by kernel_rfl
  have h := run_sliceAt_array_h (P := Try.prog) W 40 ⟨g, 2, none⟩ (by rw [ha, he]; exact Try.underlying40) .i64 (n : Int) (by omega) (by rw [ha]; omega)
  rw [h, ha, he, size39]
  simp [slicedAt, Result.andThen, Addr.add]

set_option maxHeartbeats 2000000 in
set_option maxRecDepth 100000 in
theorem frame_c (f : Fr) (L : Int) (hf : f.wf) (h0 : 0 ≤ L) (h1 : L ≤ 16) (w : World) : Calls Try.prog 37 #[frV f, .int .i64 L] w fun e w' => e = .returned (.int .i64 (frameS f L)) ∧ Below w.heap.size w w' := by
  have g0 := cell_l (range_new w (frC f) 42)
  have g1 := cell_h (range_new w (frC f) 42)
  unfold frV
  by_cases hbad : f.l ≠ L ∨ f.h < 0 ∨ 24 - L < f.h
  · have hv : frameS f L = 65 := by unfold frameS; rw [if_pos hbad]
    rw [hv]
    by_cases c1 : f.l = L
    · have d1 : (f.l != L) = false := by simp [c1]
      by_cases c2 : f.h < 0
      · have d2 : decide (f.h < 0) = true := by simp [c2]
        go_enter Try.func37, Try.ntmps37
        go_wp2
        go_ret
        exact ⟨rfl, below_alloc (Below.refl _ _) _⟩
      · have d2 : decide (f.h < 0) = false := by simp; omega
        have d3 : decide (24 - L < f.h) = true := by simp; omega
        go_enter Try.func37, Try.ntmps37
        go_wp2
        go_ret
        exact ⟨rfl, below_alloc (Below.refl _ _) _⟩
    · have d1 : (f.l != L) = true := by simp [c1]
      go_enter Try.func37, Try.ntmps37
      go_wp2
      go_ret
      exact ⟨rfl, below_alloc (Below.refl _ _) _⟩
  · obtain ⟨hl, hh0, hh1⟩ : f.l = L ∧ 0 ≤ f.h ∧ f.h ≤ 24 - L := by
      refine ⟨?_, by omega, by omega⟩
      by_cases c : f.l = L
      · exact c
      · exact absurd (.inl c) hbad
    obtain ⟨n, hn⟩ : ∃ n : Nat, (L + f.h) = (n : Int) := ⟨(L + f.h).toNat, by omega⟩
    have hn24 : n ≤ 24 := by omega
    have hv : frameS f L = if (f.s.drop n).all (fun t => t == 0) = true then (if (f.s.take n).all knownB = true then 0 else 62) else 65 := by
      unfold frameS
      rw [if_neg hbad, hn, Int.toNat_natCast]
    have HV := Lib.hid hv
    have hs24 : f.s.length = 24 := hf.1
    have d1 : (f.l != L) = false := by simp [hl]
    have d2 : decide (f.h < 0) = false := by simp; omega
    have d3 : decide (24 - L < f.h) = false := by simp; omega
    obtain ⟨p, hp, hc1⟩ := cut_from24 w.heap.size n hn24
    have hc2 := cut_to24 w.heap.size n hn24
    have HP := Lib.hid hp
    have HR := Lib.hid (range_new w (frC f) 42)
    have St0 : FrSt w (w.alloc (.cells (frC f).toArray 42)) f := ⟨blk_new w _, below_alloc (Below.refl _ _) _⟩
    have HS := Lib.hid St0
    clear hbad hv hp St0
    go_enter Try.func37, Try.ntmps37
    go_wp2
    go_loopg [34] (24 - n + 1) (fun k v34 W => ∃ i : Nat, v34 = .int .i64 (i : Int) ∧ i + k = 24 - n + 1 ∧ FrSt w W f ∧ Hid (∀ j, (hj : n + j < f.s.length) → j < i → f.s[n + j] = 0))
    case atStart => exact ⟨0, rfl, by omega, HS.out, Lib.hid (fun j hj h => absurd h (Nat.not_lt_zero _))⟩
    case round =>
      obtain ⟨i, rfl, hi, St, HZ⟩ := hrel
      clear HS HR
      by_cases hlt : i < 24 - n
      · have hx := range_slot (range_blk St.a) (n + i) (by omega)
        rw [show 0 + 2 + (n + i) = 2 + n + i by omega, ← HP.out i hlt] at hx
        have HSt := Lib.hid St
        obtain ⟨x, hxx⟩ : ∃ x, x = f.s[n + i] := ⟨_, rfl⟩
        rw [← hxx] at hx
        have e1 : decide ((i : Int) < ((24 - n : Nat) : Int)) = true := by simp; omega
        by_cases hz : x = 0
        · subst hz
          have HXX := Lib.hid hxx
          clear hxx St
          obtain ⟨k, rfl⟩ : ∃ k, gk = k + 1 := ⟨gk - 1, by omega⟩
          go_wp2
          go_roundg k
          case measure => omega
          case rel => exact ⟨i + 1, by simp, by omega, HSt.out, Lib.hid (fun j hj h => by
            by_cases e : j = i
            · subst e; exact HXX.out.symm
            · exact HZ.out j hj (by omega))⟩
        · have hne : (x != 0) = true := by simp [hz]
          have hv0 : frameS f L = 65 := by
            rw [HV.out, if_neg]
            intro h
            rw [List.all_eq_true] at h
            have this : (f.s[n + i] == 0) = true := h f.s[n + i] (by rw [List.mem_drop_iff_getElem]; exact ⟨i, by omega, rfl⟩)
            rw [← hxx] at this
            exact hz (by simpa using this)
          have HV0 := Lib.hid hv0
          clear hxx St hv0
          go_wp2
          go_ret
          exact ⟨by rw [HV0.out]; rfl, HSt.out.below⟩
      · have e1 : decide ((i : Int) < ((24 - n : Nat) : Int)) = false := by simp; omega
        have hall : (f.s.drop n).all (fun t => t == 0) = true := by
          rw [List.all_eq_true]
          intro t ht
          rw [List.mem_drop_iff_getElem] at ht
          obtain ⟨j, hj, rfl⟩ := ht
          simp [HZ.out j (by omega) (by omega)]
        have HV2 := Lib.hid (show frameS f L = if (f.s.take n).all knownB = true then 0 else 62 by rw [HV.out, if_pos hall])
        have HSt := Lib.hid St
        clear HZ hall St HV
        go_wp2
        go_loopg [45] (n + 1) (fun k v45 W => ∃ i : Nat, v45 = .int .i64 (i : Int) ∧ i + k = n + 1 ∧ FrSt w W f ∧ Hid (∀ j, (hj : j < f.s.length) → j < i → knownB f.s[j] = true))
        case atStart => exact ⟨0, rfl, by omega, HSt.out, Lib.hid (fun j hj h => absurd h (Nat.not_lt_zero _))⟩
        case round =>
          obtain ⟨i, rfl, hi, St, HZ⟩ := hrel
          clear HSt
          by_cases hlt : i < n
          · have hx := range_slot (range_blk St.a) i (by omega)
            rw [show 0 + 2 + i = 2 + i by omega] at hx
            have HSt := Lib.hid St
            obtain ⟨x, hxx⟩ : ∃ x, x = f.s[i] := ⟨_, rfl⟩
            rw [← hxx] at hx
            have e1 : decide ((i : Int) < (n : Int)) = true := by simp; omega
            have HK := Lib.hid (known_c x)
            by_cases hz : knownB x = true
            · rw [hz] at HK
              have HXX := Lib.hid (show knownB f.s[i] = true by rw [← hxx]; exact hz)
              clear hxx St hz
              obtain ⟨k, rfl⟩ : ∃ k, gk = k + 1 := ⟨gk - 1, by omega⟩
              go_wp2_with (go_at_call 45; refine (HK.out _).mono ?_; rintro e w1 ⟨rfl, ⟨⟨n1, rfl⟩⟩⟩)
              go_roundg k
              case measure => omega
              case rel => exact ⟨i + 1, by simp, by omega, HSt.out.drewN _, Lib.hid (fun j hj h => by
                by_cases e : j = i
                · subst e; exact HXX.out
                · exact HZ.out j hj (by omega))⟩
            · have hv0 : frameS f L = 62 := by
                rw [HV2.out, if_neg]
                intro h
                rw [List.all_eq_true] at h
                have this := h f.s[i] (by rw [List.mem_take_iff_getElem]; exact ⟨i, by omega, rfl⟩)
                rw [← hxx] at this
                exact hz this
              have HV0 := Lib.hid hv0
              replace hz := Bool.eq_false_iff.mpr hz
              rw [hz] at HK
              clear hxx St hz hv0
              go_wp2_with (go_at_call 45; refine (HK.out _).mono ?_; rintro e w1 ⟨rfl, ⟨⟨n1, rfl⟩⟩⟩)
              go_ret
              exact ⟨by rw [HV0.out]; rfl, pw_below_drewN HSt.out.below _⟩
          · have e1 : decide ((i : Int) < (n : Int)) = false := by simp; omega
            have hall : (f.s.take n).all knownB = true := by
              rw [List.all_eq_true]
              intro t ht
              rw [List.mem_take_iff_getElem] at ht
              obtain ⟨j, hj, rfl⟩ := ht
              exact HZ.out j (by omega) (by omega)
            have hv0 : frameS f L = 0 := by rw [HV2.out, if_pos hall]
            have HV0 := Lib.hid hv0
            have HSt := Lib.hid St
            clear HZ hall St HV2 hv0
            go_wp2
            go_ret
            exact ⟨by rw [HV0.out]; rfl, HSt.out.below⟩
end Go.Proofs.Ytfbdnfokoakfaaa.Ct
namespace Go.Proofs.Ytfbdnfokoakfaaa.Ct
open Go.RowKit Go.Proofs.YtfbdnfokoakfaaaW.PrintWords Go.Proofs.YtfbdnfokoakfaaaW.PrintLast Go.Proofs.YtfbdnfokoakfaaaW.PrintMore
set_option linter.unusedVariables false
set_option linter.unusedSimpArgs false

def eqF (f g : Fr) : Bool := (f.l == g.l) && ((f.h == g.h) && (f.s == g.s))
def eqE (x y : En) : Bool := (x.at_ == y.at_) && ((x.dead == y.dead) && eqF x.fr y.fr)
theorem eqF_iff (f g : Fr) : eqF f g = true ↔ f = g := by
  obtain ⟨a, b, c⟩ := f
  obtain ⟨a', b', c'⟩ := g
  simp [eqF]
theorem eqE_iff (x y : En) : eqE x y = true ↔ x = y := by
  obtain ⟨a, b, c⟩ := x
  obtain ⟨a', b', c'⟩ := y
  simp [eqE, eqF_iff]
theorem eqF_self (f : Fr) : eqF f f = true := (eqF_iff f f).2 rfl
theorem eqE_self (x : En) : eqE x x = true := (eqE_iff x x).2 rfl

theorem all_range_eq : ∀ (xs ys : List Int), xs.length = ys.length → ((List.range xs.length).all fun i => xs.getD i 0 == ys.getD i 0) = (xs == ys)
  | [], [], _ => rfl
  | x :: xs, y :: ys, h => by
    have ih := all_range_eq xs ys (by simpa using h)
    rw [List.length_cons, List.range_succ_eq_map, List.all_cons, List.all_map]
    simp only [List.getD_cons_zero, Function.comp_def, List.getD_cons_succ, ih]
    simp [List.cons_beq_cons]
  | [], _ :: _, h => by simp at h
  | _ :: _, [], h => by simp at h

theorem eq_slots (d : Nat) (xs ys : List Int) (hx : xs.length = 24) (hy : ys.length = 24) (w : World) :
    (Op.equalIn (d + 2) 40 (.agg (nums .u8 xs).toArray) (.agg (nums .u8 ys).toArray)).run Try.prog w = .ok (xs == ys) w := by
  rw [← all_range_eq xs ys (hx.trans hy.symm), hx, List.range_eq_range', Op.equalIn]
  simp only [Sem.run_bind, run_underlying Try.underlying40, Result.andThen_ok, size39, Std.Legacy.Range.forIn_eq_forIn_range', Std.Legacy.Range.size, Nat.sub_zero, Nat.add_sub_cancel, Nat.div_one]
  have hl : ∀ i ∈ List.range' 0 24 1, i < 24 := fun i hi => by simpa using (List.mem_range'_1.1 hi).2
  generalize List.range' 0 24 1 = l at hl ⊢
  induction l with
  | nil => simp
  | cons i l ih =>
    have hi : i < 24 := hl i (by simp)
    have px : (part 39 (nums .u8 xs).toArray (i * 1)).run Try.prog w = .ok (.int .u8 (xs.getD i 0)) w := by
      simp [part, isAgg, run_underlying Try.underlying39, List.getD, nums, List.getElem?_eq_getElem (show i < xs.length by omega)]
    have py : (part 39 (nums .u8 ys).toArray (i * 1)).run Try.prog w = .ok (.int .u8 (ys.getD i 0)) w := by
      simp [part, isAgg, run_underlying Try.underlying39, List.getD, nums, List.getElem?_eq_getElem (show i < ys.length by omega)]
    have pe : (Op.equalIn (d + 1) 39 (.int .u8 (xs.getD i 0)) (.int .u8 (ys.getD i 0))).run Try.prog w = .ok (xs.getD i 0 == ys.getD i 0) w :=
      run_equalIn_int w d 39 .u8 .u8 _ _ Try.underlying39
    simp only [List.forIn_cons, Sem.run_bind, px, py, pe, Result.andThen_ok, List.all_cons]
    cases hb : (xs.getD i 0 == ys.getD i 0)
    · simp
    · simp only [Bool.not_true, Bool.false_eq_true, if_false, Sem.run_pure, Result.andThen_ok, Bool.true_and]
      exact ih fun j hj => hl j (by simp [hj])

theorem part_of {t : TypeId} {d : TypeDesc} (hu : Try.prog.underlying t = some d) (hd : d.isRow = true) {n : Nat} (hi : (Try.prog.info? t).map (·.size) = some n) (xs : Array Value) (off : Nat) (w : World) :
    (part t xs off).run Try.prog w = .ok (.agg (xs.extract off (off + n))) w := by
  have hagg : (isAgg t).run Try.prog w = .ok true w := by
    unfold isAgg
    rw [Sem.run_bind, run_underlying hu w]
    cases d <;> simp_all
  simp [part, Sem.run_bind, hagg, sizeOf_of hi]
theorem part_one {t : TypeId} {d : TypeDesc} (hu : Try.prog.underlying t = some d) (hd : d.isRow = false) (xs : Array Value) (off : Nat) (v : Value) (hv : xs[off]? = some v) (w : World) :
    (part t xs off).run Try.prog w = .ok v w := by
  have hagg : (isAgg t).run Try.prog w = .ok false w := by
    unfold isAgg
    rw [Sem.run_bind, run_underlying hu w]
    cases d <;> simp_all
  simp [part, Sem.run_bind, hagg, hv]

theorem eq_fr (d : Nat) (f g : Fr) (hf : f.wf) (hg : g.wf) (w : World) : (Op.equalIn (d + 3) 42 (frV f) (frV g)).run Try.prog w = .ok (eqF f g) w := by
  unfold frV eqF
  refine eqA_of Try.underlying42 (by kernel_rfl) ?_
  have ex : ∀ f : Fr, f.wf → (frC f).toArray.extract 2 (2 + 24) = (nums .u8 f.s).toArray := fun f hf => by
    have hl : (nums .u8 f.s).length = 24 := by simp [nums, hf.1]
    simp only [frC, List.extract_toArray]
    simp [List.extract_eq_take_drop, List.take_of_length_le (Nat.le_of_eq hl)]
  refine eqf_cons rfl (part_one Try.underlying3 rfl _ 0 (.int .i64 f.l) rfl w) (part_one Try.underlying3 rfl _ 0 (.int .i64 g.l) rfl w) (run_equalIn_int w _ 3 .i64 .i64 _ _ Try.underlying3) ?_
  refine eqf_cons rfl (part_one Try.underlying3 rfl _ 1 (.int .i64 f.h) rfl w) (part_one Try.underlying3 rfl _ 1 (.int .i64 g.h) rfl w) (run_equalIn_int w _ 3 .i64 .i64 _ _ Try.underlying3) ?_
  refine eqf_last rfl (part_of (n := 24) Try.underlying40 rfl (by kernel_rfl) _ 2 w) (part_of (n := 24) Try.underlying40 rfl (by kernel_rfl) _ 2 w) ?_
  rw [ex f hf, ex g hg]
  exact eq_slots d f.s g.s hf.1 hg.1 w

theorem eq_en (d : Nat) (x y : En) (hx : x.fr.wf) (hy : y.fr.wf) (w : World) : (Op.equalIn (d + 4) 44 (enV x) (enV y)).run Try.prog w = .ok (eqE x y) w := by
  unfold enV eqE
  refine eqA_of Try.underlying44 (by kernel_rfl) ?_
  have ex : ∀ x : En, x.fr.wf → (enC x).toArray.extract 2 (2 + 26) = (frC x.fr).toArray := fun x hx => by
    have hl : (frC x.fr).length = 26 := frC_len hx
    simp only [enC, List.extract_toArray]
    simp [List.extract_eq_take_drop, List.take_of_length_le (Nat.le_of_eq hl)]
  refine eqf_cons rfl (part_one Try.underlying3 rfl _ 0 (.int .i64 x.at_) rfl w) (part_one Try.underlying3 rfl _ 0 (.int .i64 y.at_) rfl w) (run_equalIn_int w _ 3 .i64 .i64 _ _ Try.underlying3) ?_
  refine eqf_cons rfl (part_one Try.underlying4 rfl _ 1 (.bool x.dead) rfl w) (part_one Try.underlying4 rfl _ 1 (.bool y.dead) rfl w) (run_equalIn_bool w _ 4 _ _ Try.underlying4) ?_
  refine eqf_last rfl (part_of (n := 26) Try.underlying42 rfl (by kernel_rfl) _ 2 w) (part_of (n := 26) Try.underlying42 rfl (by kernel_rfl) _ 2 w) ?_
  rw [ex x hx, ex y hy]
  exact eq_fr d x.fr y.fr hx hy w
end Go.Proofs.Ytfbdnfokoakfaaa.Ct
namespace Go.Proofs.Ytfbdnfokoakfaaa.Ct
open Go.RowKit Go.Proofs.YtfbdnfokoakfaaaW.PrintWords Go.Proofs.YtfbdnfokoakfaaaW.PrintLast Go.Proofs.YtfbdnfokoakfaaaW.PrintMore
set_option linter.unusedVariables false
set_option linter.unusedSimpArgs false

def bodyS (L : Int) (x : En) : Int := if x.dead = true then (if eqF x.fr fr0 = true then 0 else 65) else frameS x.fr L

structure BdSt (w W : World) (f : Fr) : Prop where
  a : W.heap[w.heap.size + 1]? = some (.cells (frC f).toArray 42 (0, 0))
  below : Below w.heap.size w W
theorem BdSt.drewN {w W : World} {f : Fr} (h : BdSt w W f) (n : Nat) : BdSt w (W.drewN n) f := ⟨h.a, pw_below_drewN h.below n⟩

theorem gen_world {P : Program} {c : Code} {Q : Exit → Act → World → Prop} {a : Act} {W : World} (Pr : World → Prop) (h : Pr W) (k : ∀ W', Pr W' → Code.wp P c Q a W') : Code.wp P c Q a W := k W h
/-- A whole value into the variable that was made last. -/
theorem wpList_store_new {P : Program} {ops : Array Oper} {rest : List Oper} {op : Oper} {a : Act} {Q : Exit → Act → World → Prop} (hgd : op.guard = none) (ty : TypeId) (x y : Operand) (ho : op.op = .store ty x y)
    (W : World) (c c' : Array Value) (n : Nat) (hn : W.heap.size = n) (hx : a.eval x = .pointer (some ⟨n, 0, none⟩)) (hy : a.eval y = .agg c') (hi : (P.info? ty).map (·.size) = some c'.size) (hc : c.size = c'.size) (h1 : c'.all (·.oneCell') = true)
    (h : wpList P ops Q rest (a.put op.dst undef) (W.alloc (.cells c' ty))) : wpList P ops Q (op :: rest) a (W.alloc (.cells c ty)) := by
  subst hn
  refine wpList_plain hgd fun _ hK => ?_
  unfold Oper.wp execOp
  simp only [ho, hx, hy, Sem.run_bind, run_storeAt_new W ty c c' hi hc h1, Sem.run_pure, Result.andThen_ok]
  exact hK _ _ h

theorem ix24 (g i : Nat) (hi : i < 24) (W : World) : (Instr.indexAt 40 (.pointer (some ⟨g, 2, none⟩)) (.int .i64 (i : Int))).run Try.prog W = .ok (.pointer (some ⟨g, 2 + i, none⟩)) W := by
  simp only [Instr.indexAt, asIntOf, Sem.run_bind, Sem.run_pure, Result.andThen_ok, run_underlying Try.underlying40, Instr.sureAddr]
  rw [if_pos (by omega)]
  simp only [size39, Sem.run_bind, Sem.run_pure, Result.andThen_ok, Int.toNat_natCast, Nat.mul_one, Addr.add_mid]
theorem guard42 (op : BinOp) (x y : Operand) (xs ys : Array Value) (w : World) : (eqGuard op 42 x y (.agg xs) (.agg ys)).run Try.prog w = .ok () w := run_eqGuard_agg w op 42 x y xs ys (by kernel_rfl)
theorem guard44 (op : BinOp) (x y : Operand) (xs ys : Array Value) (w : World) : (eqGuard op 44 x y (.agg xs) (.agg ys)).run Try.prog w = .ok () w := run_eqGuard_agg w op 44 x y xs ys (by kernel_rfl)
theorem run_neq42 {o : Oper} {a : Act} {x y : Operand} {f g : Fr} (ho : o.op = .binOp .neq 42 x y 42) (hx : a.eval x = .agg (frC f).toArray) (hy : a.eval y = .agg (frC g).toArray) (hf : f.wf) (hg : g.wf) (W : World) :
    (execOp a.eval o).run Try.prog W = .ok (.value (.bool (!eqF f g))) W := by
  have he : (Op.equalIn 10000 42 (.agg (frC f).toArray) (.agg (frC g).toArray)).run Try.prog W = .ok (eqF f g) W := eq_fr 9997 f g hf hg W
  unfold execOp
  simp only [ho, hx, hy, Sem.run_bind, guard42, run_neq_struct, he, Result.andThen_ok, Sem.run_pure]
theorem run_neq44 {o : Oper} {a : Act} {x y : Operand} {f g : En} (ho : o.op = .binOp .neq 44 x y 44) (hx : a.eval x = .agg (enC f).toArray) (hy : a.eval y = .agg (enC g).toArray) (hf : f.fr.wf) (hg : g.fr.wf) (W : World) :
    (execOp a.eval o).run Try.prog W = .ok (.value (.bool (!eqE f g))) W := by
  have he : (Op.equalIn 10000 44 (.agg (enC f).toArray) (.agg (enC g).toArray)).run Try.prog W = .ok (eqE f g) W := eq_en 9996 f g hf hg W
  unfold execOp
  simp only [ho, hx, hy, Sem.run_bind, guard44, run_neq_struct, run_eql_struct, he, Result.andThen_ok, Sem.run_pure]
theorem run_eql44 {o : Oper} {a : Act} {x y : Operand} {f g : En} (ho : o.op = .binOp .eql 44 x y 44) (hx : a.eval x = .agg (enC f).toArray) (hy : a.eval y = .agg (enC g).toArray) (hf : f.fr.wf) (hg : g.fr.wf) (W : World) :
    (execOp a.eval o).run Try.prog W = .ok (.value (.bool (eqE f g))) W := by
  have he : (Op.equalIn 10000 44 (.agg (enC f).toArray) (.agg (enC g).toArray)).run Try.prog W = .ok (eqE f g) W := eq_en 9996 f g hf hg W
  unfold execOp
  simp only [ho, hx, hy, Sem.run_bind, guard44, run_neq_struct, run_eql_struct, he, Result.andThen_ok, Sem.run_pure]

set_option maxHeartbeats 2000000 in
set_option maxRecDepth 100000 in
theorem body_c (x : En) (L : Int) (hf : x.fr.wf) (h0 : 0 ≤ L) (h1 : L ≤ 16) (w : World) : Calls Try.prog 39 #[.int .i64 L, enV x] w fun e w' => e = .returned (.int .i64 (bodyS L x)) ∧ Below w.heap.size w w' := by
  have HRg := Lib.hid (range_fr (range_new w (enC x) 44))
  have HF := Lib.hid hf
  unfold enV
  go_enter Try.func39, Try.ntmps39
  go_upto_region 2 with (first | ((with_reducible refine gate_dst (N := 9) rfl ?_); refine wpList_load_mid rfl 42 (.tmp 8) rfl w.heap.size 2 rfl (frC x.fr) _ HRg.out Try.underlying42 rfl (by rw [frC_len HF.out]; kernel_rfl) ?_) | ((with_reducible refine gate_store (t := 42) (p := 5) rfl ?_); refine wpList_store_new rfl 42 (.tmp 5) (.tmp 9) rfl (w.alloc (.cells (enC x).toArray 44)) _ (frC x.fr).toArray (w.heap.size + 1) (by rw [World.size_alloc]) rfl rfl (by simp only [List.size_toArray, frC_len HF.out]; kernel_rfl) (by simp [frC_len HF.out]) (all_oneCell_toArray (frC_one x.fr)) ?_))
  refine gen_world (fun W => W.heap[w.heap.size]? = some (.cells (enC x).toArray 44 (0, 0)) ∧ BdSt w W x.fr) ⟨blk_alloc (blk_new w _) _, by rw [← World.size_alloc w (.cells (enC x).toArray 44)]; exact blk_new _ _, below_alloc (below_alloc (Below.refl _ _) _) _⟩ ?_
  rintro W2 ⟨k1, St⟩
  have g1 := cell_dead (range_blk k1)
  have HSt := Lib.hid St
  have q0 := cell_l (range_blk St.a)
  have q1 := cell_h (range_blk St.a)
  have HRF := Lib.hid (range_blk St.a)
  clear k1 St HRg
  cases hdead : x.dead with
  | true =>
    rw [hdead] at g1
    have hv : bodyS L x = if eqF x.fr fr0 = true then 0 else 65 := by unfold bodyS; rw [if_pos hdead]
    cases hz : eqF x.fr fr0 with
    | true =>
      have HV := Lib.hid (show bodyS L x = 0 by rw [hv, hz]; rfl)
      clear hv
      go_wp2_with (first | ((with_reducible refine gate_dst (N := 12) rfl ?_); refine wpList_load_mid rfl 42 (.tmp 5) rfl (w.heap.size + 1) 0 rfl (frC x.fr) _ HRF.out Try.underlying42 rfl (by rw [frC_len HF.out]; kernel_rfl) ?_) | ((with_reducible refine gate_dst (N := 14) rfl ?_); refine Kd.event_run rfl (run_neq42 (f := x.fr) (g := fr0) rfl rfl rfl HF.out fr0_wf W2) ?_; rw [hz]))
      go_ret
      exact ⟨by rw [HV.out]; rfl, HSt.out.below⟩
    | false =>
      have HV := Lib.hid (show bodyS L x = 65 by rw [hv, hz]; rfl)
      clear hv
      go_wp2_with (first | ((with_reducible refine gate_dst (N := 12) rfl ?_); refine wpList_load_mid rfl 42 (.tmp 5) rfl (w.heap.size + 1) 0 rfl (frC x.fr) _ HRF.out Try.underlying42 rfl (by rw [frC_len HF.out]; kernel_rfl) ?_) | ((with_reducible refine gate_dst (N := 14) rfl ?_); refine Kd.event_run rfl (run_neq42 (f := x.fr) (g := fr0) rfl rfl rfl HF.out fr0_wf W2) ?_; rw [hz]))
      go_ret
      exact ⟨by rw [HV.out]; rfl, HSt.out.below⟩
  | false =>
    rw [hdead] at g1
    have hv : bodyS L x = frameS x.fr L := by unfold bodyS; rw [if_neg (by rw [hdead]; decide)]
    obtain ⟨f, hfe⟩ : ∃ f, f = x.fr := ⟨_, rfl⟩
    rw [← hfe] at q0 q1 HSt HF HRF hv ⊢
    clear hfe
    by_cases hbad : f.l ≠ L ∨ f.h < 0 ∨ 24 - L < f.h
    · have hv2 : bodyS L x = 65 := by rw [hv]; unfold frameS; rw [if_pos hbad]
      have HV := Lib.hid hv2
      clear hv hv2
      by_cases c1 : f.l = L
      · have d1 : (f.l != L) = false := by simp [c1]
        by_cases c2 : f.h < 0
        · have d2 : decide (f.h < 0) = true := by simp [c2]
          go_wp2
          go_ret
          exact ⟨by rw [HV.out]; rfl, HSt.out.below⟩
        · have d2 : decide (f.h < 0) = false := by simp; omega
          have d3 : decide (24 - L < f.h) = true := by simp; omega
          go_wp2
          go_ret
          exact ⟨by rw [HV.out]; rfl, HSt.out.below⟩
      · have d1 : (f.l != L) = true := by simp [c1]
        go_wp2
        go_ret
        exact ⟨by rw [HV.out]; rfl, HSt.out.below⟩
    · obtain ⟨hl, hh0, hh1⟩ : f.l = L ∧ 0 ≤ f.h ∧ f.h ≤ 24 - L := by
        refine ⟨?_, by omega, by omega⟩
        by_cases c : f.l = L
        · exact c
        · exact absurd (.inl c) hbad
      obtain ⟨n, hn⟩ : ∃ n : Nat, (L + f.h) = (n : Int) := ⟨(L + f.h).toNat, by omega⟩
      have hn24 : n ≤ 24 := by omega
      have hv2 : bodyS L x = if (f.s.drop n).all (fun t => t == 0) = true then (if (f.s.take n).all knownB = true then 0 else 62) else 65 := by
        rw [hv]
        unfold frameS
        rw [if_neg hbad, hn, Int.toNat_natCast]
      have HV := Lib.hid hv2
      have hs24 : f.s.length = 24 := HF.out.1
      have d1 : (f.l != L) = false := by simp [hl]
      have d2 : decide (f.h < 0) = false := by simp; omega
      have d3 : decide (24 - L < f.h) = false := by simp; omega
      clear hbad hv hv2
      go_wp2
      go_loopg [6] (25) (fun k v6 W => ∃ i : Nat, v6 = .int .i64 (i : Int) ∧ n ≤ i ∧ i + k = n + 25 ∧ i ≤ 24 ∧ BdSt w W f ∧ Hid (∀ j, (hj : j < f.s.length) → n ≤ j → j < i → f.s[j] = 0))
      case atStart => exact ⟨n, rfl, Nat.le_refl _, by omega, by omega, HSt.out, Lib.hid (fun j hj h1 h => absurd h (by omega))⟩
      case round =>
        obtain ⟨i, rfl, hni, hi, hi24, St, HZ⟩ := hrel
        clear HSt HRF q0 q1 g1
        by_cases hlt : i < 24
        · have hx := range_slot (range_blk St.a) i (by omega)
          rw [show 0 + 2 + i = 2 + i by omega] at hx
          have hix := ix24 (w.heap.size + 1) i hlt
          have HSt := Lib.hid St
          obtain ⟨y, hxx⟩ : ∃ y, y = f.s[i] := ⟨_, rfl⟩
          rw [← hxx] at hx
          have e1 : decide ((i : Int) < 24) = true := by simp; omega
          by_cases hz : y = 0
          · subst hz
            have HXX := Lib.hid hxx
            clear hxx St
            obtain ⟨k, rfl⟩ : ∃ k, gk = k + 1 := ⟨gk - 1, by omega⟩
            go_wp2
            go_roundg k
            case measure => omega
            case rel => exact ⟨i + 1, by simp, by omega, by omega, by omega, HSt.out, Lib.hid (fun j hj h1 h => by
              by_cases e : j = i
              · subst e; exact HXX.out.symm
              · exact HZ.out j hj h1 (by omega))⟩
          · have hne : (y != 0) = true := by simp [hz]
            have hv0 : bodyS L x = 65 := by
              rw [HV.out, if_neg]
              intro h
              rw [List.all_eq_true] at h
              have this : (f.s[i] == 0) = true := h f.s[i] (by rw [List.mem_drop_iff_getElem]; exact ⟨i - n, by omega, by congr 1; omega⟩)
              rw [← hxx] at this
              exact hz (by simpa using this)
            have HV0 := Lib.hid hv0
            clear hxx St hv0
            go_wp2
            go_ret
            exact ⟨by rw [HV0.out]; rfl, HSt.out.below⟩
        · have e1 : decide ((i : Int) < 24) = false := by simp; omega
          have hzero : ∀ j, (hj : j < f.s.length) → n ≤ j → f.s[j] = 0 := fun j hj h => HZ.out j hj h (by omega)
          have hall : (f.s.drop n).all (fun t => t == 0) = true := by
            rw [List.all_eq_true]
            intro t ht
            rw [List.mem_drop_iff_getElem] at ht
            obtain ⟨j, hj, rfl⟩ := ht
            simp [hzero (n + j) (by omega) (by omega)]
          have HV2 := Lib.hid (show bodyS L x = if (f.s.take n).all knownB = true then 0 else 62 by rw [HV.out, if_pos hall])
          have HZ2 := Lib.hid hzero
          have HSt := Lib.hid St
          clear HZ hall St HV hzero
          go_wp2
          go_loopg [7] 25 (fun k v7 W => ∃ i : Nat, v7 = .int .i64 (i : Int) ∧ i + k = 25 ∧ BdSt w W f ∧ Hid (∀ j, (hj : j < f.s.length) → j < i → knownB f.s[j] = true))
          case atStart => exact ⟨0, rfl, by omega, HSt.out, Lib.hid (fun j hj h => absurd h (Nat.not_lt_zero _))⟩
          case round =>
            obtain ⟨i, rfl, hi, St, HZ⟩ := hrel
            clear HSt
            by_cases hlt : i < 24
            · have hx := range_slot (range_blk St.a) i (by omega)
              rw [show 0 + 2 + i = 2 + i by omega] at hx
              have hix := ix24 (w.heap.size + 1) i hlt
              have HSt := Lib.hid St
              obtain ⟨y, hxx⟩ : ∃ y, y = f.s[i] := ⟨_, rfl⟩
              rw [← hxx] at hx
              have e1 : decide ((i : Int) < 24) = true := by simp; omega
              have HK := Lib.hid (isCode_c y)
              by_cases hz : knownB y = true
              · rw [hz] at HK
                have HXX := Lib.hid (show knownB f.s[i] = true by rw [← hxx]; exact hz)
                clear hxx St hz
                obtain ⟨k, rfl⟩ : ∃ k, gk = k + 1 := ⟨gk - 1, by omega⟩
                go_wp2_with (go_at_call 46; refine (HK.out _).mono ?_; rintro e w1 ⟨rfl, ⟨⟨n1, rfl⟩⟩⟩)
                go_roundg k
                case measure => omega
                case rel => exact ⟨i + 1, by simp, by omega, HSt.out.drewN _, Lib.hid (fun j hj h => by
                  by_cases e : j = i
                  · subst e; exact HXX.out
                  · exact HZ.out j hj (by omega))⟩
              · have hv0 : bodyS L x = 62 := by
                  rw [HV2.out, if_neg]
                  intro h
                  rw [List.all_eq_true] at h
                  have hin : i < n := by
                    by_cases c : i < n
                    · exact c
                    · exfalso
                      have := HZ2.out i (by omega) (by omega)
                      rw [← hxx] at this
                      rw [this] at hz
                      exact hz (by decide)
                  have this := h f.s[i] (by rw [List.mem_take_iff_getElem]; exact ⟨i, by omega, rfl⟩)
                  rw [← hxx] at this
                  exact hz this
                have HV0 := Lib.hid hv0
                replace hz := Bool.eq_false_iff.mpr hz
                rw [hz] at HK
                clear hxx St hz hv0
                go_wp2_with (go_at_call 46; refine (HK.out _).mono ?_; rintro e w1 ⟨rfl, ⟨⟨n1, rfl⟩⟩⟩)
                go_ret
                exact ⟨by rw [HV0.out]; rfl, pw_below_drewN HSt.out.below _⟩
            · have e1 : decide ((i : Int) < 24) = false := by simp; omega
              have hall : (f.s.take n).all knownB = true := by
                rw [List.all_eq_true]
                intro t ht
                rw [List.mem_take_iff_getElem] at ht
                obtain ⟨j, hj, rfl⟩ := ht
                exact HZ.out j (by omega) (by omega)
              have hv0 : bodyS L x = 0 := by rw [HV2.out, if_pos hall]
              have HV0 := Lib.hid hv0
              have HSt := Lib.hid St
              clear HZ hall St HV2 hv0
              go_wp2
              go_ret
              exact ⟨by rw [HV0.out]; rfl, HSt.out.below⟩
end Go.Proofs.Ytfbdnfokoakfaaa.Ct
namespace Go.Proofs.Ytfbdnfokoakfaaa.Ct
open Go.RowKit Go.Proofs.YtfbdnfokoakfaaaW.PrintWords Go.Proofs.YtfbdnfokoakfaaaW.PrintLast Go.Proofs.YtfbdnfokoakfaaaW.PrintMore
set_option linter.unusedVariables false
set_option linter.unusedSimpArgs false

def stepS (L last : Int) (x : En) : Int := if risesS last x.at_ ≠ 0 then risesS last x.at_ else bodyS L x
def checkF (L : Int) (l : List En) : Nat → Nat → Int → Int × Int
  | 0, _, _ => (0, 0)
  | f + 1, i, last => if i < l.length then (if stepS L last (l.getD i en0) ≠ 0 then ((i : Int), stepS L last (l.getD i en0)) else checkF L l f (i + 1) (l.getD i en0).at_) else (0, 0)
def checkS (L : Int) (l : List En) : Int × Int := if L < 0 ∨ 16 < L then (0, 5) else if 4096 < l.length then (4096, 4) else checkF L l (l.length + 1) 0 (-1)

/-! ### Loads at whatever address -/
def Rng (w : World) (a : Addr) (cs : List Value) : Prop := ∀ j v, cs[j]? = some v → w.cell? (a.add j) = some v
theorem wpList_load_any {P : Program} {ops : Array Oper} {rest : List Oper} {op : Oper} {a : Act} {w : World} {Q : Exit → Act → World → Prop} (hgd : op.guard = none) (ty : TypeId) (x : Operand) (ho : op.op = .load ty x)
    (p : Addr) (hx : a.eval x = .pointer (some p)) (cs : List Value) (d : TypeDesc) (hc : Rng w p cs) (hu : P.underlying ty = some d) (hd : d.isRow = true) (hi : (P.info? ty).map (·.size) = some cs.length)
    (h : wpList P ops Q rest (a.put op.dst (.agg cs.toArray)) w) : wpList P ops Q (op :: rest) a w := by
  refine wpList_plain hgd fun _ hK => ?_
  have hl : (loadCells p cs.length).run P w = .ok cs.toArray w := run_loadCells_list (P := P) w p cs hc
  have hv : (loadVar ty p).run P w = .ok (.agg cs.toArray) w := by
    cases hq : P.info? ty with
    | none => simp [hq] at hi
    | some i =>
      have hs : i.size = cs.length := by simpa [hq] using hi
      have hagg : (isAgg ty).run P w = .ok true w := by
        unfold isAgg
        rw [Sem.run_bind, run_underlying hu w]
        cases d <;> simp_all
      simp [loadVar, Sem.run_bind, hagg, sizeOf, typeInfo, hq, hs, hl]
  unfold Oper.wp execOp
  simp only [ho, hx, Instr.loadAt, Instr.sureAddr, Sem.run_bind, Sem.run_pure, Result.andThen_ok, hv]
  exact hK _ _ h

theorem rng_of {w : World} {b o : Nat} {cs : List Value} (h : w.rangeAt b o cs) : Rng w ⟨b, o, none⟩ cs := fun j v hj => by rw [Addr.add_mid]; exact h j v hj
/-- An element of a row of entries. -/
theorem at_en {w : World} {A : Option Addr} {n : Nat} {l : List En} (h : Kd.C kEn w A n l) (i : Nat) (hi : i < n) : ∃ ad, A = some ad ∧ (l.getD i en0).fr.wf ∧ Rng w (ad.add (i * 28)) (enC (l.getD i en0)) := by
  obtain ⟨ad, c, e, _, hK, hc0⟩ := Kd.C_get h en0 (i : Int) (by omega) (by omega)
  obtain ⟨rfl, hwf⟩ := hK
  simp only [Int.toNat_natCast] at hc0 hwf
  refine ⟨ad, e, hwf, fun j v hj => ?_⟩
  rw [Deep.add_add]
  exact hc0 j v hj
theorem Rng.at_ {w : World} {a : Addr} {x : En} (h : Rng w a (enC x)) : w.cell? a = some (.int .i64 x.at_) := by have := h 0 _ rfl; rwa [show a.add 0 = a by simp [Addr.add]] at this

structure CkSt (w W : World) (L : Int) (A : Option Addr) (c : Nat) (l : List En) : Prop where
  a : W.heap[w.heap.size]? = some (.cells #[.int .i64 L, .slice A l.length c] 24 (0, 0))
  below : Below w.heap.size w W
theorem CkSt.drewN {w W : World} {L : Int} {A : Option Addr} {c : Nat} {l : List En} (h : CkSt w W L A c l) (n : Nat) : CkSt w (W.drewN n) L A c l := ⟨h.a, pw_below_drewN h.below n⟩
theorem CkSt.next {w W W2 : World} {L : Int} {A : Option Addr} {c : Nat} {l : List En} (h : CkSt w W L A c l) (b : Below W.heap.size W W2) : CkSt w W2 L A c l :=
  ⟨blk_below h.a b, h.below.trans (b.mono h.below.size)⟩

set_option maxHeartbeats 2000000 in
set_option maxRecDepth 100000 in
theorem check_c (L : Int) (A : Option Addr) (c : Nat) (l : List En) (w : World) (hr : Kd.C kEn w A l.length l) : Calls Try.prog 14 #[.agg #[.int .i64 L, .slice A l.length c]] w fun e w' => e = .returned (.tuple #[.int .i64 (checkS L l).1, .int .i64 (checkS L l).2]) ∧ Below w.heap.size w w' := by
  have HR := Lib.hid hr
  clear hr
  obtain ⟨r, hr⟩ : ∃ r, r = checkS L l := ⟨_, rfl⟩
  rw [← hr]
  have HRR := Lib.hid hr
  clear hr
  by_cases c1 : L < 0 ∨ 16 < L
  · have hv : r = (0, 5) := by rw [HRR.out]; unfold checkS; rw [if_pos c1]
    subst hv
    by_cases c2 : L < 0
    · have d1 : decide (L < 0) = true := by simp [c2]
      go_enter Try.func14, Try.ntmps14
      go_wp2
      go_ret2
      exact ⟨rfl, below_alloc (Below.refl _ _) _⟩
    · have d1 : decide (L < 0) = false := by simp; omega
      have d2 : decide (16 < L) = true := by simp; omega
      go_enter Try.func14, Try.ntmps14
      go_wp2
      go_ret2
      exact ⟨rfl, below_alloc (Below.refl _ _) _⟩
  · have d1 : decide (L < 0) = false := by simp; omega
    have d2 : decide (16 < L) = false := by simp; omega
    by_cases c2 : 4096 < l.length
    · have hv : r = (4096, 4) := by rw [HRR.out]; unfold checkS; rw [if_neg c1, if_pos c2]
      subst hv
      have d3 : decide (4096 < (l.length : Int)) = true := by simp; omega
      go_enter Try.func14, Try.ntmps14
      go_wp2
      go_ret2
      exact ⟨rfl, below_alloc (Below.refl _ _) _⟩
    · have HRK := Lib.hid (show checkF L l (l.length + 1) 0 (-1) = r by rw [HRR.out]; unfold checkS; rw [if_neg c1, if_neg c2])
      have d3 : decide (4096 < (l.length : Int)) = false := by simp; omega
      clear HRR
      go_enter Try.func14, Try.ntmps14
      go_wp2
      go_loopg [4, 23] (l.length + 1) (fun k v4 v23 W => ∃ (i : Nat) (last : Int), v4 = .int .i64 last ∧ v23 = .int .i64 (i : Int) ∧ i + k = l.length + 1 ∧ i ≤ l.length ∧ CkSt w W L A c l ∧ Hid (checkF L l k i last = r))
      case atStart => exact ⟨0, -1, rfl, rfl, by omega, Nat.zero_le _, ⟨blk_new w _, below_alloc (Below.refl _ _) _⟩, HRK⟩
      case round =>
        obtain ⟨i, last, rfl, rfl, hi, hil, St, HF⟩ := hrel
        clear HRK
        obtain ⟨k, rfl⟩ : ∃ k, gk = k + 1 := ⟨gk - 1, by omega⟩
        by_cases hlt : i < l.length
        · have e1 : decide ((i : Int) < (l.length : Int)) = true := decide_eq_true (by exact_mod_cast hlt)
          obtain ⟨ad, rfl, hwf, hrg⟩ := at_en (Kd.C_below HR.out St.below) i hlt
          have hF := HF.out
          rw [checkF, if_pos hlt] at hF
          obtain ⟨x, hx⟩ : ∃ x, x = l.getD i en0 := ⟨_, rfl⟩
          rw [← hx] at hwf hrg hF
          clear hx HF
          have HRg := Lib.hid hrg
          have HW := Lib.hid hwf
          have HFF := Lib.hid hF
          have HSt := Lib.hid St
          have HRs := Lib.hid (rises_c last x.at_)
          have k0 : wr.cell? ⟨w.heap.size, 0, none⟩ = some (.int .i64 L) := blk_cell St.a 0
          have k1 : wr.cell? ⟨w.heap.size, 1, none⟩ = some (.slice (some ad) l.length c) := blk_cell St.a 1
          clear hwf hrg hF St
          go_upto_region 9 with (first | ((with_reducible refine gate_dst (N := 27) rfl ?_); refine wpList_load_any rfl 44 (.tmp 26) rfl (ad.add (i * 28)) rfl (enC x) _ HRg.out Try.underlying44 rfl (by rw [enC_len HW.out]; kernel_rfl) ?_) | ((with_reducible refine gate_store (t := 44) (p := 6) rfl ?_); refine wpList_store_new rfl 44 (.tmp 6) (.tmp 27) rfl wr _ (enC x).toArray wr.heap.size rfl rfl rfl (by simp only [List.size_toArray, enC_len HW.out]; kernel_rfl) (by simp [enC_len HW.out]) (all_oneCell_toArray (enC_one x)) ?_))
          refine gen_world (fun W => W.heap[wr.heap.size]? = some (.cells (enC x).toArray 44 (0, 0)) ∧ CkSt w W L (some ad) c l) ⟨blk_new wr _, HSt.out.next (below_alloc (Below.refl _ _) _)⟩ ?_
          rintro W2 ⟨kx, St2⟩
          have HX := Lib.hid (range_blk kx)
          have HKX := Lib.hid kx
          have HSt2 := Lib.hid St2
          have m0 := cell_at (range_blk kx)
          have m1 := cell_dead (range_blk kx)
          have n0 : W2.cell? ⟨w.heap.size, 0, none⟩ = some (.int .i64 L) := blk_cell St2.a 0
          have n1 : W2.cell? ⟨w.heap.size, 1, none⟩ = some (.slice (some ad) l.length c) := blk_cell St2.a 1
          clear k0 k1 kx St2 HSt HRg
          obtain ⟨e, he⟩ : ∃ e, e = risesS last x.at_ := ⟨_, rfl⟩
          rw [← he] at HRs
          by_cases hz : e = 0
          · subst hz
            cases hd : x.dead with
            | true =>
              rw [hd] at m1
              cases hq : eqF x.fr fr0 with
              | true =>
                have HN := Lib.hid (show checkF L l k (i + 1) x.at_ = r by
                  have h := HFF.out
                  rw [if_neg] at h
                  · exact h
                  · unfold stepS bodyS; rw [← he, hd, hq]; simp)
                clear he HFF
                go_wp2_with (first | (go_at_call 36; refine (HRs.out _).mono ?_; rintro e w1 ⟨rfl, ⟨⟨n1, rfl⟩⟩⟩) | ((with_reducible refine gate_dst (N := 40) rfl ?_); refine gate_guard (by rfl) ?_; refine wpList_load_any rfl 42 (.tmp 39) rfl ⟨wr.heap.size, 2, none⟩ rfl (frC x.fr) _ (rng_of (range_fr HX.out)) Try.underlying42 rfl (by rw [frC_len HW.out]; kernel_rfl) ?_) | ((with_reducible refine gate_dst (N := 42) rfl ?_); refine gate_guard (by rfl) ?_; refine Kd.event_run rfl (run_neq42 (f := x.fr) (g := fr0) rfl rfl rfl HW.out fr0_wf _) ?_; rw [hq]))
                go_roundg k
                case measure => omega
                case rel => exact ⟨i + 1, x.at_, rfl, by simp, by omega, by omega, HSt2.out.drewN _, HN⟩
              | false =>
                have HE := Lib.hid (show r = ((i : Int), 65) by
                  have h := HFF.out
                  rw [if_pos] at h
                  · rw [← h]; unfold stepS bodyS; rw [← he, hd, hq]; simp
                  · unfold stepS bodyS; rw [← he, hd, hq]; simp)
                clear he HFF
                go_wp2_with (first | (go_at_call 36; refine (HRs.out _).mono ?_; rintro e w1 ⟨rfl, ⟨⟨n1, rfl⟩⟩⟩) | ((with_reducible refine gate_dst (N := 40) rfl ?_); refine gate_guard (by rfl) ?_; refine wpList_load_any rfl 42 (.tmp 39) rfl ⟨wr.heap.size, 2, none⟩ rfl (frC x.fr) _ (rng_of (range_fr HX.out)) Try.underlying42 rfl (by rw [frC_len HW.out]; kernel_rfl) ?_) | ((with_reducible refine gate_dst (N := 42) rfl ?_); refine gate_guard (by rfl) ?_; refine Kd.event_run rfl (run_neq42 (f := x.fr) (g := fr0) rfl rfl rfl HW.out fr0_wf _) ?_; rw [hq]))
                go_ret2
                exact ⟨by rw [HE.out]; rfl, (HSt2.out.drewN _).below⟩
            | false =>
              rw [hd] at m1
              have HFr := Lib.hid (fun W => frame_c x.fr L HW.out (by omega) (by omega) W)
              obtain ⟨q, hq⟩ : ∃ q, q = frameS x.fr L := ⟨_, rfl⟩
              rw [← hq] at HFr
              by_cases hq0 : q = 0
              · subst hq0
                have HN := Lib.hid (show checkF L l k (i + 1) x.at_ = r by
                  have h := HFF.out
                  rw [if_neg] at h
                  · exact h
                  · unfold stepS bodyS; rw [← he, hd, ← hq]; simp)
                clear he HFF hq
                go_wp2_with (first | (go_at_call 36; refine (HRs.out _).mono ?_; rintro e w1 ⟨rfl, ⟨⟨n1, rfl⟩⟩⟩) | ((with_reducible refine gate_dst (N := 49) rfl ?_); refine wpList_load_any rfl 42 (.tmp 48) rfl ⟨wr.heap.size, 2, none⟩ rfl (frC x.fr) _ (rng_of (range_fr HX.out)) Try.underlying42 rfl (by rw [frC_len HW.out]; kernel_rfl) ?_) | (go_at_call 37; refine (HFr.out _).mono ?_; rintro e w1 ⟨rfl, b3⟩; have m0 := cell_at (range_blk (blk_below (show (W2.drewN n1).heap[wr.heap.size]? = _ from HKX.out) b3))))
                go_roundg k
                case measure => omega
                case rel => exact ⟨i + 1, x.at_, rfl, by simp, by omega, by omega, (HSt2.out.drewN _).next b3, HN⟩
              · have HE := Lib.hid (show r = ((i : Int), q) by
                  have h := HFF.out
                  rw [if_pos] at h
                  · rw [← h]; unfold stepS bodyS; rw [← he, hd, ← hq]; simp
                  · unfold stepS bodyS; rw [← he, hd, ← hq]; simp; exact hq0)
                have hqn : (q != 0) = true := by simp [hq0]
                clear he HFF hq
                go_wp2_with (first | (go_at_call 36; refine (HRs.out _).mono ?_; rintro e w1 ⟨rfl, ⟨⟨n1, rfl⟩⟩⟩) | ((with_reducible refine gate_dst (N := 49) rfl ?_); refine wpList_load_any rfl 42 (.tmp 48) rfl ⟨wr.heap.size, 2, none⟩ rfl (frC x.fr) _ (rng_of (range_fr HX.out)) Try.underlying42 rfl (by rw [frC_len HW.out]; kernel_rfl) ?_) | (go_at_call 37; refine (HFr.out _).mono ?_; rintro e w1 ⟨rfl, b3⟩; have m0 := cell_at (range_blk (blk_below (show (W2.drewN n1).heap[wr.heap.size]? = _ from HKX.out) b3))))
                go_ret2
                exact ⟨by rw [HE.out]; rfl, ((HSt2.out.drewN _).next b3).below⟩
          · have HE := Lib.hid (show r = ((i : Int), e) by
              have h := HFF.out
              rw [if_pos] at h
              · rw [← h]; unfold stepS; rw [← he, if_pos hz]
              · unfold stepS; rw [← he, if_pos hz]; exact hz)
            have hen : (e != 0) = true := by simp [hz]
            clear he HFF
            go_wp2_with (first | (go_at_call 36; refine (HRs.out _).mono ?_; rintro e w1 ⟨rfl, ⟨⟨n1, rfl⟩⟩⟩))
            go_ret2
            exact ⟨by rw [HE.out]; rfl, (HSt2.out.drewN _).below⟩
        · have e1 : decide ((i : Int) < (l.length : Int)) = false := decide_eq_false (by omega)
          have HE := Lib.hid (show r = (0, 0) by
            have h := HF.out
            rw [checkF, if_neg hlt] at h
            exact h.symm)
          have HSt := Lib.hid St
          clear HF St
          go_wp2
          go_ret2
          exact ⟨by rw [HE.out]; rfl, HSt.out.below⟩
end Go.Proofs.Ytfbdnfokoakfaaa.Ct
namespace Go.Proofs.Ytfbdnfokoakfaaa.Ct
open Go.RowKit Go.Proofs.YtfbdnfokoakfaaaW.PrintWords
set_option linter.unusedVariables false
set_option linter.unusedSimpArgs false

/-- Each entry, behind the one ahead, is well. -/
def OkL (L : Int) : Int → List En → Prop
  | _, [] => True
  | last, x :: r => stepS L last x = 0 ∧ OkL L x.at_ r

theorem checkF_ok (L : Int) (l : List En) : ∀ (f i : Nat) (last : Int), i + f = l.length + 1 → ((checkF L l f i last).2 = 0 ↔ OkL L last (l.drop i))
  | 0, i, last, h => by
    rw [List.drop_eq_nil_of_le (by omega)]
    simp [checkF, OkL]
  | f + 1, i, last, h => by
    rw [checkF]
    by_cases c : i < l.length
    · have hg : l.getD i en0 = l[i] := by simp [List.getD_eq_getElem?_getD, c]
      rw [if_pos c, List.drop_eq_getElem_cons c, hg]
      by_cases e : stepS L last l[i] = 0
      · rw [if_neg (by simpa using e), checkF_ok L l f (i + 1) _ (by omega)]
        exact ⟨fun h => ⟨e, h⟩, fun h => h.2⟩
      · rw [if_pos e]
        exact ⟨fun h => absurd h e, fun h => absurd h.1 e⟩
    · rw [if_neg c, List.drop_eq_nil_of_le (by omega)]
      simp [OkL]
theorem checkF_fst (L : Int) (l : List En) : ∀ (f i : Nat) (last : Int), (checkF L l f i last).2 = 0 → (checkF L l f i last).1 = 0
  | 0, i, last, h => rfl
  | f + 1, i, last, h => by
    rw [checkF] at h ⊢
    by_cases c : i < l.length
    · rw [if_pos c] at h ⊢
      by_cases e : stepS L last (l.getD i en0) = 0
      · rw [if_neg (by simpa using e)] at h ⊢
        exact checkF_fst L l f (i + 1) _ h
      · rw [if_pos e] at h
        exact absurd h e
    · rw [if_neg c]
/-- A certificate that may be. -/
def Good (L : Int) (l : List En) : Prop := 0 ≤ L ∧ L ≤ 16 ∧ l.length ≤ 4096 ∧ OkL L (-1) l
theorem check_good (L : Int) (l : List En) : (checkS L l).2 = 0 ↔ Good L l := by
  unfold checkS Good
  by_cases c1 : L < 0 ∨ 16 < L
  · rw [if_pos c1]
    simp
    omega
  · rw [if_neg c1]
    by_cases c2 : 4096 < l.length
    · rw [if_pos c2]
      simp
      omega
    · rw [if_neg c2, checkF_ok L l _ 0 (-1) (by omega), List.drop_zero]
      exact ⟨fun h => ⟨by omega, by omega, by omega, h⟩, fun h => h.2.2.2⟩
theorem check_one (L : Int) (l : List En) (h : Good L l) : checkS L l = (0, 0) := by
  have h2 := (check_good L l).2 h
  have h1 : (checkS L l).1 = 0 := by
    unfold checkS at h2 ⊢
    rw [if_neg (by have := h.1; have := h.2.1; omega), if_neg (by have := h.2.2.1; omega)] at h2 ⊢
    exact checkF_fst _ _ _ _ _ h2
  exact Prod.ext h1 h2

/-- An entry that is well. -/
theorem step_at {L last : Int} {x : En} (h : stepS L last x = 0) : 0 ≤ x.at_ ∧ x.at_ < 4096 ∧ last < x.at_ ∧ bodyS L x = 0 := by
  unfold stepS at h
  by_cases e : risesS last x.at_ = 0
  · rw [if_neg (by simpa using e)] at h
    unfold risesS at e
    by_cases c1 : x.at_ < 0 ∨ 4096 ≤ x.at_
    · rw [if_pos c1] at e; cases e
    · rw [if_neg c1] at e
      by_cases c2 : x.at_ = last
      · rw [if_pos c2] at e; cases e
      · rw [if_neg c2] at e
        by_cases c3 : x.at_ < last
        · rw [if_pos c3] at e; cases e
        · exact ⟨by omega, by omega, by omega, h⟩
  · rw [if_pos e] at h
    exact absurd h e
theorem body_dead {L : Int} {x : En} (h : bodyS L x = 0) (hd : x.dead = true) : x.fr = fr0 := by
  unfold bodyS at h
  rw [if_pos hd] at h
  by_cases e : eqF x.fr fr0 = true
  · exact (eqF_iff _ _).1 e
  · rw [if_neg e] at h; cases h
theorem body_live {L : Int} {x : En} (h : bodyS L x = 0) (hd : x.dead = false) : x.fr.l = L ∧ 0 ≤ x.fr.h ∧ x.fr.h ≤ 24 - L ∧ (∀ t, t ∈ x.fr.s.drop (L + x.fr.h).toNat → t = 0) ∧ (∀ t, t ∈ x.fr.s.take (L + x.fr.h).toNat → knownB t = true) := by
  unfold bodyS at h
  rw [if_neg (by rw [hd]; decide)] at h
  unfold frameS at h
  by_cases c : x.fr.l ≠ L ∨ x.fr.h < 0 ∨ 24 - L < x.fr.h
  · rw [if_pos c] at h; cases h
  · rw [if_neg c] at h
    have hl : x.fr.l = L := by
      by_cases e : x.fr.l = L
      · exact e
      · exact absurd (.inl e) c
    by_cases d : (x.fr.s.drop (L + x.fr.h).toNat).all (fun t => t == 0) = true
    · rw [if_pos d] at h
      by_cases e : (x.fr.s.take (L + x.fr.h).toNat).all knownB = true
      · refine ⟨hl, by omega, by omega, fun t ht => ?_, fun t ht => List.all_eq_true.1 e t ht⟩
        have := List.all_eq_true.1 d t ht
        simpa using this
      · rw [if_neg e] at h; cases h
    · rw [if_neg d] at h; cases h

/-- An entry's bytes, a certificate's bytes. -/
def encE (L : Int) (x : En) : List Int := [x.at_ / 256, x.at_ % 256] ++ (if x.dead = true then [0] else 1 :: x.fr.h :: x.fr.s.take (L + x.fr.h).toNat)
def encB (L : Int) : List En → List Int
  | [] => []
  | x :: r => encE L x ++ encB L r
def encS (L : Int) (l : List En) : List Int := [112, 118, 1, L, (l.length : Int) / 256, (l.length : Int) % 256] ++ encB L l
theorem encB_snoc (L : Int) : ∀ (l : List En) (x : En), encB L (l ++ [x]) = encB L l ++ encE L x
  | [], x => by simp [encB]
  | y :: r, x => by simp [encB, encB_snoc L r x]
theorem OkL_get (L : Int) : ∀ (l : List En) (last : Int) (i : Nat) (hi : i < l.length), OkL L last l → ∃ p, stepS L p l[i] = 0
  | [], _, i, hi, _ => by simp at hi
  | x :: r, last, 0, hi, h => ⟨last, h.1⟩
  | x :: r, last, i + 1, hi, h => OkL_get L r x.at_ i (by simpa using hi) h.2
theorem encE_len (L : Int) (x : En) (h0 : 0 ≤ L) (h1 : L ≤ 16) (h : bodyS L x = 0) : (encE L x).length ≤ 28 := by
  unfold encE
  cases hd : x.dead with
  | true => simp
  | false =>
    obtain ⟨_, g1, g2, _, _⟩ := body_live h hd
    simp [List.length_take]
    omega
theorem encB_len (L : Int) (h0 : 0 ≤ L) (h1 : L ≤ 16) : ∀ (l : List En) (last : Int), OkL L last l → (encB L l).length ≤ 28 * l.length
  | [], _, _ => by simp [encB]
  | x :: r, last, h => by
    have a := encE_len L x h0 h1 (step_at h.1).2.2.2
    have b := encB_len L h0 h1 r x.at_ h.2
    simp only [encB, List.length_append, List.length_cons]
    omega
theorem OkL_take (L : Int) : ∀ (l : List En) (last : Int) (i : Nat), OkL L last l → OkL L last (l.take i)
  | [], _, i, _ => by simp [OkL]
  | x :: r, last, 0, _ => by simp [OkL]
  | x :: r, last, i + 1, h => ⟨h.1, OkL_take L r x.at_ i h.2⟩
theorem encB_take (L : Int) (l : List En) (h0 : 0 ≤ L) (h1 : L ≤ 16) (h2 : l.length ≤ 4096) (h : OkL L (-1) l) (i : Nat) : (encB L (l.take i)).length ≤ 114688 := by
  have a := encB_len L h0 h1 _ _ (OkL_take L l (-1) i h)
  rw [List.length_take] at a
  omega
end Go.Proofs.Ytfbdnfokoakfaaa.Ct
