/- A program among a row's data, opened: recursive structs. Printed by tools/mk11o.py. -/
import Derived.Test.YtpimociplmpfcaaOkV
import Derived.Lib.SmallJoins
import Derived.OpenShut
import Derived.SizedLaws
import Derived.Deep.Slices
import Derived.Deep.Strs
namespace Go.Proofs.Ytpimociplmpfcaa.Sam
open Go.ChangeShapes Go.WideShapes Go.RowKit Go.Proofs.YtpimociplmpfcaaW.PrintWords Go.Proofs.YtpimociplmpfcaaW.PrintLast Go.Proofs.YtpimociplmpfcaaW.PrintMore Go.Proofs.Ytpimociplmpfcaa.PParseSames
set_option linter.unusedVariables false
set_option linter.unusedSimpArgs false

section
variable {H : Type} {enc : TypeId × Value → H} {P : Program} {W : World} {base : Nat} {sp : Nat → Bool} {held : Bool}
def Fits (P : Program) (t : TypeId) (d : DataW H) : Prop := (DataW.weights P t d).all (· ≤ reachBytes) = true
theorem all_each {ts : List TypeId} {ds : List (DataW H)} {j : Nat} {t : TypeId} {d : DataW H} (h : (DataW.weightsEach P ts ds).all (· ≤ reachBytes) = true) (ht : ts[j]? = some t) (hd : ds[j]? = some d) : Fits P t d := by
  unfold Fits
  rw [List.all_eq_true] at h ⊢
  exact fun n hn => h n (DataW.weights_mem_each ht hd n hn)
theorem all_all {e : TypeId} : ∀ {l : List (DataW H)} {d : DataW H}, (∀ n, n ∈ DataW.weightsAll P e l → decide (n ≤ reachBytes) = true) → d ∈ l → Fits P e d
  | a :: l, d, h, hd => by
    unfold Fits
    rw [List.all_eq_true]
    intro n hn
    rcases List.mem_cons.1 hd with rfl | hd
    · exact h n (by rw [DataW.weightsAll]; exact List.mem_append_left _ hn)
    · have := all_all (l := l) (d := d) (fun m hm => h m (by rw [DataW.weightsAll]; exact List.mem_append_right _ hm)) hd
      unfold Fits at this
      exact List.all_eq_true.1 this n hn
/-- A slice, whatever its elements. -/
theorem slice_of {α : Type} [Inhabited α] (d : Kd α) (q : α → Prop) {t e : TypeId} (hu : P.underlying t = some (.slice e)) (hc : P.cellsOf e = d.sz) {B : Nat} (hB : P.bytesOf e = B)
    {fuel : Nat} {cs : List Value} {x : DataW H × List MemPlace} (hf : DataW.trod enc P W base sp held fuel t cs = some x) (hw : Fits P t x.1)
    (ho : ∀ (n : Nat) (cs' : List Value) (y : DataW H × List MemPlace), cs'.length = d.sz → DataW.trod enc P W base sp held n e cs' = some y → Fits P e y.1 → SizeOf.sizeOf y.1 < SizeOf.sizeOf x.1 → ∃ a, d.K W a cs' ∧ q a) :
    ∃ (A : Option Addr) (c : Nat) (l : List α), cs = [.slice A l.length c] ∧ l.length ≤ c ∧ Kd.C d W A l.length l ∧ l.length * B ≤ 140737488351232 ∧ ∀ a, a ∈ l → q a := by
  rcases Deep.open_slice hu hf with ⟨rfl, _⟩ | ⟨a, len, cap, m, n, D, Pl, rfl, hb, hl, hm, hmm, rfl, hx⟩
  · exact ⟨none, 0, [], rfl, Nat.le_refl _, ⟨rfl, by simp, fun h => by simp at h⟩, by simp, fun a ha => by simp at ha⟩
  · have hle : len ≤ m := by rw [hmm]; split <;> omega
    unfold Fits at hw
    rw [List.all_eq_true] at hw
    have hw2 : ∀ n, n ∈ (((List.range len).map D).length + ((List.range (m - len)).map fun j => D (len + j)).length) * P.bytesOf e :: (DataW.weightsAll P e ((List.range len).map D) ++ DataW.weightsAll P e ((List.range (m - len)).map fun j => D (len + j))) → decide (n ≤ reachBytes) = true := by
      intro n hn
      refine hw n ?_
      simp only [DataW.weights, hu]
      exact hn
    have hmem : ∀ i, i < len → D i ∈ (List.range len).map D := fun i hi => List.mem_map.2 ⟨i, List.mem_range.2 hi, rfl⟩
    have each : ∀ i, i < len → ∃ a' : α, q a' ∧ ∃ cs, cs.length = d.sz ∧ d.K W a' cs ∧ ∀ j u, cs[j]? = some u → W.cell? (a.add (i * d.sz + j)) = some u := by
      intro i hi
      obtain ⟨cs, h1, h2⟩ := hx i (by omega)
      rw [hc] at h1
      obtain ⟨_, hlen, hcell⟩ := World.cells?_some h1
      have hfit : Fits P e (D i) := all_all (fun n hn => hw2 n (List.mem_cons_of_mem _ (List.mem_append_left _ hn))) (hmem i hi)
      have hsz : SizeOf.sizeOf (D i) < SizeOf.sizeOf (DataW.slice ((List.range len).map D) ((List.range (m - len)).map fun j => D (len + j))) := by
        have := List.sizeOf_lt_of_mem (hmem i hi)
        rw [DataW.slice.sizeOf_spec]
        omega
      obtain ⟨a', hk, hq⟩ := ho n cs _ hlen h2 hfit hsz
      refine ⟨a', hq, cs, hlen, hk, fun j u hj => ?_⟩
      obtain ⟨hj', hj2⟩ := List.getElem?_eq_some_iff.1 hj
      have := hcell j (by omega)
      rw [Deep.add_add] at this
      rw [this, hj]
    obtain ⟨f, hf2⟩ := Deep.choose_lt each
    have hlen : ((List.range len).map f).length = len := by simp
    refine ⟨some a, cap, (List.range len).map f, by rw [hlen], by rw [hlen]; exact hl, ⟨rfl, by simp only [maxLen] at hm; rw [hlen]; omega, fun _ => ⟨a, rfl, fun j p hj => ?_⟩⟩, ?_, fun a' ha => ?_⟩
    · rw [List.getElem?_map] at hj
      obtain ⟨i, hi, rfl⟩ := Option.map_eq_some_iff.1 hj
      obtain ⟨hi1, hi2⟩ := List.getElem?_eq_some_iff.1 hi
      simp at hi2 hi1
      subst hi2
      obtain ⟨_, cs, h1, h2, h3⟩ := hf2 j hi1
      exact ⟨cs, h1, h2, h3⟩
    · have := hw2 _ List.mem_cons_self
      rw [hB] at this
      simp [reachBytes, maxLen] at this
      rw [hlen]
      have h1 := Nat.mul_le_mul_right B (show len ≤ len + (m - len) by omega)
      omega
    · obtain ⟨i, hi, rfl⟩ := List.mem_map.1 ha
      exact (hf2 i (by simpa using hi)).1
end
section
variable {H : Type} {enc : TypeId × Value → H} {W : World} {base : Nat} {sp : Nat → Bool} {held : Bool}

instance : Inhabited S49 := ⟨z49⟩
instance : Inhabited S34 := ⟨z34⟩
instance : Inhabited S47 := ⟨z47⟩
instance : Inhabited S30 := ⟨z30⟩
instance : Inhabited S37 := ⟨z37⟩
theorem cc_49 : Try.prog.cellsOf 49 = 8 := by kernel_rfl
theorem cb_49 : Try.prog.bytesOf 49 = 88 := by kernel_rfl
theorem cc_34 : Try.prog.cellsOf 34 = 4 := by kernel_rfl
theorem cb_34 : Try.prog.bytesOf 34 = 48 := by kernel_rfl
theorem cc_47 : Try.prog.cellsOf 47 = 10 := by kernel_rfl
theorem cb_47 : Try.prog.bytesOf 47 = 144 := by kernel_rfl
theorem cc_30 : Try.prog.cellsOf 30 = 4 := by kernel_rfl
theorem cb_30 : Try.prog.bytesOf 30 = 64 := by kernel_rfl
theorem cc_37 : Try.prog.cellsOf 37 = 7 := by kernel_rfl
theorem cb_37 : Try.prog.bytesOf 37 = 104 := by kernel_rfl
theorem cc_3 : Try.prog.cellsOf 3 = 1 := by kernel_rfl
theorem cc_9 : Try.prog.cellsOf 9 = 1 := by kernel_rfl
theorem cc_32 : Try.prog.cellsOf 32 = 1 := by kernel_rfl
theorem cc_45 : Try.prog.cellsOf 45 = 1 := by kernel_rfl
theorem cc_35 : Try.prog.cellsOf 35 = 1 := by kernel_rfl
theorem cc_28 : Try.prog.cellsOf 28 = 1 := by kernel_rfl
theorem open49 : ∀ (s n : Nat) (cs : List Value) (x : DataW H × List MemPlace), SizeOf.sizeOf x.1 ≤ s → cs.length = 8 → DataW.trod enc Try.prog W base sp held n 49 cs = some x → Fits Try.prog 49 x.1 → ∃ a : S49, k49.K W a cs ∧ OkE a.f4
  | 0, n, cs, x, hs, hl, h, hw => by
    obtain ⟨xs, m, _, rfl, _, _, _⟩ := DataW.trod_struct Try.underlying49 h
    rw [DataW.agg.sizeOf_spec] at hs
    omega
  | s + 1, n, cs, x, hs, hl, h, hw => by
    obtain ⟨xs, m, _, rfl, _, hxl, hf⟩ := DataW.trod_struct Try.underlying49 h
    have hw2 : (DataW.weightsEach Try.prog [3, 3, 9, 3, 45, 32, 3, 3] (xs.map (·.1))).all (· ≤ reachBytes) = true := by
      have := hw
      unfold Fits at this
      simp only [DataW.weights, Try.underlying49] at this
      exact this
    have hxl' : xs.length = 8 := hxl
    match cs, hl, xs, hxl', hf, hw2, hs with
    | [v0, v1, v2, v3, v4, v5, v6, v7], _, [y0, y1, y2, y3, y4, y5, y6, y7], _, hf, hw2, hs =>
      have g0 : DataW.trod enc Try.prog W base sp held m 3 [v0] = some y0 := by have := hf 0 _ rfl; simpa [cc_3] using this
      have g1 : DataW.trod enc Try.prog W base sp held m 3 [v1] = some y1 := by have := hf 1 _ rfl; simpa [cc_3] using this
      have g2 : DataW.trod enc Try.prog W base sp held m 9 [v2] = some y2 := by have := hf 2 _ rfl; simpa [cc_9] using this
      have g3 : DataW.trod enc Try.prog W base sp held m 3 [v3] = some y3 := by have := hf 3 _ rfl; simpa [cc_3] using this
      have g4 : DataW.trod enc Try.prog W base sp held m 45 [v4] = some y4 := by have := hf 4 _ rfl; simpa [cc_45] using this
      have g5 : DataW.trod enc Try.prog W base sp held m 32 [v5] = some y5 := by have := hf 5 _ rfl; simpa [cc_32] using this
      have g6 : DataW.trod enc Try.prog W base sp held m 3 [v6] = some y6 := by have := hf 6 _ rfl; simpa [cc_3] using this
      have g7 : DataW.trod enc Try.prog W base sp held m 3 [v7] = some y7 := by have := hf 7 _ rfl; simpa [cc_3] using this
      obtain ⟨a0, e0, _, _⟩ := DataW.trod_int (k := .i64) (t := 3) Try.underlying3 g0
      simp only [List.cons.injEq, and_true] at e0
      subst e0
      obtain ⟨a1, e1, _, _⟩ := DataW.trod_int (k := .i64) (t := 3) Try.underlying3 g1
      simp only [List.cons.injEq, and_true] at e1
      subst e1
      obtain ⟨a2, e2, _⟩ := DataW.trod_string (t := 9) Try.underlying9 g2
      simp only [List.cons.injEq, and_true] at e2
      subst e2
      obtain ⟨a3, e3, _, _⟩ := DataW.trod_int (k := .i64) (t := 3) Try.underlying3 g3
      simp only [List.cons.injEq, and_true] at e3
      subst e3
      have fz4 : SizeOf.sizeOf y4.1 ≤ s := by
        have h1 : y4.1 ∈ [y0, y1, y2, y3, y4, y5, y6, y7].map (·.1) := List.mem_map.2 ⟨y4, by simp, rfl⟩
        have h2 := List.sizeOf_lt_of_mem h1
        rw [DataW.agg.sizeOf_spec] at hs
        omega
      obtain ⟨A4, c4, l4, e4, hc4, hC4, hb4, hq4⟩ := slice_of k49 (fun z => OkE z.f4) Try.underlying45 cc_49 cb_49 g4 (all_each hw2 (j := 4) rfl rfl) (fun n' cs' y hl' hy hw' hz => open49 s n' cs' y (by omega) hl' hy hw')
      simp only [List.cons.injEq, and_true] at e4
      subst e4
      obtain ⟨a5, e5, _, _⟩ := DataW.trod_int (k := .u8) (t := 32) Try.underlying32 g5
      simp only [List.cons.injEq, and_true] at e5
      subst e5
      obtain ⟨a6, e6, _, _⟩ := DataW.trod_int (k := .i64) (t := 3) Try.underlying3 g6
      simp only [List.cons.injEq, and_true] at e6
      subst e6
      obtain ⟨a7, e7, _, _⟩ := DataW.trod_int (k := .i64) (t := 3) Try.underlying3 g7
      simp only [List.cons.injEq, and_true] at e7
      subst e7
      exact ⟨⟨a0, a1, a2, a3, l4, a5, a6, a7⟩, k49_mk W ⟨a0, a1, a2, a3, l4, a5, a6, a7⟩ hc4 hC4, OkE.mk _ hb4 hq4⟩
theorem open34 : ∀ (s n : Nat) (cs : List Value) (x : DataW H × List MemPlace), SizeOf.sizeOf x.1 ≤ s → cs.length = 4 → DataW.trod enc Try.prog W base sp held n 34 cs = some x → Fits Try.prog 34 x.1 → ∃ a : S34, k34.K W a cs ∧ True
  | 0, n, cs, x, hs, hl, h, hw => by
    obtain ⟨xs, m, _, rfl, _, _, _⟩ := DataW.trod_struct Try.underlying34 h
    rw [DataW.agg.sizeOf_spec] at hs
    omega
  | s + 1, n, cs, x, hs, hl, h, hw => by
    obtain ⟨xs, m, _, rfl, _, hxl, hf⟩ := DataW.trod_struct Try.underlying34 h
    have hw2 : (DataW.weightsEach Try.prog [3, 9, 9, 32] (xs.map (·.1))).all (· ≤ reachBytes) = true := by
      have := hw
      unfold Fits at this
      simp only [DataW.weights, Try.underlying34] at this
      exact this
    have hxl' : xs.length = 4 := hxl
    match cs, hl, xs, hxl', hf, hw2, hs with
    | [v0, v1, v2, v3], _, [y0, y1, y2, y3], _, hf, hw2, hs =>
      have g0 : DataW.trod enc Try.prog W base sp held m 3 [v0] = some y0 := by have := hf 0 _ rfl; simpa [cc_3] using this
      have g1 : DataW.trod enc Try.prog W base sp held m 9 [v1] = some y1 := by have := hf 1 _ rfl; simpa [cc_9] using this
      have g2 : DataW.trod enc Try.prog W base sp held m 9 [v2] = some y2 := by have := hf 2 _ rfl; simpa [cc_9] using this
      have g3 : DataW.trod enc Try.prog W base sp held m 32 [v3] = some y3 := by have := hf 3 _ rfl; simpa [cc_32] using this
      obtain ⟨a0, e0, _, _⟩ := DataW.trod_int (k := .i64) (t := 3) Try.underlying3 g0
      simp only [List.cons.injEq, and_true] at e0
      subst e0
      obtain ⟨a1, e1, _⟩ := DataW.trod_string (t := 9) Try.underlying9 g1
      simp only [List.cons.injEq, and_true] at e1
      subst e1
      obtain ⟨a2, e2, _⟩ := DataW.trod_string (t := 9) Try.underlying9 g2
      simp only [List.cons.injEq, and_true] at e2
      subst e2
      obtain ⟨a3, e3, _, _⟩ := DataW.trod_int (k := .u8) (t := 32) Try.underlying32 g3
      simp only [List.cons.injEq, and_true] at e3
      subst e3
      exact ⟨⟨a0, a1, a2, a3⟩, k34_mk W ⟨a0, a1, a2, a3⟩ , trivial⟩
theorem open47 : ∀ (s n : Nat) (cs : List Value) (x : DataW H × List MemPlace), SizeOf.sizeOf x.1 ≤ s → cs.length = 10 → DataW.trod enc Try.prog W base sp held n 47 cs = some x → Fits Try.prog 47 x.1 → ∃ a : S47, k47.K W a cs ∧ OkE a.f5 ∧ OkS a.f6 ∧ OkS a.f7
  | 0, n, cs, x, hs, hl, h, hw => by
    obtain ⟨xs, m, _, rfl, _, _, _⟩ := DataW.trod_struct Try.underlying47 h
    rw [DataW.agg.sizeOf_spec] at hs
    omega
  | s + 1, n, cs, x, hs, hl, h, hw => by
    obtain ⟨xs, m, _, rfl, _, hxl, hf⟩ := DataW.trod_struct Try.underlying47 h
    have hw2 : (DataW.weightsEach Try.prog [3, 3, 9, 9, 3, 45, 35, 35, 32, 3] (xs.map (·.1))).all (· ≤ reachBytes) = true := by
      have := hw
      unfold Fits at this
      simp only [DataW.weights, Try.underlying47] at this
      exact this
    have hxl' : xs.length = 10 := hxl
    match cs, hl, xs, hxl', hf, hw2, hs with
    | [v0, v1, v2, v3, v4, v5, v6, v7, v8, v9], _, [y0, y1, y2, y3, y4, y5, y6, y7, y8, y9], _, hf, hw2, hs =>
      have g0 : DataW.trod enc Try.prog W base sp held m 3 [v0] = some y0 := by have := hf 0 _ rfl; simpa [cc_3] using this
      have g1 : DataW.trod enc Try.prog W base sp held m 3 [v1] = some y1 := by have := hf 1 _ rfl; simpa [cc_3] using this
      have g2 : DataW.trod enc Try.prog W base sp held m 9 [v2] = some y2 := by have := hf 2 _ rfl; simpa [cc_9] using this
      have g3 : DataW.trod enc Try.prog W base sp held m 9 [v3] = some y3 := by have := hf 3 _ rfl; simpa [cc_9] using this
      have g4 : DataW.trod enc Try.prog W base sp held m 3 [v4] = some y4 := by have := hf 4 _ rfl; simpa [cc_3] using this
      have g5 : DataW.trod enc Try.prog W base sp held m 45 [v5] = some y5 := by have := hf 5 _ rfl; simpa [cc_45] using this
      have g6 : DataW.trod enc Try.prog W base sp held m 35 [v6] = some y6 := by have := hf 6 _ rfl; simpa [cc_35] using this
      have g7 : DataW.trod enc Try.prog W base sp held m 35 [v7] = some y7 := by have := hf 7 _ rfl; simpa [cc_35] using this
      have g8 : DataW.trod enc Try.prog W base sp held m 32 [v8] = some y8 := by have := hf 8 _ rfl; simpa [cc_32] using this
      have g9 : DataW.trod enc Try.prog W base sp held m 3 [v9] = some y9 := by have := hf 9 _ rfl; simpa [cc_3] using this
      obtain ⟨a0, e0, _, _⟩ := DataW.trod_int (k := .i64) (t := 3) Try.underlying3 g0
      simp only [List.cons.injEq, and_true] at e0
      subst e0
      obtain ⟨a1, e1, _, _⟩ := DataW.trod_int (k := .i64) (t := 3) Try.underlying3 g1
      simp only [List.cons.injEq, and_true] at e1
      subst e1
      obtain ⟨a2, e2, _⟩ := DataW.trod_string (t := 9) Try.underlying9 g2
      simp only [List.cons.injEq, and_true] at e2
      subst e2
      obtain ⟨a3, e3, _⟩ := DataW.trod_string (t := 9) Try.underlying9 g3
      simp only [List.cons.injEq, and_true] at e3
      subst e3
      obtain ⟨a4, e4, _, _⟩ := DataW.trod_int (k := .i64) (t := 3) Try.underlying3 g4
      simp only [List.cons.injEq, and_true] at e4
      subst e4
      have fz5 : SizeOf.sizeOf y5.1 ≤ s := by
        have h1 : y5.1 ∈ [y0, y1, y2, y3, y4, y5, y6, y7, y8, y9].map (·.1) := List.mem_map.2 ⟨y5, by simp, rfl⟩
        have h2 := List.sizeOf_lt_of_mem h1
        rw [DataW.agg.sizeOf_spec] at hs
        omega
      obtain ⟨A5, c5, l5, e5, hc5, hC5, hb5, hq5⟩ := slice_of k49 (fun z => OkE z.f4) Try.underlying45 cc_49 cb_49 g5 (all_each hw2 (j := 5) rfl rfl) (fun n' cs' y hl' hy hw' hz => open49 s n' cs' y (by omega) hl' hy hw')
      simp only [List.cons.injEq, and_true] at e5
      subst e5
      have fz6 : SizeOf.sizeOf y6.1 ≤ s := by
        have h1 : y6.1 ∈ [y0, y1, y2, y3, y4, y5, y6, y7, y8, y9].map (·.1) := List.mem_map.2 ⟨y6, by simp, rfl⟩
        have h2 := List.sizeOf_lt_of_mem h1
        rw [DataW.agg.sizeOf_spec] at hs
        omega
      obtain ⟨A6, c6, l6, e6, hc6, hC6, hb6, hq6⟩ := slice_of k47 (fun z => OkE z.f5 ∧ OkS z.f6 ∧ OkS z.f7) Try.underlying35 cc_47 cb_47 g6 (all_each hw2 (j := 6) rfl rfl) (fun n' cs' y hl' hy hw' hz => open47 s n' cs' y (by omega) hl' hy hw')
      simp only [List.cons.injEq, and_true] at e6
      subst e6
      have fz7 : SizeOf.sizeOf y7.1 ≤ s := by
        have h1 : y7.1 ∈ [y0, y1, y2, y3, y4, y5, y6, y7, y8, y9].map (·.1) := List.mem_map.2 ⟨y7, by simp, rfl⟩
        have h2 := List.sizeOf_lt_of_mem h1
        rw [DataW.agg.sizeOf_spec] at hs
        omega
      obtain ⟨A7, c7, l7, e7, hc7, hC7, hb7, hq7⟩ := slice_of k47 (fun z => OkE z.f5 ∧ OkS z.f6 ∧ OkS z.f7) Try.underlying35 cc_47 cb_47 g7 (all_each hw2 (j := 7) rfl rfl) (fun n' cs' y hl' hy hw' hz => open47 s n' cs' y (by omega) hl' hy hw')
      simp only [List.cons.injEq, and_true] at e7
      subst e7
      obtain ⟨a8, e8, _, _⟩ := DataW.trod_int (k := .u8) (t := 32) Try.underlying32 g8
      simp only [List.cons.injEq, and_true] at e8
      subst e8
      obtain ⟨a9, e9, _, _⟩ := DataW.trod_int (k := .i64) (t := 3) Try.underlying3 g9
      simp only [List.cons.injEq, and_true] at e9
      subst e9
      exact ⟨⟨a0, a1, a2, a3, a4, l5, l6, l7, a8, a9⟩, k47_mk W ⟨a0, a1, a2, a3, a4, l5, l6, l7, a8, a9⟩ hc5 hC5 hc6 hC6 hc7 hC7, ⟨OkE.mk _ hb5 hq5, OkS.mk _ hb6 (fun z hz => (hq6 z hz).1) (fun z hz => (hq6 z hz).2.1) (fun z hz => (hq6 z hz).2.2), OkS.mk _ hb7 (fun z hz => (hq7 z hz).1) (fun z hz => (hq7 z hz).2.1) (fun z hz => (hq7 z hz).2.2)⟩⟩
theorem open30 : ∀ (s n : Nat) (cs : List Value) (x : DataW H × List MemPlace), SizeOf.sizeOf x.1 ≤ s → cs.length = 4 → DataW.trod enc Try.prog W base sp held n 30 cs = some x → Fits Try.prog 30 x.1 → ∃ a : S30, k30.K W a cs ∧ a.f3.length * 48 ≤ 140737488351232
  | 0, n, cs, x, hs, hl, h, hw => by
    obtain ⟨xs, m, _, rfl, _, _, _⟩ := DataW.trod_struct Try.underlying30 h
    rw [DataW.agg.sizeOf_spec] at hs
    omega
  | s + 1, n, cs, x, hs, hl, h, hw => by
    obtain ⟨xs, m, _, rfl, _, hxl, hf⟩ := DataW.trod_struct Try.underlying30 h
    have hw2 : (DataW.weightsEach Try.prog [3, 9, 9, 28] (xs.map (·.1))).all (· ≤ reachBytes) = true := by
      have := hw
      unfold Fits at this
      simp only [DataW.weights, Try.underlying30] at this
      exact this
    have hxl' : xs.length = 4 := hxl
    match cs, hl, xs, hxl', hf, hw2, hs with
    | [v0, v1, v2, v3], _, [y0, y1, y2, y3], _, hf, hw2, hs =>
      have g0 : DataW.trod enc Try.prog W base sp held m 3 [v0] = some y0 := by have := hf 0 _ rfl; simpa [cc_3] using this
      have g1 : DataW.trod enc Try.prog W base sp held m 9 [v1] = some y1 := by have := hf 1 _ rfl; simpa [cc_9] using this
      have g2 : DataW.trod enc Try.prog W base sp held m 9 [v2] = some y2 := by have := hf 2 _ rfl; simpa [cc_9] using this
      have g3 : DataW.trod enc Try.prog W base sp held m 28 [v3] = some y3 := by have := hf 3 _ rfl; simpa [cc_28] using this
      obtain ⟨a0, e0, _, _⟩ := DataW.trod_int (k := .i64) (t := 3) Try.underlying3 g0
      simp only [List.cons.injEq, and_true] at e0
      subst e0
      obtain ⟨a1, e1, _⟩ := DataW.trod_string (t := 9) Try.underlying9 g1
      simp only [List.cons.injEq, and_true] at e1
      subst e1
      obtain ⟨a2, e2, _⟩ := DataW.trod_string (t := 9) Try.underlying9 g2
      simp only [List.cons.injEq, and_true] at e2
      subst e2
      have fz3 : SizeOf.sizeOf y3.1 ≤ s := by
        have h1 : y3.1 ∈ [y0, y1, y2, y3].map (·.1) := List.mem_map.2 ⟨y3, by simp, rfl⟩
        have h2 := List.sizeOf_lt_of_mem h1
        rw [DataW.agg.sizeOf_spec] at hs
        omega
      obtain ⟨A3, c3, l3, e3, hc3, hC3, hb3, hq3⟩ := slice_of k34 (fun z => True) Try.underlying28 cc_34 cb_34 g3 (all_each hw2 (j := 3) rfl rfl) (fun n' cs' y hl' hy hw' hz => open34 s n' cs' y (by omega) hl' hy hw')
      simp only [List.cons.injEq, and_true] at e3
      subst e3
      exact ⟨⟨a0, a1, a2, l3⟩, k30_mk W ⟨a0, a1, a2, l3⟩ hc3 hC3, hb3⟩
theorem open37 : ∀ (s n : Nat) (cs : List Value) (x : DataW H × List MemPlace), SizeOf.sizeOf x.1 ≤ s → cs.length = 7 → DataW.trod enc Try.prog W base sp held n 37 cs = some x → Fits Try.prog 37 x.1 → ∃ a : S37, k37.K W a cs ∧ a.f3.length * 48 ≤ 140737488351232 ∧ OkS a.f4
  | 0, n, cs, x, hs, hl, h, hw => by
    obtain ⟨xs, m, _, rfl, _, _, _⟩ := DataW.trod_struct Try.underlying37 h
    rw [DataW.agg.sizeOf_spec] at hs
    omega
  | s + 1, n, cs, x, hs, hl, h, hw => by
    obtain ⟨xs, m, _, rfl, _, hxl, hf⟩ := DataW.trod_struct Try.underlying37 h
    have hw2 : (DataW.weightsEach Try.prog [3, 9, 9, 28, 35, 32, 3] (xs.map (·.1))).all (· ≤ reachBytes) = true := by
      have := hw
      unfold Fits at this
      simp only [DataW.weights, Try.underlying37] at this
      exact this
    have hxl' : xs.length = 7 := hxl
    match cs, hl, xs, hxl', hf, hw2, hs with
    | [v0, v1, v2, v3, v4, v5, v6], _, [y0, y1, y2, y3, y4, y5, y6], _, hf, hw2, hs =>
      have g0 : DataW.trod enc Try.prog W base sp held m 3 [v0] = some y0 := by have := hf 0 _ rfl; simpa [cc_3] using this
      have g1 : DataW.trod enc Try.prog W base sp held m 9 [v1] = some y1 := by have := hf 1 _ rfl; simpa [cc_9] using this
      have g2 : DataW.trod enc Try.prog W base sp held m 9 [v2] = some y2 := by have := hf 2 _ rfl; simpa [cc_9] using this
      have g3 : DataW.trod enc Try.prog W base sp held m 28 [v3] = some y3 := by have := hf 3 _ rfl; simpa [cc_28] using this
      have g4 : DataW.trod enc Try.prog W base sp held m 35 [v4] = some y4 := by have := hf 4 _ rfl; simpa [cc_35] using this
      have g5 : DataW.trod enc Try.prog W base sp held m 32 [v5] = some y5 := by have := hf 5 _ rfl; simpa [cc_32] using this
      have g6 : DataW.trod enc Try.prog W base sp held m 3 [v6] = some y6 := by have := hf 6 _ rfl; simpa [cc_3] using this
      obtain ⟨a0, e0, _, _⟩ := DataW.trod_int (k := .i64) (t := 3) Try.underlying3 g0
      simp only [List.cons.injEq, and_true] at e0
      subst e0
      obtain ⟨a1, e1, _⟩ := DataW.trod_string (t := 9) Try.underlying9 g1
      simp only [List.cons.injEq, and_true] at e1
      subst e1
      obtain ⟨a2, e2, _⟩ := DataW.trod_string (t := 9) Try.underlying9 g2
      simp only [List.cons.injEq, and_true] at e2
      subst e2
      have fz3 : SizeOf.sizeOf y3.1 ≤ s := by
        have h1 : y3.1 ∈ [y0, y1, y2, y3, y4, y5, y6].map (·.1) := List.mem_map.2 ⟨y3, by simp, rfl⟩
        have h2 := List.sizeOf_lt_of_mem h1
        rw [DataW.agg.sizeOf_spec] at hs
        omega
      obtain ⟨A3, c3, l3, e3, hc3, hC3, hb3, hq3⟩ := slice_of k34 (fun z => True) Try.underlying28 cc_34 cb_34 g3 (all_each hw2 (j := 3) rfl rfl) (fun n' cs' y hl' hy hw' hz => open34 s n' cs' y (by omega) hl' hy hw')
      simp only [List.cons.injEq, and_true] at e3
      subst e3
      have fz4 : SizeOf.sizeOf y4.1 ≤ s := by
        have h1 : y4.1 ∈ [y0, y1, y2, y3, y4, y5, y6].map (·.1) := List.mem_map.2 ⟨y4, by simp, rfl⟩
        have h2 := List.sizeOf_lt_of_mem h1
        rw [DataW.agg.sizeOf_spec] at hs
        omega
      obtain ⟨A4, c4, l4, e4, hc4, hC4, hb4, hq4⟩ := slice_of k47 (fun z => OkE z.f5 ∧ OkS z.f6 ∧ OkS z.f7) Try.underlying35 cc_47 cb_47 g4 (all_each hw2 (j := 4) rfl rfl) (fun n' cs' y hl' hy hw' hz => open47 s n' cs' y (by omega) hl' hy hw')
      simp only [List.cons.injEq, and_true] at e4
      subst e4
      obtain ⟨a5, e5, _, _⟩ := DataW.trod_int (k := .u8) (t := 32) Try.underlying32 g5
      simp only [List.cons.injEq, and_true] at e5
      subst e5
      obtain ⟨a6, e6, _, _⟩ := DataW.trod_int (k := .i64) (t := 3) Try.underlying3 g6
      simp only [List.cons.injEq, and_true] at e6
      subst e6
      exact ⟨⟨a0, a1, a2, l3, l4, a5, a6⟩, k37_mk W ⟨a0, a1, a2, l3, l4, a5, a6⟩ hc3 hC3 hc4 hC4, ⟨hb3, OkS.mk _ hb4 (fun z hz => (hq4 z hz).1) (fun z hz => (hq4 z hz).2.1) (fun z hz => (hq4 z hz).2.2)⟩⟩
/-- The whole argument. -/
theorem open_program {r : Reach} {b0 : Nat} {v : Value} {d : DataW H} {p : List MemPlace} (hw : Fits Try.prog 25 d) (hv : Value.okWide Try.prog W r b0 25 v) (h : DataW.Trod enc Try.prog W base sp held 25 v d p) :
    ∃ (A : Option Addr) (c : Nat) (ra : List S30) (A' : Option Addr) (c' : Nat) (fa : List S37), v = .agg #[.slice A ra.length c, .slice A' fa.length c'] ∧ ra.length ≤ c ∧ Kd.C k30 W A ra.length ra ∧ fa.length ≤ c' ∧ Kd.C k37 W A' fa.length fa ∧
      (∀ x, x ∈ ra → x.f3.length * 48 ≤ 140737488351232) ∧ (∀ x, x ∈ fa → x.f3.length * 48 ≤ 140737488351232 ∧ OkS x.f4) ∧ ra.length * 64 ≤ 140737488351232 ∧ fa.length * 104 ≤ 140737488351232 := by
  obtain ⟨v0, v1, y0, y1, m, rfl, rfl, rfl, h0, h1⟩ := Joins.open_agg2 Try.underlying25 (by kernel_rfl) (by kernel_rfl) hv h
  have hw2 : (DataW.weightsEach Try.prog [22, 23] [y0.1, y1.1]).all (· ≤ reachBytes) = true := by
    have := hw
    unfold Fits at this
    simp only [DataW.weights, Try.underlying25] at this
    exact this
  obtain ⟨A, c, ra, e0, hc, hC, hb, hq⟩ := slice_of k30 (fun a => a.f3.length * 48 ≤ 140737488351232) (t := 22) Try.underlying22 cc_30 cb_30 h0 (all_each hw2 (j := 0) rfl rfl) (fun n' cs' y hl' hy hw' hz => open30 _ n' cs' y (Nat.le_refl _) hl' hy hw')
  obtain ⟨A', c', fa, e1, hc', hC', hb', hq'⟩ := slice_of k37 (fun a => a.f3.length * 48 ≤ 140737488351232 ∧ OkS a.f4) (t := 23) Try.underlying23 cc_37 cb_37 h1 (all_each hw2 (j := 1) rfl rfl) (fun n' cs' y hl' hy hw' hz => open37 _ n' cs' y (Nat.le_refl _) hl' hy hw')
  simp only [List.cons.injEq, and_true] at e0 e1
  subst e0 e1
  exact ⟨A, c, ra, A', c', fa, rfl, hc, hC, hc', hC', hq, hq', hb, hb'⟩
end
end Go.Proofs.Ytpimociplmpfcaa.Sam
