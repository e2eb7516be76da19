/- Rows of bytes that share no memory, and a slice of such rows: plain words. -/
import Derived.Test.YtcfpiamdkdedlaaPatchW
namespace Go.Proofs.Ytcfpiamdkdedlaa.DecodeC
open Go.RowKit Go.Proofs.YtcfpiamdkdedlaaW.PrintWords Go.Proofs.YtcfpiamdkdedlaaW.PrintLast Go.Proofs.YtcfpiamdkdedlaaW.PrintMore Go.Proofs.Ytcfpiamdkdedlaa.PCodePatches Go.Proofs.Ytcfpiamdkdedlaa.CloneC
set_option linter.unusedVariables false
set_option linter.unusedSimpArgs false

/-- A slice's elements that are values of one cell, whatever they are. -/
def kV : Kd Value where
  sz := 1
  E := []
  K := fun _ x cs => cs = [x] ∧ x.oneCell' = true
  M := fun _ _ _ x cs => cs = [x] ∧ x.oneCell' = true
  K_len := fun {w x cs} h => by rw [h.1]; rfl
  K_one := fun {w x cs} h u hu => by rw [h.1, List.mem_singleton] at hu; rw [hu]; exact h.2
  K_below := fun _ h => h
  K_of_M := fun h => h
  M_mono := fun _ h => h
  M_bound := fun h => h
  M_move := fun _ h => h
  M_lower := fun _ h => h
theorem info30 : (Try.prog.info? 30).map (fun i => (i.zero, i.size, i.bytes)) = some (some (.slice none 0 0), 1, 24) := by kernel_rfl

/-- Two values that own no block in common. -/
def Sep (v v' : Value) : Prop := ∀ k, v.ownBlock = some k → v'.ownBlock ≠ some k
theorem Sep.symm {v v' : Value} (h : Sep v v') : Sep v' v := fun k e e' => h k e' e
theorem R_sep {α : Type} {d : Kd α} {e : Nat} {W w1 : World} {base : Nat} {ok : Nat → Prop} {v v' : Value} {ys : List α} (hE : d.E = []) (h : d.R e W base ok v' ys) (hg : W.grownBy w1 v.ownBlock) (hs : Sep v v') : d.R e w1 base ok v' ys :=
  Kd.R_grown2 h hE hg (fun k e1 e2 => hs k e1 e2.symm)
theorem R_other {α : Type} {d : Kd α} {e t : Nat} {W w1 : World} {base g : Nat} {ok : Nat → Prop} {v' : Value} {ys : List α} {cs : Array Value} (hE : d.E = []) (h : d.R e W base ok v' ys) (hg : W.grownBy w1 (some g)) (hb : W.heap[g]? = some (.cells cs t (0, 0))) (ht : e ≠ t) : d.R e w1 base ok v' ys :=
  Kd.R_grown2 h hE hg (fun k e1 e2 => by injection e1 with e1; subst e1; exact Kd.R_ne h hb ht e2)
theorem sep_new {W : World} {v v1 v' : Value} {α : Type} {d : Kd α} {e base : Nat} {ys : List α} (h : d.R e W base (fun _ => True) v' ys) (hs : Sep v v') (hv : v1.ownBlock = v.ownBlock ∨ ∃ b, v1.ownBlock = some b ∧ W.heap.size ≤ b) : Sep v1 v' := by
  intro k hk hk'
  rcases hv with e1 | ⟨b, e1, hb⟩
  · rw [e1] at hk; exact hs k hk hk'
  · rw [e1] at hk
    injection hk with hk
    have := (Kd.R_bound h).1 k hk'
    have := this.2.2.1
    omega
theorem sep_type {W : World} {v v' : Value} {α β : Type} {d : Kd α} {d' : Kd β} {e e' base base' : Nat} {ok ok' : Nat → Prop} {xs : List α} {ys : List β} (h : d.R e W base ok v xs) (h' : d'.R e' W base' ok' v' ys) (ht : e ≠ e') : Sep v v' := by
  intro k hk hk'
  obtain ⟨_, ho⟩ := Kd.R_own h
  obtain ⟨_, ho'⟩ := Kd.R_own h'
  obtain ⟨_, hc⟩ := own_typed ho k hk
  obtain ⟨_, hc'⟩ := own_typed ho' k hk'
  rw [hc] at hc'
  injection hc' with h1
  injection h1 with _ h2
  exact ht h2

def upd {β : Type} (f : Nat → β) (i : Nat) (x : β) : Nat → β := fun j => if j = i then x else f j
theorem upd_same {β : Type} (f : Nat → β) (i : Nat) (x : β) : upd f i x i = x := by unfold upd; rw [if_pos rfl]
theorem upd_ne {β : Type} (f : Nat → β) (i j : Nat) (x : β) (h : j ≠ i) : upd f i x j = f j := by unfold upd; rw [if_neg h]

/-- So many rows of bytes, no two of which share a block. -/
structure Rows8 (W : World) (base N : Nat) (vs : Nat → Value) (ls : Nat → List Int) : Prop where
  r : ∀ i, i < N → Kd.R (Kd.int .u8) 5 W base (fun _ => True) (vs i) (ls i)
  sep : ∀ i j, i < N → j < N → i ≠ j → Sep (vs i) (vs j)
theorem Rows8.below {W w1 : World} {base N : Nat} {vs : Nat → Value} {ls : Nat → List Int} (h : Rows8 W base N vs ls) (hb : Below W.heap.size W w1) : Rows8 w1 base N vs ls := ⟨fun i hi => Kd.R_below (h.r i hi) hb, h.sep⟩
theorem Rows8.app {W w1 : World} {base N : Nat} {vs : Nat → Value} {ls : Nat → List Int} (h : Rows8 W base N vs ls) (i : Nat) (hi : i < N) {v' : Value} {l' : List Int} (hr : Kd.R (Kd.int .u8) 5 w1 base (fun _ => True) v' l') (hg : W.grownBy w1 (vs i).ownBlock) (hv : v'.ownBlock = (vs i).ownBlock ∨ ∃ b, v'.ownBlock = some b ∧ W.heap.size ≤ b) : Rows8 w1 base N (upd vs i v') (upd ls i l') := by
  refine ⟨fun j hj => ?_, fun j j' hj hj' hne => ?_⟩
  · by_cases e : j = i
    · subst e; rw [upd_same, upd_same]; exact hr
    · rw [upd_ne _ _ _ _ e, upd_ne _ _ _ _ e]
      exact R_sep rfl (h.r j hj) hg (h.sep i j hi hj (fun e' => e e'.symm))
  · by_cases e : j = i
    · subst e
      rw [upd_same, upd_ne _ _ _ _ (fun e => hne e.symm)]
      exact sep_new (h.r j' hj') (h.sep j j' hj hj' hne) hv
    · rw [upd_ne _ _ _ _ e]
      by_cases e' : j' = i
      · subst e'
        rw [upd_same]
        exact (sep_new (h.r j hj) (h.sep j' j hj' hj (fun e => hne e.symm)) hv).symm
      · rw [upd_ne _ _ _ _ e']
        exact h.sep j j' hj hj' hne
theorem Rows8.write {W w1 : World} {base N : Nat} {vs : Nat → Value} {ls : Nat → List Int} (h : Rows8 W base N vs ls) (i : Nat) (hi : i < N) {l' : List Int} (hr : Kd.R (Kd.int .u8) 5 w1 base (fun _ => True) (vs i) l') (hg : W.grownBy w1 (vs i).ownBlock) : Rows8 w1 base N vs (upd ls i l') := by
  have := h.app i hi hr hg (.inl rfl)
  have e : upd vs i (vs i) = vs := by
    funext j
    unfold upd
    by_cases e : j = i
    · rw [if_pos e, e]
    · rw [if_neg e]
  rwa [e] at this
theorem Rows8.other {W w1 : World} {base N g t : Nat} {vs : Nat → Value} {ls : Nat → List Int} {cs : Array Value} (h : Rows8 W base N vs ls) (hg : W.grownBy w1 (some g)) (hb : W.heap[g]? = some (.cells cs t (0, 0))) (ht : 5 ≠ t) : Rows8 w1 base N vs ls := ⟨fun i hi => R_other rfl (h.r i hi) hg hb ht, h.sep⟩
theorem Rows8.sepd {W w1 : World} {base N : Nat} {vs : Nat → Value} {ls : Nat → List Int} (h : Rows8 W base N vs ls) {v : Value} (hg : W.grownBy w1 v.ownBlock) (hs : ∀ i, i < N → Sep v (vs i)) : Rows8 w1 base N vs ls := ⟨fun i hi => R_sep rfl (h.r i hi) hg (hs i hi), h.sep⟩

theorem C_keep8 {k : IntKind} {w w1 : World} {A : Option Addr} {n : Nat} {b : List Int} (h : Kd.C (Kd.int k) w A n b) (hk : ∀ ad, A = some ad → 0 < n → w1.heap[ad.block]? = w.heap[ad.block]?) : Kd.C (Kd.int k) w1 A n b := by
  obtain ⟨h1, h2, h3⟩ := h
  refine ⟨h1, h2, fun hn => ?_⟩
  obtain ⟨ad, rfl, h4⟩ := h3 hn
  refine ⟨ad, rfl, fun j p hj => ?_⟩
  obtain ⟨cs, h5, h6, h7⟩ := h4 j p hj
  refine ⟨cs, h5, h6, fun i u hu => ?_⟩
  have h8 := h7 i u hu
  have hb : (ad.add (j * (Kd.int k).sz + i)).block = ad.block := by unfold Addr.add; split <;> rfl
  unfold World.cell? at h8 ⊢
  rw [hb] at h8 ⊢
  rw [hk ad rfl hn]
  exact h8

/-- One byte appended: in place, or to a new block (and then nothing that was there turns). -/
theorem run_app8 {W : World} {base : Nat} {v : Value} {xs : List Int} {y : Int} {g1 : Nat} (ty : TypeId) (HO : Kd.R (Kd.int .u8) 5 W base (fun _ => True) v xs) (hy : W.cell? ⟨g1, 0, none⟩ = some (.int .u8 y)) (hb : xs.length + 1 ≤ 140737488355328) (hbase : base ≤ W.heap.size) :
    ∃ v' w', (Builtin.append_ #[30, 30] ty #[v, .slice (some ⟨g1, 0, none⟩) 1 1]).run Try.prog W = .ok v' w' ∧ Kd.R (Kd.int .u8) 5 w' base (fun _ => True) v' (xs ++ [y]) ∧ ((v'.ownBlock = v.ownBlock ∧ W.grownBy w' v.ownBlock) ∨ (∃ b, v'.ownBlock = some b ∧ W.heap.size ≤ b ∧ W.grownBy w' none)) := by
  obtain ⟨i, hi, hz⟩ := Option.map_eq_some_iff.1 info5
  simp only [Prod.mk.injEq] at hz
  obtain ⟨hz0, hz1, hz2⟩ := hz
  have hown := Kd.own_of_R HO
  have hnews : ∀ j u, ([Value.int .u8 y] : List Value)[j]? = some u → W.cell? ((⟨g1, 0, none⟩ : Addr).add j) = some u := by
    intro j u hu
    match j, hu with
    | 0, hu => cases hu; simpa [Addr.add] using hy
    | j + 1, hu => cases hu
  have hone : ∀ u ∈ ([Value.int .u8 y] : List Value), u.oneCell' = true := fun u hu => by rw [List.mem_singleton.1 hu]; rfl
  have hlen : (encs (Value.int .u8) xs ++ [Value.int .u8 y]).length = (xs.length + 1) * 1 := by rw [List.length_append, encs_length]; simp
  have fin : ∀ {v' w'}, w'.ownsRow base 5 1 v' (xs.length + 1) (encs (Value.int .u8) xs ++ [Value.int .u8 y]) → Kd.R (Kd.int .u8) 5 w' base (fun _ => True) v' (xs ++ [y]) := fun {v' w'} h => by
    refine Kd.R_of_own ?_ (fun _ _ => trivial)
    rw [List.length_append, List.length_singleton]
    have e : encs (Value.int .u8) (xs ++ [y]) = encs (Value.int .u8) xs ++ [Value.int .u8 y] := by simp [encs]
    rw [e]
    exact h
  rcases hown.2 with ⟨rfl, hn⟩ | ⟨g, cap, cur, rfl, hbg, hg, hnc, hcm, hcs, htake⟩
  · have hx : xs = [] := List.eq_nil_of_length_eq_zero hn
    subst hx
    have hr := run_append_nil (P := Try.prog) W 30 ty 5 i (.int .u8 0) Try.underlying30 hi hz0 ⟨g1, 0, none⟩ 1 1 [.int .u8 y] (by rw [hz1]; rfl) hnews (by omega) (by omega) (by rw [hz2]; omega)
    have hge := grownCap_ge W 1 0 5
    have hcm2 : grownCap W 1 0 5 ≤ maxLen := grownCap_le_maxLen W 1 0 5 (by simp only [maxLen]; omega)
    refine ⟨_, _, hr, fin ⟨hlen, .inr ⟨W.heap.size, _, _, rfl, hbase, heap_alloc_new W.drew _, hge, hcm2, ?_, ?_⟩⟩, .inr ⟨W.heap.size, rfl, Nat.le_refl _, rfl, rfl, rfl, by simp, fun k hk _ => Below.heap_alloc W.drew _ k hk⟩⟩
    · have hzs : (Value.int .u8 0).cells.size = 1 := rfl
      simp only [Array.size_append, List.size_toArray, size_zeroCells, hzs]
      simp
      omega
    · simp [encs]
  · by_cases hroom : xs.length + 1 ≤ cap
    · have hfit : xs.length * i.size + ([Value.int .u8 y] : List Value).length ≤ cur.size := by rw [hz1, hcs]; simp; omega
      have hr := run_append_room (P := Try.prog) W 30 ty 5 i Try.underlying30 hi g xs.length cap cur hg ⟨g1, 0, none⟩ 1 1 [.int .u8 y] (by rw [hz1]; rfl) hnews hone hroom hfit
      refine ⟨_, _, hr, fin ⟨hlen, .inr ⟨g, cap, _, rfl, hbg, setRow_heap W g cur _ 5 _ hg, hroom, hcm, ?_, ?_⟩⟩, .inl ⟨rfl, rfl, rfl, rfl, by simp, fun k _ hk => setRow_other W g k _ (fun e => hk (by simp [Value.ownBlock, e]))⟩⟩
      · rw [hz1] at hfit ⊢
        simp only [List.size_toArray, List.length_append, List.length_take, List.length_drop, Array.length_toList]
        omega
      · rw [hz1]
        have e3 : List.take (xs.length * 1) cur.toList = encs (Value.int .u8) xs := by rw [← htake]
        rw [e3, ← hlen]
        exact List.take_left
    · have holds : ∀ j u, (encs (Value.int .u8) xs)[j]? = some u → W.cell? ((⟨g, 0, none⟩ : Addr).add j) = some u := hown.cells (g := g) rfl
      have hr := run_append_grow (P := Try.prog) W 30 ty 5 i (.int .u8 0) Try.underlying30 hi hz0 ⟨g, 0, none⟩ xs.length cap (encs (Value.int .u8) xs) (by rw [encs_length, hz1, Nat.mul_one]) holds ⟨g1, 0, none⟩ 1 1 [.int .u8 y] (by rw [hz1]; rfl) hnews (by omega) (by omega) (by rw [hz2]; exact growslice_fits (by omega) (by omega))
      have hge := grownCap_ge W (xs.length + 1) cap 5
      have hcm2 : grownCap W (xs.length + 1) cap 5 ≤ maxLen := grownCap_le_maxLen W (xs.length + 1) cap 5 (by simp only [maxLen]; omega)
      refine ⟨_, _, hr, fin ⟨hlen, .inr ⟨W.heap.size, _, _, rfl, hbase, heap_alloc_new W.drew _, hge, hcm2, ?_, ?_⟩⟩, .inr ⟨W.heap.size, rfl, Nat.le_refl _, rfl, rfl, rfl, by simp, fun k hk _ => Below.heap_alloc W.drew _ k hk⟩⟩
      · have hzs : (Value.int .u8 0).cells.size = 1 := rfl
        simp only [Array.size_append, List.size_toArray, size_zeroCells, hzs, encs_length]
        simp
        omega
      · simp only [Array.toList_append, List.append_assoc]
        rw [← List.append_assoc, ← hlen]
        exact List.take_left
theorem wpList_app8 {ops : Array Oper} {rest : List Oper} {o : Oper} {a : Act} {Q : Exit → Act → World → Prop} {w0 W : World} (hgd : o.guard = none) (s x : Operand) (ho : o.op = .call { callee := .builtin .append, args := #[s, x], argTypes := #[30, 30] })
    {v : Value} {xs : List Int} {y : Int} {g1 : Nat} (hs : a.eval s = v) (hx : a.eval x = .slice (some ⟨g1, 0, none⟩) 1 1) (HO : Kd.R (Kd.int .u8) 5 W w0.heap.size (fun _ => True) v xs) (hy : W.cell? ⟨g1, 0, none⟩ = some (.int .u8 y)) (hb : xs.length + 1 ≤ 140737488355328) (HB : Below w0.heap.size w0 W)
    (h : ∀ v1 w1, Kd.R (Kd.int .u8) 5 w1 w0.heap.size (fun _ => True) v1 (xs ++ [y]) → ((v1.ownBlock = v.ownBlock ∧ W.grownBy w1 v.ownBlock) ∨ (∃ b, v1.ownBlock = some b ∧ W.heap.size ≤ b ∧ W.grownBy w1 none)) → Below w0.heap.size w0 w1 → wpList Try.prog ops Q rest (a.put o.dst v1) w1) : wpList Try.prog ops Q (o :: rest) a W := by
  obtain ⟨v', w', hr, hR, hg⟩ := run_app8 (ty := o.type) HO hy hb HB.size
  refine wpList_plain hgd fun K hK => ?_
  unfold Oper.wp execOp
  simp only [ho, resolve, invoke, builtin, Sem.run_bind, Sem.run_pure, Result.andThen_ok, List.map_toArray, List.map_cons, List.map_nil, hs, hx, hr]
  refine hK _ _ (h v' w' hR hg ?_)
  rcases hg with ⟨_, hg⟩ | ⟨_, _, _, hg⟩
  · exact HB.grown hg HB.size (fun k e => (R_lt8 HO k e).1)
  · exact HB.grown hg HB.size (fun k e => by cases e)
end Go.Proofs.Ytcfpiamdkdedlaa.DecodeC
