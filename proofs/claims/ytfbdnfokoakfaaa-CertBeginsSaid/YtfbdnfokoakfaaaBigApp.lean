/- An append of bytes that is a little longer than what the kit's law bears. -/
import Derived.Test.YtfbdnfokoakfaaaReadsP
namespace Go.Proofs.Ytfbdnfokoakfaaa.Ct
open Go.RowKit Go.Proofs.YtfbdnfokoakfaaaW.PrintWords Go.Proofs.YtfbdnfokoakfaaaW.PrintLast Go.Proofs.YtfbdnfokoakfaaaW.PrintMore
set_option linter.unusedVariables false
set_option linter.unusedSimpArgs false

theorem growBy_le (need : Nat) : ∀ (r c : Nat), c ≤ need + (need + 768) / 4 → Builtin.growBy need r c ≤ need + (need + 768) / 4
  | 0, c, h => by rw [Builtin.growBy]; exact h
  | r + 1, c, h => by
    rw [Builtin.growBy]
    by_cases e : c ≥ need
    · rw [if_pos e]; exact h
    · rw [if_neg e]
      exact growBy_le need r _ (by omega)
theorem fits_big {need old : Nat} (h : old < need) (hb : need ≤ 140737488600000) : Builtin.nextslicecap need old * 1 ≤ 281474976710656 := by
  unfold Builtin.nextslicecap
  by_cases c1 : need > 2 * old
  · rw [if_pos c1]; omega
  rw [if_neg c1]
  by_cases c2 : old < 256
  · rw [if_pos c2]; omega
  rw [if_neg c2]
  have := growBy_le need 4 old (by omega)
  omega
theorem run_big {W : World} {base g n cap m c : Nat} {ad : Addr} {xs news : List Value} (ty : TypeId) (hown : W.ownsRow base 5 1 (.slice (some ⟨g, 0, none⟩) n cap) n xs) (hl : news.length = m) (hnews : ∀ j u, news[j]? = some u → W.cell? (ad.add j) = some u) (h1 : ∀ u ∈ news, u.oneCell' = true) (hb : n + m ≤ 140737488600000) (hbase : base ≤ W.heap.size) :
    ∃ v' w', (Builtin.append_ #[31, 31] ty #[.slice (some ⟨g, 0, none⟩) n cap, .slice (some ad) m c]).run Try.prog W = .ok v' w' ∧ w'.ownsRow base 5 1 v' (n + m) (xs ++ news) ∧ W.grownBy w' (some g) := by
  obtain ⟨i, hi, hz⟩ := Option.map_eq_some_iff.1 info5
  simp only [Prod.mk.injEq] at hz
  obtain ⟨hz0, hz1, hz2⟩ := hz
  have hlen : (xs ++ news).length = (n + m) * 1 := by rw [List.length_append, hown.1, hl]; omega
  rcases hown.2 with ⟨e, _⟩ | ⟨g', cap', cur, e, hbg, hg, hnc, hcm, hcs, htake⟩
  · cases e
  · injection e with e1 _ e2
    injection e1 with e1
    injection e1 with e1
    subst e1 e2
    by_cases hroom : n + m ≤ cap
    · have hfit : n * i.size + news.length ≤ cur.size := by rw [hz1, hl, hcs]; omega
      have hr := run_append_room (P := Try.prog) W 31 ty 5 i Try.underlying31 hi g n cap cur hg ad m c news (by rw [hl, hz1]; omega) hnews h1 hroom hfit
      refine ⟨_, _, hr, ⟨hlen, .inr ⟨g, cap, _, rfl, hbg, setRow_heap W g cur _ 5 _ hg, hroom, hcm, ?_, ?_⟩⟩, ⟨rfl, rfl, rfl, by simp, fun k _ hk => setRow_other W g k _ (fun e => hk (by simp [e]))⟩⟩
      · rw [hz1] at hfit ⊢
        simp only [List.size_toArray, List.length_append, List.length_take, List.length_drop, Array.length_toList]
        omega
      · rw [hz1]
        have e3 : List.take (n * 1) cur.toList = xs := by rw [← htake]
        rw [e3, ← hlen]
        exact List.take_left
    · have holds : ∀ j u, xs[j]? = some u → W.cell? ((⟨g, 0, none⟩ : Addr).add j) = some u := hown.cells (g := g) rfl
      have hr := run_append_grow (P := Try.prog) W 31 ty 5 i (.int .u8 0) Try.underlying31 hi hz0 ⟨g, 0, none⟩ n cap xs (by rw [hown.1, hz1]) holds ad m c news (by rw [hl, hz1]; omega) hnews (by omega) (by omega) (by rw [hz2]; exact fits_big (by omega) hb)
      have hge := grownCap_ge W (n + m) cap 5
      have hcm2 : grownCap W (n + m) cap 5 ≤ maxLen := grownCap_le_maxLen W (n + m) cap 5 (by simp only [maxLen]; omega)
      refine ⟨_, _, hr, ⟨hlen, .inr ⟨W.heap.size, _, _, rfl, hbase, heap_alloc_new W.drew _, hge, hcm2, ?_, ?_⟩⟩, ⟨rfl, rfl, rfl, by simp, fun k hk _ => Below.heap_alloc W.drew _ k hk⟩⟩
      · have hzs : (Value.int .u8 0).cells.size = 1 := rfl
        simp only [Array.size_append, List.size_toArray, size_zeroCells, hzs, hown.1, hl]
        omega
      · simp only [Array.toList_append, List.append_assoc]
        rw [← List.append_assoc, ← hlen]
        exact List.take_left
theorem wpList_big {ops : Array Oper} {rest : List Oper} {o : Oper} {a : Act} {Q : Exit → Act → World → Prop} {W : World} (hgd : o.guard = none) (s x : Operand) (ho : o.op = .call { callee := .builtin .append, args := #[s, x], argTypes := #[31, 31] })
    {base c m : Nat} {v : Value} {A : Option Addr} {xs ys : List Int} (hs : a.eval s = v) (hx : a.eval x = .slice A m c) (hne : 0 < xs.length) (hm : 0 < m)
    (HO : Kd.R (Kd.int .u8) 5 W base (fun _ => True) v xs) (HR : Kd.C (Kd.int .u8) W A m ys) (hb : xs.length + m ≤ 140737488600000) (hbase : base ≤ W.heap.size)
    (h : ∀ v1 w1, Kd.R (Kd.int .u8) 5 w1 base (fun _ => True) v1 (xs ++ ys) → W.grownBy w1 v.ownBlock → wpList Try.prog ops Q rest (a.put o.dst v1) w1) : wpList Try.prog ops Q (o :: rest) a W := by
  obtain ⟨g, cap, rfl, _, _, _⟩ := Kd.R_form HO hne
  obtain ⟨hyl, _, h3⟩ := HR
  obtain ⟨ad, rfl, h4⟩ := h3 hm
  have hown := Kd.own_of_R HO
  have hnews : ∀ j u, (nums .u8 ys)[j]? = some u → W.cell? (ad.add j) = some u := by
    intro j u hj
    unfold nums at hj
    rw [List.getElem?_map] at hj
    obtain ⟨p, hp, rfl⟩ := Option.map_eq_some_iff.1 hj
    obtain ⟨cs, h5, h6, h7⟩ := h4 j p hp
    have h6' : cs = [.int .u8 p] := h6
    subst h6'
    have := h7 0 _ rfl
    have e : j * (Kd.int .u8).sz + 0 = j := Nat.mul_one j
    rwa [e] at this
  obtain ⟨v', w', hr, ho', hg⟩ := run_big (ty := o.type) (c := c) hown (news := nums .u8 ys) (by simp [nums]; exact hyl) hnews (fun u hu => by simp only [nums, List.mem_map] at hu; obtain ⟨p, _, rfl⟩ := hu; rfl) hb hbase
  refine wpList_plain hgd fun K hK => ?_
  unfold Oper.wp execOp
  simp only [ho, resolve, invoke, builtin, Sem.run_bind, Sem.run_pure, Result.andThen_ok, List.map_toArray, List.map_cons, List.map_nil, hs, hx, hr]
  refine hK _ _ (h v' w' (Kd.R_of_own ?_ (fun _ _ => trivial)) hg)
  have e1 : (xs ++ ys).length = xs.length + m := by rw [List.length_append, hyl]
  rw [e1]
  have e2 : encs (Value.int .u8) (xs ++ ys) = encs (Value.int .u8) xs ++ nums .u8 ys := by simp [encs, nums]
  rw [e2]
  exact ho'
end Go.Proofs.Ytfbdnfokoakfaaa.Ct
