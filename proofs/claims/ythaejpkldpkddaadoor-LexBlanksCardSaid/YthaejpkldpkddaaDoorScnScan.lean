/- lex.Scan: the tokens, or the fault; by the deferred closure that recovers. -/
import Derived.Test.YthaejpkldpkddaaDoorScnAll
import Derived.Tactics
import Derived.Tactics2
import Derived.Defers
import Derived.Recover
import Derived.Laws.Pointers
import Derived.RegionTactic
namespace Go.Proofs.YthaejpkldpkddaaDoor.Scn
open Go.RowKit Go.Proofs.YthaejpkldpkddaaDoorW.PrintWords Go.Proofs.YthaejpkldpkddaaDoorW.PrintLast Go.Proofs.YthaejpkldpkddaaDoorW.PrintMore
set_option linter.unusedVariables false
set_option linter.unusedSimpArgs false
attribute [local go_sem] drewN_set drewN_new

set_option maxHeartbeats 2000000 in
set_option maxRecDepth 100000 in
theorem catch_fault (b1 b2 : Nat) (v1 v2 : Value) (p ec : Int) (w : World) (h1 : w.heap[b1]? = some (.cells #[v1] 24 (0, 0))) (h2 : w.heap[b2]? = some (.cells #[v2] 26 (0, 0))) :
    CallsD Tryd.prog 7 #[.pointer (some ⟨b1, 0, none⟩), .pointer (some ⟨b2, 0, none⟩)] (.panicking (faultAt p ec)) w fun e u' w' =>
      e = .returned (.tuple #[]) ∧ u' = .panicking [{ v := .iface 37 (.agg #[.int .i64 p, .int .i64 ec]), recovered := true }] ∧
      w'.heap[b1]? = some (.cells #[.slice none 0 0] 24 (0, 0)) ∧ w'.heap[b2]? = some (.cells #[.iface 37 (.agg #[.int .i64 p, .int .i64 ec])] 26 (0, 0)) ∧ (∀ B, B ≤ b1 → B ≤ b2 → B ≤ w.heap.size → Below B w w') := by
  have hne : b1 ≠ b2 := blk_ne h1 h2 (by decide)
  have c1 := blk_cell h1 0
  have c2 := blk_cell h2 0
  have f1 := blk_frozen h1 0
  have f2 := blk_frozen h2 0
  have z1 := blk_lt h1
  have z2 := blk_lt h2
  simp only [List.getElem?_toArray, List.getElem?_cons_zero] at c1 c2
  have H1 := Lib.hid h1
  have H2 := Lib.hid h2
  clear h1 h2
  unfold faultAt
  refine callsD_of_wpS Tryd.func7 rfl fun c₀ cs hu => ?_
  apply wpS_seq
  apply wpS_region
  simp [wpOpsS, go_sem, recoverD, hu, Tryd.ntmps7, Exit.thenS]
  have hta : ∀ (v : Value) (W : World), (Instr.typeAssert (.iface 37 v) 20 37 true).run Tryd.prog W = .ok (.tuple #[v, .bool true]) W := fun v W => by
    simp [Instr.typeAssert, go_sem]
  refine wpS_of_wp ?_
  simp only [show (Array.replicate 13 undef) = #[undef, undef, undef, undef, undef, undef, undef, undef, undef, undef, undef, undef, undef] from rfl, List.setIfInBounds_toArray, List.set_cons_zero, List.set_cons_succ, List.append_toArray, List.cons_append, List.nil_append]
  go_wp2
  go_region
  all_goals (try go_wp2)
  obtain ⟨O, hO⟩ : ∃ O, O = Obj.cells #[Value.int IntKind.i64 p, Value.int IntKind.i64 ec] 37 (0, 0) := ⟨_, rfl⟩
  have q1 : (((w.setCell ⟨b1, 0, none⟩ (.slice none 0 0)).setCell ⟨b2, 0, none⟩ (.iface 37 (.agg #[.int .i64 p, .int .i64 ec]))).alloc O).drew.heap[b1]? = some (.cells #[.slice none 0 0] 24 (0, 0)) := blk_alloc (blk_far (blk_put H1.out 0 _ rfl) hne _) _
  have q2 : (((w.setCell ⟨b1, 0, none⟩ (.slice none 0 0)).setCell ⟨b2, 0, none⟩ (.iface 37 (.agg #[.int .i64 p, .int .i64 ec]))).alloc O).drew.heap[b2]? = some (.cells #[.iface 37 (.agg #[.int .i64 p, .int .i64 ec])] 26 (0, 0)) := blk_alloc (blk_put (blk_far H2.out (Ne.symm hne) _) 0 _ rfl) _
  have q3 : ∀ B, B ≤ b1 → B ≤ b2 → B ≤ w.heap.size → Below B w (((w.setCell ⟨b1, 0, none⟩ (.slice none 0 0)).setCell ⟨b2, 0, none⟩ (.iface 37 (.agg #[.int .i64 p, .int .i64 ec]))).alloc O).drew := fun B hB1 hB2 hB3 =>
    by
    have h := ((Below.refl B w).setCell (p := ⟨b1, 0, none⟩) hB1 (.slice none 0 0)).setCell (p := ⟨b2, 0, none⟩) hB2 (.iface 37 (.agg #[.int .i64 p, .int .i64 ec]))
    exact below_drew (h.alloc (Nat.le_trans hB3 h.size) _)
  rw [← hO]
  obtain ⟨W', hW'⟩ : ∃ W', W' = (((w.setCell ⟨b1, 0, none⟩ (.slice none 0 0)).setCell ⟨b2, 0, none⟩ (.iface 37 (.agg #[.int .i64 p, .int .i64 ec]))).alloc O).drew := ⟨_, rfl⟩
  rw [← hW'] at q1 q2 q3 ⊢
  clear hW' hO
  exact ⟨rfl, _, rfl, .tuple #[], results_none rfl _ _ _, rfl, rfl, q1, q2, q3⟩
set_option maxRecDepth 100000 in
theorem catch_none (b1 b2 : Nat) (w : World) :
    CallsD Tryd.prog 7 #[.pointer (some ⟨b1, 0, none⟩), .pointer (some ⟨b2, 0, none⟩)] .returning w fun e u' w' => e = .returned (.tuple #[]) ∧ u' = .returning ∧ w' = w := by
  refine callsD_of_wpS Tryd.func7 rfl fun c₀ cs hu => ?_
  apply wpS_seq
  apply wpS_region
  simp [wpOpsS, go_sem, recoverD, hu, Tryd.ntmps7, Exit.thenS]
  refine wpS_of_wp ?_
  simp only [show (Array.replicate 13 undef) = #[undef, undef, undef, undef, undef, undef, undef, undef, undef, undef, undef, undef, undef] from rfl, List.setIfInBounds_toArray, List.set_cons_zero, List.set_cons_succ, List.append_toArray, List.cons_append, List.nil_append]
  go_wp2
  cases c₀
  simp_all [bodyPostS, results, Tryd.results23]
/-- What lex.Scan answers. -/
def ScanPost (r : Except (Nat × Int) (List Tok)) (w : World) (e : Ending) (w' : World) : Prop :=
  match r with
  | .ok l => ∃ A c, e = .returned (.tuple #[.slice A l.length c, .nilIface]) ∧ PLexBlanks.k31.R 31 w' w.heap.size (fun _ => True) (.slice A l.length c) l ∧ Below w.heap.size w w'
  | .error x => e = .returned (.tuple #[.slice none 0 0, .iface 37 (.agg #[.int .i64 (x.1 : Int), .int .i64 x.2])]) ∧ Below w.heap.size w w'

set_option maxHeartbeats 2000000 in
set_option maxRecDepth 100000 in
theorem scan_any (s : ByteArray) (w : World) : Calls Tryd.prog 5 #[.string s] w (ScanPost (scanV s) w) := by
  by_cases h : 65536 < s.size
  · have hv : scanV s = .error (0, 4) := by unfold scanV; rw [if_pos h]
    rw [hv]
    have hd : decide ((65536 : Int) < (s.size : Int)) = true := by simp; omega
    go_enter_defers Tryd.func5, Tryd.ntmps5
    go_wp2
    simp [Leaves, settle, bodyPostD, results, Tryd.results16, go_sem, ScanPost]
    exact below_alloc (below_alloc (Below.refl _ _) _) _
  · have hv : scanV s = scanF s (s.size + 1) (blankV s 0) [] := by unfold scanV; rw [if_neg h]
    have hd : decide ((65536 : Int) < (s.size : Int)) = false := by simp; omega
    have hmf : ∀ (fn : Fn) (first cap : Array Value) (w : World), (Instr.makeFunc fn first cap).run Tryd.prog w = .ok (.func fn first cap) w := fun _ _ _ _ => rfl
    obtain ⟨R, hR⟩ : ∃ R, R = scanV s := ⟨_, rfl⟩
    rw [← hR]
    rw [hv] at hR
    have HA := Lib.hid (fun g w0 W (h' : AllSt w0 W g s 0 []) => all_any g s w0 W (by omega) h' R hR)
    clear hv hR
    go_enter_defers Tryd.func5, Tryd.ntmps5
    obtain ⟨O1, hO1⟩ : ∃ O, O = Obj.cells #[Value.slice none 0 0] 24 (0, 0) := ⟨_, rfl⟩
    obtain ⟨O2, hO2⟩ : ∃ O, O = Obj.cells #[Value.nilIface] 26 (0, 0) := ⟨_, rfl⟩
    have k1 : ((w.alloc O1).alloc O2).heap[w.heap.size]? = some O1 := blk_alloc (blk_new w O1) O2
    have k2 : ((w.alloc O1).alloc O2).heap[w.heap.size + 1]? = some O2 := by
      have := blk_new (w.alloc O1) O2
      simpa using this
    have hw0 : ((w.alloc O1).alloc O2).heap.size = w.heap.size + 1 + 1 := by rw [World.size_alloc, World.size_alloc]
    have hbw : Below w.heap.size w ((w.alloc O1).alloc O2) := below_alloc (below_alloc (Below.refl _ _) O1) O2
    have St0 : AllSt ((w.alloc O1).alloc O2) (((w.alloc O1).alloc O2).alloc (.cells #[.string s, .int .i64 0, .slice none 0 0] 41)) (w.heap.size + 1 + 1) s 0 [] := by
      refine ⟨⟨⟨none, 0, 0⟩, ?_, rfl, ?_⟩, below_alloc (Below.refl _ _) _⟩
      · rw [← hw0]
        exact IsS41.new _ _ none 0 s 0 ⟨none, 0, 0⟩ (Below.refl _ _) ⟨rfl, rfl⟩
      · exact Kd.R_nil _ _ _ _ _
    have HS0 := Lib.hid St0
    have HK := Lib.hid (And.intro k1 (And.intro k2 (And.intro hw0 hbw)))
    clear k1 k2 hw0 hbw St0
    rw [hO1, hO2] at HS0 HK
    clear hO1 hO2
    cases R with
    | error x =>
      go_wp2_with (go_at_call 8; refine (HA.out _ _ _ HS0.out).mono ?_; rintro e w1 ⟨rfl, hb1⟩)
      obtain ⟨k1, k2, hw0, hbw⟩ := HK.out
      have e1 := (hb1.block _ (by omega)).trans k1
      have e2 := (hb1.block _ (by omega)).trans k2
      refine leaves_cons (f := 7) (args := #[.pointer (some ⟨w.heap.size, 0, none⟩), .pointer (some ⟨w.heap.size + 1, 0, none⟩)]) (by simp) (by simp [go_sem]) ?_
      refine (catch_fault _ _ _ _ x.1 x.2 w1 e1 e2).mono ?_
      rintro e u' w'' ⟨rfl, rfl, r1, r2, r3⟩
      have c1 := blk_cell r1 0
      have c2 := blk_cell r2 0
      simp only [List.getElem?_toArray, List.getElem?_cons_zero] at c1 c2
      have hsz := hb1.size
      have hfin : Below w.heap.size w w'' := (hbw.trans (hb1.mono (by omega))).trans (r3 w.heap.size (Nat.le_refl _) (by omega) (by omega))
      simp [Leaves, settle, results, Tryd.results16, go_sem, c1, c2, ScanPost]
      exact hfin
    | ok l =>
      go_wp2_with (go_at_call 8; refine (HA.out _ _ _ HS0.out).mono ?_; rintro e w1 ⟨rfl, ⟨p, St⟩⟩; obtain ⟨⟨tl, hI, htl, HO⟩, hb1⟩ := St; obtain ⟨A3, c3, hb3, hg3, rfl, rfl⟩ := hI; have k0 := cellS41_2 hb3; rw [htl] at k0 HO; have HO' := Lib.hid HO; have hlt := blk_lt hb3; clear hb3 HO; obtain ⟨k1, k2, hw0, hbw⟩ := HK.out; have e1 := (hb1.block _ (by omega)).trans k1; have e2 := (hb1.block _ (by omega)).trans k2; have c1 := blk_cell e1 0; have c2 := blk_cell e2 0; have f1 := blk_frozen e1 0; have f2 := blk_frozen e2 0; have z1 := blk_lt e1; have z2 := blk_lt e2; simp only [List.getElem?_toArray, List.getElem?_cons_zero] at c1 c2; have HE := Lib.hid (And.intro e1 (And.intro e2 (And.intro hb1 hbw))); clear k1 k2 hw0 hbw hb1 e1 e2)
      refine leaves_cons (f := 7) (args := #[.pointer (some ⟨w.heap.size, 0, none⟩), .pointer (some ⟨w.heap.size + 1, 0, none⟩)]) (by simp) (by simp [go_sem]) ?_
      refine (catch_none w.heap.size (w.heap.size + 1) _).mono ?_
      rintro e u' w'' ⟨rfl, rfl, rfl⟩
      obtain ⟨e1, e2, hb1, hbw⟩ := HE.out
      have hw0 := HK.out.2.2.1
      have r1 := blk_far (p := ⟨w.heap.size + 1, 0, none⟩) (blk_put e1 0 (.slice tl.A l.length tl.c) rfl) (show w.heap.size ≠ w.heap.size + 1 by omega) .nilIface
      have r2 := blk_put (blk_far (p := ⟨w.heap.size, 0, none⟩) e2 (show w.heap.size + 1 ≠ w.heap.size by omega) (.slice tl.A l.length tl.c)) 0 .nilIface rfl
      have d1 : ((w1.setCell ⟨w.heap.size, 0, none⟩ (.slice tl.A l.length tl.c)).setCell ⟨w.heap.size + 1, 0, none⟩ .nilIface).cell? ⟨w.heap.size, 0, none⟩ = some (.slice tl.A l.length tl.c) := blk_cell r1 0
      have d2 : ((w1.setCell ⟨w.heap.size, 0, none⟩ (.slice tl.A l.length tl.c)).setCell ⟨w.heap.size + 1, 0, none⟩ .nilIface).cell? ⟨w.heap.size + 1, 0, none⟩ = some .nilIface := blk_cell r2 0
      have hO2 := Kd.R_mono (ok' := fun k => k ≠ w.heap.size ∧ k ≠ w.heap.size + 1) (Kd.R_bound HO'.out) (fun k hk => by have := hk.2.1; omega)
      have hO3 := Kd.R_lower (Kd.R_mono (Kd.R_far (p := ⟨w.heap.size + 1, 0, none⟩) (Kd.R_far (p := ⟨w.heap.size, 0, none⟩) hO2 (fun k hk => hk.1) (.slice tl.A l.length tl.c)) (fun k hk => hk.2) .nilIface) (ok' := fun _ => True) (fun _ _ => trivial)) (base' := w.heap.size) (by omega)
      have hsz := hb1.size
      have hfin : Below w.heap.size w ((w1.setCell ⟨w.heap.size, 0, none⟩ (.slice tl.A l.length tl.c)).setCell ⟨w.heap.size + 1, 0, none⟩ .nilIface) :=
        (((hbw.trans (hb1.mono (by omega))).setCell (p := ⟨w.heap.size, 0, none⟩) (Nat.le_refl _) _).setCell (p := ⟨w.heap.size + 1, 0, none⟩) (Nat.le_succ _) _)
      obtain ⟨W', hW'⟩ : ∃ W', W' = (w1.setCell ⟨w.heap.size, 0, none⟩ (.slice tl.A l.length tl.c)).setCell ⟨w.heap.size + 1, 0, none⟩ .nilIface := ⟨_, rfl⟩
      rw [← hW'] at hfin hO3 d1 d2 ⊢
      clear hW' r1 r2 hO2
      simp [Leaves, settle, results, Tryd.results16, go_sem, d1, d2, ScanPost]
      exact ⟨tl.A, tl.c, ⟨rfl, rfl⟩, hO3, hfin⟩
end Go.Proofs.YthaejpkldpkddaaDoor.Scn
