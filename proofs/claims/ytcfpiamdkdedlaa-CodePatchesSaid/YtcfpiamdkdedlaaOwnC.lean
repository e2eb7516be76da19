/- provisoplain.Shelf.Own: its walk, over two rows. -/
import Derived.Test.YtcfpiamdkdedlaaOwnP
namespace Go.Proofs.Ytcfpiamdkdedlaa.DecodeC
open Go.RowKit Go.Proofs.YtcfpiamdkdedlaaW.PrintWords Go.Proofs.YtcfpiamdkdedlaaW.PrintLast Go.Proofs.YtcfpiamdkdedlaaW.PrintMore Go.Proofs.Ytcfpiamdkdedlaa.PCodePatches Go.Proofs.Ytcfpiamdkdedlaa.CloneC
set_option linter.unusedVariables false
set_option linter.unusedSimpArgs false
attribute [local go_sem] drewN_set drewN_new

theorem take_set_rep (l : List Int) (q : Nat) (m : Int) (h : l.take q = List.replicate q m) (hq : q < l.length) : (l.set q m).take (q + 1) = List.replicate (q + 1) m := by
  rw [List.take_succ_eq_append_getElem (by rw [List.length_set]; exact hq), List.take_set, List.getElem_set_self, List.set_eq_of_length_le (by rw [List.length_take]; omega), h, List.replicate_succ']

theorem C_oneV {W : World} {g : Nat} {t : TypeId} {x : Value} (h : W.heap[g]? = some (.cells #[x] t (0, 0))) (hx : x.oneCell' = true) : Kd.C kV W (some ⟨g, 0, none⟩) 1 [x] := by
  refine ⟨rfl, by omega, fun _ => ⟨_, rfl, fun j p hj => ?_⟩⟩
  match j, hj with
  | 0, hj =>
    cases hj
    refine ⟨[x], rfl, ⟨rfl, hx⟩, fun i u hu => ?_⟩
    match i, hu with
    | 0, hu => cases hu; exact blk_cell h 0
    | i + 1, hu => cases hu
  | j + 1, hj => cases hj
theorem OaSt.toC {w0 W : World} {gs gb cb : Nat} {Av : Nat → Option Addr} {nv cv : Nat → Nat} {va : Value} {ls : Nat → List Int} (h : OaSt w0 W gs gb cb Av nv cv va ls) (hl : ∀ j, j < 2 → ls j = List.replicate (nv j) (mkI j)) : OcSt w0 W gs gb cb Av nv cv (.slice none 0 0) 0 (vsF Av nv cv va) ls := by
  refine ⟨h.bs, h.rb, Kd.R_nil _ _ _ _ _, fun k hk => (by cases hk), h.rows, fun j hj => ?_, fun j hj k hk => ?_, fun j j' hj hj' hne => ?_, h.below⟩
  · have h0 := h.rows.r j (by omega)
    rw [vsF_lt hj, hl j hj] at h0
    have := (Kd.R_reads' h0).2.2
    rwa [List.length_replicate] at this
  · have h0 := h.rows.r j (by omega)
    rw [vsF_lt hj] at h0
    obtain ⟨_, ho⟩ := Kd.R_own h0
    exact own_typed ho k hk
  · have := h.rows.sep j j' hj (by omega) hne
    rwa [vsF_lt hj'] at this
theorem OaSt.form {w0 W : World} {gs gb cb : Nat} {Av : Nat → Option Addr} {nv cv : Nat → Nat} {va : Value} {ls : Nat → List Int} (h : OaSt w0 W gs gb cb Av nv cv va ls) (hl : ∀ j, j < 2 → (ls j).length = nv j) : ∀ j, j < 2 → 0 < nv j → ∃ g, Av j = some ⟨g, 0, none⟩ := by
  intro j hj hp
  have h0 := h.rows.r j (by omega)
  rw [vsF_lt hj] at h0
  obtain ⟨g, cap, eg, _⟩ := Kd.R_form h0 (by rw [hl j hj]; exact hp)
  injection eg with e1 e3 e2
  exact ⟨g, e1⟩
/-- What the third loop knows of the rows' lists. -/
structure ClSt (nv cv : Nat → Nat) (Av : Nat → Option Addr) (va : Value) (m2 : List Int) (i : Nat) (cur : Nat → Value) (cl : Nat → List Int) : Prop where
  ahead : ∀ j, i ≤ j → j < 2 → cur j = .slice (Av j) (nv j) (cv j) ∧ cl j = List.replicate (nv j) (mkI j)
  done : ∀ j, j < i → cl j = List.replicate (nv j + 80) (mkI j)
  last : cl 2 = m2 ∧ cur 2 = va
structure CiSt (nv cv : Nat → Nat) (Av : Nat → Option Addr) (va : Value) (m2 : List Int) (i t : Nat) (cur : Nat → Value) (cl : Nat → List Int) : Prop where
  ahead : ∀ j, i < j → j < 2 → cur j = .slice (Av j) (nv j) (cv j) ∧ cl j = List.replicate (nv j) (mkI j)
  done : ∀ j, j < i → cl j = List.replicate (nv j + 80) (mkI j)
  here : cl i = List.replicate (nv i + t) (mkI i)
  last : cl 2 = m2 ∧ cur 2 = va
theorem ClSt.start {nv cv : Nat → Nat} {Av : Nat → Option Addr} {va : Value} {m2 : List Int} {i : Nat} {cur : Nat → Value} {cl : Nat → List Int} (h : ClSt nv cv Av va m2 i cur cl) (hi : i < 2) : CiSt nv cv Av va m2 i 0 cur cl :=
  ⟨fun j h1 h2 => h.ahead j (by omega) h2, h.done, (h.ahead i (Nat.le_refl _) hi).2, h.last⟩
theorem CiSt.step {nv cv : Nat → Nat} {Av : Nat → Option Addr} {va : Value} {m2 : List Int} {i t : Nat} {cur : Nat → Value} {cl : Nat → List Int} (h : CiSt nv cv Av va m2 i t cur cl) (hi : i < 2) (v : Value) : CiSt nv cv Av va m2 i (t + 1) (upd cur i v) (upd cl i (cl i ++ [mkI i])) := by
  refine ⟨fun j h1 h2 => ?_, fun j h1 => ?_, ?_, ?_⟩
  · rw [upd_ne _ _ _ _ (by omega), upd_ne _ _ _ _ (by omega)]; exact h.ahead j h1 h2
  · rw [upd_ne _ _ _ _ (by omega)]; exact h.done j h1
  · rw [upd_same, h.here, ← List.replicate_succ', Nat.add_assoc]
  · rw [upd_ne _ _ _ _ (by omega), upd_ne _ _ _ _ (by omega)]; exact h.last
theorem CiSt.fin {nv cv : Nat → Nat} {Av : Nat → Option Addr} {va : Value} {m2 : List Int} {i : Nat} {cur : Nat → Value} {cl : Nat → List Int} (h : CiSt nv cv Av va m2 i 80 cur cl) : ClSt nv cv Av va m2 (i + 1) cur cl :=
  ⟨fun j h1 h2 => h.ahead j (by omega) h2, fun j h1 => by
    by_cases e : j = i
    · subst e; exact h.here
    · exact h.done j (by omega), h.last⟩
/-- The rows as the check asks for them. -/
theorem OcSt.toMk {w0 W : World} {gs gb cb : Nat} {Av : Nat → Option Addr} {nv cv : Nat → Nat} {vm va : Value} {m2 : List Int} {cur : Nat → Value} {cl : Nat → List Int} (h : OcSt w0 W gs gb cb Av nv cv vm 2 cur cl) (hc : ClSt nv cv Av va m2 2 cur cl) :
    ∃ gm cm, vm = .slice (some ⟨gm, 0, none⟩) 2 cm ∧ ∃ Ag cg, MkSt W gs gb gm cb cm Av Ag nv cv cg := by
  obtain ⟨gm, cm, e, _⟩ := Kd.R_form h.rm (by simp)
  have e2 : ((List.range 2).map cur).length = 2 := by simp
  rw [e2] at e
  have hj : ∀ j, ∃ (A : Option Addr) (c : Nat), j < 2 → cur j = .slice A (nv j + 80) c ∧ Kd.C (Kd.int .u8) W A (nv j + 80) (List.replicate (nv j + 80) (mkI j)) := by
    intro j
    by_cases hj : j < 2
    · have h0 := h.rows.r j (by omega)
      obtain ⟨A, c, e, _⟩ := Kd.R_reads h0
      rw [e] at h0
      have h1 := (Kd.R_reads' h0).2.2
      rw [hc.done j hj] at e h1
      rw [List.length_replicate] at e h1
      exact ⟨A, c, fun _ => ⟨e, h1⟩⟩
    · exact ⟨none, 0, fun h => absurd h hj⟩
  refine ⟨gm, cm, e, fun j => (hj j).choose, fun j => (hj j).choose_spec.choose, blk_cell h.bs 0, blk_cell h.bs 1, h.cell, ?_, h.rv, ?_⟩
  · intro j hlt
    have hrm := h.rm
    rw [e] at hrm
    have hv := V_cell hrm
    have e3 := ((hj j).choose_spec.choose_spec hlt).1
    rw [← e3]
    match j, hlt with
    | 0, _ => exact hv.1
    | 1, _ => exact hv.2
  · intro j hlt
    exact ((hj j).choose_spec.choose_spec hlt).2

set_option maxHeartbeats 16000000 in
set_option maxRecDepth 100000 in
theorem own_c (w0 : World) (gs gb cb : Nat) (Av : Nat → Option Addr) (nv cv : Nat → Nat) (va : Value) (ls : Nat → List Int) (hn : ∀ j, nv j ≤ 4096) (hls : ∀ j, j < 2 → (ls j).length = nv j) (w : World) (h : OaSt w0 w gs gb cb Av nv cv va ls) :
    Calls Try.prog 37 #[.pointer (some ⟨gs, 0, none⟩)] w fun e w' => e = .returned (.bool true) ∧ Kd.R (Kd.int .u8) 5 w' w0.heap.size (fun _ => True) va (ls 2) ∧ Below w0.heap.size w0 w' := by
  have St0 := Lib.hid h
  have HN := Lib.hid hn
  obtain ⟨m2, hm2⟩ : ∃ m2, m2 = ls 2 := ⟨_, rfl⟩
  have HM2 := Lib.hid hm2
  have HLs := Lib.hid hls
  rw [← hm2]
  clear h hn hls hm2
  have c0 := blk_cell St0.out.bs 0
  simp only [List.getElem?_toArray, List.getElem?_cons_zero, List.getElem?_cons_succ] at c0
  go_enter Try.func37, Try.ntmps37
  go_wp2
  clear c0
  go_loopg [22] 3 (fun k v22 W => ∃ (i : Nat) (ls : Nat → List Int), v22 = .int .i64 (i : Int) ∧ i + k = 3 ∧ i ≤ 2 ∧ Hid (∀ j, j < 2 → (ls j).length = nv j ∧ (j < i → ls j = List.replicate (nv j) (mkI j))) ∧ Hid (ls 2 = m2) ∧ Hid (OaSt w0 W gs gb cb Av nv cv va ls))
  case atStart => exact ⟨0, ls, rfl, by omega, by omega, Lib.hid (fun j hj => ⟨HLs.out j hj, fun h => absurd h (Nat.not_lt_zero _)⟩), Lib.hid HM2.out.symm, St0⟩
  case round =>
    obtain ⟨i, ls, rfl, hi, hil, HL, H2, St⟩ := hrel
    clear St0 HLs HM2
    by_cases hlt : i < 2
    · have d1 : decide ((i : Int) < 2) = true := decide_eq_true (by omega)
      have vb := St.out.cell i hlt
      obtain ⟨n, hnn⟩ : ∃ n, n = nv i := ⟨_, rfl⟩
      have hn4 : n ≤ 4096 := by rw [hnn]; exact HN.out i
      obtain ⟨m, hm⟩ : ∃ m, m = mkI i := ⟨_, rfl⟩
      have hm1 : 0 ≤ m ∧ m ≤ 255 := by rw [hm]; unfold mkI; omega
      have HM := Lib.hid (fun W => mark_c i hlt W)
      rw [← hm] at HM
      obtain ⟨A0, hA0⟩ : ∃ A0, A0 = Av i := ⟨_, rfl⟩
      obtain ⟨c0, hc0⟩ : ∃ c0, c0 = cv i := ⟨_, rfl⟩
      rw [← hA0, ← hc0, ← hnn] at vb
      have HEq : Hid (n = nv i ∧ m = mkI i ∧ A0 = Av i ∧ c0 = cv i) := Lib.hid ⟨hnn, hm, hA0, hc0⟩
      obtain ⟨K1, rfl⟩ : ∃ k, gk = k + 1 := ⟨gk - 1, by omega⟩
      obtain ⟨wo, hwo⟩ : ∃ wo : World, wo = wr := ⟨_, rfl⟩
      clear hnn hm hA0 hc0
      go_wp2
      subst hwo
      clear vb
      go_loopg [29] (n + 1) (fun k v29 W => ∃ (q : Nat) (ls : Nat → List Int), v29 = .int .i64 (q : Int) ∧ q + k = n + 1 ∧ q ≤ n ∧ Hid ((∀ j, j < 2 → (ls j).length = nv j ∧ (j < i → ls j = List.replicate (nv j) (mkI j))) ∧ (ls i).take q = List.replicate q m) ∧ Hid (ls 2 = m2) ∧ Hid (OaSt w0 W gs gb cb Av nv cv va ls))
      case atStart => exact ⟨0, ls, rfl, by omega, by omega, Lib.hid ⟨HL.out, rfl⟩, H2, St⟩
      case round =>
        obtain ⟨q, ls, rfl, hq, hqn, HL1, H21, St1⟩ := hrel
        clear HL H2 St
        by_cases hqlt : q < n
        · have d2 : decide ((q : Int) < (n : Int)) = true := decide_eq_true (by omega)
          have hr0 := St1.out.rows.r i (by omega)
          rw [vsF_lt hlt, ← HEq.out.1, ← HEq.out.2.2.1, ← HEq.out.2.2.2] at hr0
          have hll := (HL1.out.1 i hlt).1
          rw [← HEq.out.1] at hll
          obtain ⟨g, cap, eg, _, _, _⟩ := Kd.R_form hr0 (by omega)
          injection eg with e1 e3 e2
          subst e1
          have HR0 := Lib.hid hr0
          have HLL := Lib.hid hll
          clear e2 e3 hr0 hll
          obtain ⟨K2, rfl⟩ : ∃ k, gk = k + 1 := ⟨gk - 1, by omega⟩
          go_wp2_with (first | (go_at_call 48; refine (HM.out _).mono ?_; rintro e w2 ⟨rfl, ⟨⟨n2, rfl⟩⟩⟩) | ((with_reducible refine gate_store (t := 5) (p := 37) rfl ?_); refine store8 (w0 := w0) (.tmp 37) (.tmp 36) rfl rfl rfl (g := g) (cap := c0) (j := q) HLL.out rfl rfl (Kd.R_drewN HR0.out n2) hqlt (pw_below_drewN St1.out.below n2) ?_; intro W6 hr6 hb6 hg6; have HR6 := Lib.hid hr6; have HB6 := Lib.hid hb6; have HG6 := Lib.hid hg6; clear hr6 hb6 hg6))
          have hS : OaSt w0 W6 gs gb cb Av nv cv va (upd ls i ((ls i).set q m)) := (St1.out.next (pw_below_drewN (Below.refl _ _) n2)).write i hlt (by rw [← HEq.out.1, ← HEq.out.2.2.1, ← HEq.out.2.2.2]; exact HR6.out) (by rw [← HEq.out.1, ← HEq.out.2.2.1, ← HEq.out.2.2.2]; exact HG6.out) HB6.out
          have HS := Lib.hid hS
          clear hS
          go_roundg K2
          case measure => omega
          case rel =>
            refine ⟨q + 1, upd ls i ((ls i).set q m), by simp, by omega, by omega, Lib.hid ⟨fun j hj => ?_, ?_⟩, Lib.hid ?_, HS⟩
            · by_cases e : j = i
              · subst e
                rw [upd_same, List.length_set]
                exact ⟨(HL1.out.1 j hj).1, fun h => absurd h (Nat.lt_irrefl _)⟩
              · rw [upd_ne _ _ _ _ e]
                exact HL1.out.1 j hj
            · rw [upd_same]
              exact take_set_rep _ _ _ HL1.out.2 (by rw [HLL.out]; exact hqlt)
            · rw [upd_ne _ _ _ _ (by omega)]
              exact H21.out
        · have d2 : decide ((q : Int) < (n : Int)) = false := decide_eq_false (by omega)
          go_wp2
          go_roundg K1
          case measure => omega
          case rel =>
            refine ⟨i + 1, ls, by simp, by omega, by omega, Lib.hid (fun j hj => ⟨(HL1.out.1 j hj).1, fun h => ?_⟩), H21, St1⟩
            by_cases e : j = i
            · subst e
              have h1 := HL1.out.2
              have h2 := (HL1.out.1 j hj).1
              rw [← HEq.out.1] at h2 ⊢
              rw [← HEq.out.2.1]
              have : q = n := by omega
              rw [this, List.take_of_length_le (by omega)] at h1
              exact h1
            · exact (HL1.out.1 j hj).2 (by omega)
    · have d1 : decide ((i : Int) < 2) = false := decide_eq_false (by omega)
      have c1 := blk_cell St.out.bs 1
      simp only [List.getElem?_toArray, List.getElem?_cons_zero, List.getElem?_cons_succ] at c1
      obtain ⟨wo, hwo⟩ : ∃ wo : World, wo = wr := ⟨_, rfl⟩
      have ei : i = 2 := by omega
      have HEi := Lib.hid ei
      clear ei
      go_wp2
      subst hwo
      clear c1
      go_loopg [45] 1 (fun k v45 W => v45 = .int .i64 0 ∧ k = 1 ∧ W = wo)
      case atStart => exact ⟨rfl, rfl, rfl⟩
      case round =>
        obtain ⟨rfl, _, rfl⟩ := hrel
        have c0 := blk_cell St.out.bs 0
        simp only [List.getElem?_toArray, List.getElem?_cons_zero, List.getElem?_cons_succ] at c0
        go_wp2
        clear c0
        have HFm := Lib.hid (St.out.form (fun j hj => (HL.out j hj).1))
        have HCl0 : Hid (ClSt nv cv Av va m2 0 (vsF Av nv cv va) ls) := Lib.hid ⟨fun j _ hj => ⟨vsF_lt hj, (HL.out j hj).2 (by have := HEi.out; omega)⟩, fun j hj => absurd hj (Nat.not_lt_zero _), H2.out, vsF_two⟩
        have HC0 := Lib.hid (St.out.toC (fun j hj => (HL.out j hj).2 (by have := HEi.out; omega)))
        clear St HL H2
        go_loopg [9, 67] 3 (fun k v9 v67 W => ∃ (p : Nat) (cur : Nat → Value) (cl : Nat → List Int), v67 = .int .i64 (p : Int) ∧ p + k = 3 ∧ p ≤ 2 ∧ Hid (ClSt nv cv Av va m2 p cur cl) ∧ Hid (OcSt w0 W gs gb cb Av nv cv v9 p cur cl))
        case atStart => exact ⟨0, _, _, rfl, by omega, by omega, HCl0, HC0⟩
        case round =>
          obtain ⟨p, cur, cl, rfl, hp, hpl, HCl, HC⟩ := hrel
          clear HCl0 HC0
          by_cases hplt : p < 2
          · have d3 : decide ((p : Int) < 2) = true := decide_eq_true (by omega)
            have vb := HC.out.cell p hplt
            obtain ⟨n, hnn⟩ : ∃ n, n = nv p := ⟨_, rfl⟩
            have hn4 : n ≤ 4096 := by rw [hnn]; exact HN.out p
            obtain ⟨m, hm⟩ : ∃ m, m = mkI p := ⟨_, rfl⟩
            have hm1 : 0 ≤ m ∧ m ≤ 255 := by rw [hm]; unfold mkI; omega
            have HM := Lib.hid (fun W => mark_c p hplt W)
            rw [← hm] at HM
            obtain ⟨A0, hA0⟩ : ∃ A0, A0 = Av p := ⟨_, rfl⟩
            obtain ⟨c0, hc0⟩ : ∃ c0, c0 = cv p := ⟨_, rfl⟩
            rw [← hA0, ← hc0, ← hnn] at vb
            have HEq : Hid (n = nv p ∧ m = mkI p ∧ A0 = Av p ∧ c0 = cv p) := Lib.hid ⟨hnn, hm, hA0, hc0⟩
            obtain ⟨K1, rfl⟩ : ∃ k, gk = k + 1 := ⟨gk - 1, by omega⟩
            obtain ⟨wo2, hwo2⟩ : ∃ wo : World, wo = wr := ⟨_, rfl⟩
            clear hnn hm hA0 hc0
            go_wp2
            subst hwo2
            clear vb
            go_loopg [13, 73] 81 (fun k v13 v73 W => ∃ (t : Nat) (cur : Nat → Value) (cl : Nat → List Int), v73 = .int .i64 (t : Int) ∧ t + k = 81 ∧ t ≤ 80 ∧ Hid (v13 = cur p ∧ CiSt nv cv Av va m2 p t cur cl) ∧ Hid (OcSt w0 W gs gb cb Av nv cv u9 p cur cl))
            case atStart => exact ⟨0, cur, cl, rfl, by omega, by omega, Lib.hid ⟨by rw [HEq.out.1, HEq.out.2.2.1, HEq.out.2.2.2]; exact (HCl.out.ahead p (Nat.le_refl _) hplt).1.symm, HCl.out.start hplt⟩, HC⟩
            case round =>
              obtain ⟨t, cur, cl, rfl, ht, htl, HI, HO⟩ := hrel
              clear HCl HC
              by_cases htlt : t < 80
              · have d4 : decide ((t : Int) < 80) = true := decide_eq_true (by omega)
                obtain ⟨K2, rfl⟩ : ∃ k, gk = k + 1 := ⟨gk - 1, by omega⟩
                have hRow := HO.out.rows.r p (by omega)
                rw [← HI.out.1] at hRow
                have HRow := Lib.hid hRow
                clear hRow
                have HLen : Hid ((cl p).length = n + t) := Lib.hid (by rw [HI.out.2.here, List.length_replicate, HEq.out.1])
                go_wp2_with (first | (go_at_call 48; refine (HM.out _).mono ?_; rintro e w2 ⟨rfl, ⟨⟨n2, rfl⟩⟩⟩) | ((with_reducible refine gate_dst (N := 80) rfl ?_); refine wpList_app8 (w0 := w0) rfl (.tmp 75) (.tmp 79) rfl (v := u13) (xs := cl p) (y := m) (g1 := (wr.drewN n2).heap.size) rfl rfl (Kd.R_alloc (Kd.R_drewN HRow.out n2) _) (blk_cell (blk_new (wr.drewN n2) _) 0) (by rw [HLen.out]; omega) ((pw_below_drewN HO.out.below n2).alloc (by have := HO.out.below.size; exact this) _) ?_; intro v7 W7 hr7 hg7 hb7; have HR7 := Lib.hid hr7; have HG7 := Lib.hid hg7; have HB7 := Lib.hid hb7; clear hr7 hg7 hb7))
                have HO7 : Hid (OcSt w0 W7 gs gb cb Av nv cv u9 p (upd cur p v7) (upd cl p (cl p ++ [mkI p]))) := by
                  refine Lib.hid (OcSt.app HFm.out (HO.out.next (below_alloc (pw_below_drewN (Below.refl _ _) n2) (.cells #[.int .u8 m] 5))) hplt ?_ ?_ ?_ ?_ HB7.out)
                  · rw [HI.out.2.here, List.take_replicate, Nat.min_eq_left (by omega)]
                  · rw [HLen.out, HEq.out.1]; omega
                  · rw [← HEq.out.2.1]; exact HR7.out
                  · rw [← HI.out.1]; exact HG7.out
                go_roundg K2
                case measure => omega
                case rel => exact ⟨t + 1, upd cur p v7, upd cl p (cl p ++ [mkI p]), by simp, by omega, by omega, Lib.hid ⟨(upd_same _ _ _).symm, HI.out.2.step hplt v7⟩, HO7⟩
              · have d4 : decide ((t : Int) < 80) = false := decide_eq_false (by omega)
                have et : t = 80 := by omega
                have HCl2 : Hid (ClSt nv cv Av va m2 (p + 1) cur cl) := Lib.hid (by have h := HI.out.2; rw [et] at h; exact h.fin)
                have hv : ∃ A1 n1 c1, u13 = .slice A1 n1 c1 := by
                  have hRow := HO.out.rows.r p (by omega)
                  rw [← HI.out.1] at hRow
                  obtain ⟨A1, c1, e, _⟩ := Kd.R_reads hRow
                  exact ⟨A1, _, c1, e⟩
                obtain ⟨A1, n1, c1, rfl⟩ := hv
                clear et
                go_wp2_with ((with_reducible refine gate_dst (N := 85) rfl ?_); at_builtin; refine Kd.R_append_rows kV (w0 := w0) w0.heap.size rfl (.tmp 82) (.tmp 84) 54 30 (.slice none 0 0) 24 rfl Try.underlying54 info30 rfl (by decide) (by omega) u9 ((List.range p).map cur) [.slice A1 n1 c1] (some ⟨wr.heap.size, 0, none⟩) 1 1 (fun _ => True) (fun _ => False) rfl rfl (Kd.R_alloc HO.out.rm _) (C_oneV (blk_new wr _) rfl) (fun _ _ h => h) (fun _ h => h.elim) (fun _ _ => trivial) (HO.out.below.alloc HO.out.below.size _) (by have := HO.out.below.size; rw [World.size_alloc]; omega) (by simp; omega) ?_; intro v7 W7 hr7 hb7 hg7 hv7; have HR7 := Lib.hid hr7; have HB7 := Lib.hid hb7; have HG7 := Lib.hid hg7; have HV7 := Lib.hid hv7; clear hr7 hb7 hg7 hv7)
                have HO7 : Hid (OcSt w0 W7 gs gb cb Av nv cv v7 (p + 1) cur cl) := by
                  refine Lib.hid (OcSt.push (HO.out.next (below_alloc (Below.refl _ _) (.cells #[.slice A1 n1 c1] 30))) ?_ HG7.out HV7.out HB7.out)
                  rw [← HI.out.1]; exact HR7.out
                go_roundg K1
                case measure => omega
                case rel => exact ⟨p + 1, cur, cl, by simp, by omega, by omega, HCl2, HO7⟩
          · have d3 : decide ((p : Int) < 2) = false := decide_eq_false (by omega)
            have ep : p = 2 := by omega
            have HEp := Lib.hid ep
            have hC := HC.out
            have hL := HCl.out
            rw [ep] at hC hL
            obtain ⟨gm, cm, rfl, Ag, cg, hmk⟩ := hC.toMk hL
            clear hC hL
            have HMk := Lib.hid hmk
            clear hmk ep
            have c1 := blk_cell HC.out.bs 1
            simp only [List.getElem?_toArray, List.getElem?_cons_zero, List.getElem?_cons_succ] at c1
            obtain ⟨wo2, hwo2⟩ : ∃ wo : World, wo = wr := ⟨_, rfl⟩
            go_wp2
            subst hwo2
            clear c1
            go_loopg [10, 92] 1 (fun k v10 v92 W => v10 = .slice none 0 0 ∧ v92 = .int .i64 0 ∧ k = 1 ∧ W = wo2)
            case atStart => exact ⟨rfl, rfl, rfl, rfl⟩
            case round =>
              obtain ⟨rfl, rfl, ek1, rfl⟩ := hrel
              clear ek1
              have HCall := Lib.hid (marked_c gs gb gm cb cm Av Ag nv cv cg HN.out _ HMk.out)
              go_wp2_with (go_at_call 49; refine HCall.out.mono ?_; rintro e w9 ⟨rfl, hb9⟩; have HB9 := Lib.hid hb9; clear hb9)
              go_ret
              have hr := HC.out.rows.r 2 (by omega)
              rw [HCl.out.last.1, HCl.out.last.2] at hr
              exact ⟨rfl, Kd.R_below hr HB9.out, below_then HC.out.below HC.out.below.size HB9.out⟩
end Go.Proofs.Ytcfpiamdkdedlaa.DecodeC
