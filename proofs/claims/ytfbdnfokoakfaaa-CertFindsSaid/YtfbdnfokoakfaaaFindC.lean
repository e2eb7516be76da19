/- Find, and the reference's At and Find: their walks. -/
import Derived.Test.YtfbdnfokoakfaaaDecodeC
namespace Go.Proofs.Ytfbdnfokoakfaaa.Ct
open Go.RowKit Go.Proofs.YtfbdnfokoakfaaaW.PrintWords Go.Proofs.YtfbdnfokoakfaaaW.PrintLast Go.Proofs.YtfbdnfokoakfaaaW.PrintMore
set_option linter.unusedVariables false
set_option linter.unusedSimpArgs false

/-- The entry of an address. -/
def findE (l : List En) (a : Int) : En × Bool := match l.find? (fun x => x.at_ == a) with
  | some x => (x, true)
  | none => (en0, false)
def findR (b : List Int) (a : Int) : En × Bool × Int := if (toldS b).2.2.2 = 0 then ((findE (decE b) a).1, (findE (decE b) a).2, 0) else (en0, false, (toldS b).2.2.2)
theorem findE_hit (l : List En) (a : Int) (i : Nat) (hi : i < l.length) (h : ∀ j (hj : j < i), (l[j]'(by omega)).at_ ≠ a) (e : l[i].at_ = a) : findE l a = (l[i], true) := by
  have : l.find? (fun x => x.at_ == a) = some l[i] := by
    rw [List.find?_eq_some_iff_getElem]
    refine ⟨by simpa using e, i, hi, rfl, fun j hj => ?_⟩
    simpa using h j hj
  unfold findE
  rw [this]
theorem findE_no (l : List En) (a : Int) (h : ∀ j (hj : j < l.length), l[j].at_ ≠ a) : findE l a = (en0, false) := by
  have : l.find? (fun x => x.at_ == a) = none := by
    rw [List.find?_eq_none]
    intro x hx
    obtain ⟨j, hj, rfl⟩ := List.getElem_of_mem hx
    simpa using h j hj
  unfold findE
  rw [this]
def FdPost (b : List Int) (a : Int) (w : World) (e : Ending) (w' : World) : Prop :=
  e = .returned (.tuple #[.agg (enC (findR b a).1).toArray, .bool (findR b a).2.1, .int .i64 (findR b a).2.2]) ∧ Below w.heap.size w w'
structure FdSt (w W : World) (g7 : Nat) (L : Int) (A : Option Addr) (c : Nat) (l : List En) : Prop where
  t4 : W.heap[w.heap.size]? = some (.cells (enC en0).toArray 44 (0, 0))
  b7 : W.heap[g7]? = some (.cells #[.int .i64 L, .slice A l.length c] 24 (0, 0))
  r : Kd.C kEn W A l.length l
  below : Below w.heap.size w W
theorem FdSt.next {w W W1 : World} {g7 : Nat} {L : Int} {A : Option Addr} {c : Nat} {l : List En} (h : FdSt w W g7 L A c l) (hb : Below W.heap.size W W1) : FdSt w W1 g7 L A c l :=
  ⟨blk_below h.t4 hb, blk_below h.b7 hb, Kd.C_below h.r hb, below_then h.below h.below.size hb⟩

set_option maxHeartbeats 4000000 in
set_option maxRecDepth 100000 in
theorem find_c (A : Option Addr) (c : Nat) (b : List Int) (a : Int) (w : World) (h : ByR w A c b) : Calls Try.prog 31 #[.slice A b.length c, .int .i64 a] w (FdPost b a w) := by
  have HB := Lib.hid h
  have HD1 := Lib.hid (fun A c W (h : ByR W A c b) => decode_c A c b W h)
  unfold DcPost at HD1
  have hfr := Lib.hid (show findR b a = findR b a from rfl)
  obtain ⟨L, hL⟩ : ∃ L, L = decL b := ⟨_, rfl⟩
  obtain ⟨l, hl⟩ : ∃ l, l = decE b := ⟨_, rfl⟩
  obtain ⟨p, hp⟩ : ∃ p, p = (toldS b).2.2.1 := ⟨_, rfl⟩
  obtain ⟨q, hq⟩ : ∃ q, q = (toldS b).2.2.2 := ⟨_, rfl⟩
  rw [← hL, ← hl, ← hp, ← hq] at HD1
  have HQ : Hid (findR b a = if q = 0 then ((findE l a).1, (findE l a).2, 0) else (en0, false, q)) := Lib.hid (by unfold findR; rw [← hq, ← hl])
  clear h hL hl hp hq hfr
  go_enter Try.func31, Try.ntmps31
  by_cases hz : q = 0
  · have d0 : (q != 0) = false := by simpa using hz
    have HQ' := Lib.hid (HQ.out.trans (if_pos hz))
    have HZ := Lib.hid hz
    clear HQ hz
    go_upto_region 2 with (first | ((with_reducible refine gate_dst (N := 4) rfl ?_); refine wpList_alloc_box rfl rfl ?_; intro W1 hW1 hbe1 hs1; have HW1 := Lib.hid hW1; have HBe1 := Lib.hid hbe1; clear hW1 hbe1) | (go_at_call 25; refine (HD1.out _ _ _ (HB.out.next HBe1.out)).mono ?_; rintro e w2 ⟨v7, rfl, hr7, hb2⟩; obtain ⟨A7, c7, rfl, hc7, _⟩ := Kd.R_reads hr7; have HR7 := Lib.hid hr7; have HB2 := Lib.hid hb2; clear hr7 hb2))
    obtain ⟨W3, hW3⟩ : ∃ W3, W3 = w2.alloc (.cells #[.int .i64 L, .slice A7 l.length c7] 24) := ⟨_, rfl⟩
    obtain ⟨g7, hg7⟩ : ∃ g7, g7 = w2.heap.size := ⟨_, rfl⟩
    have hb3 : Below w2.heap.size w2 W3 := by rw [hW3]; exact below_alloc (Below.refl _ _) _
    have hb23 := below_then HB2.out HB2.out.size hb3
    have St : Hid (FdSt w W3 g7 L A7 c7 l) := Lib.hid ⟨blk_below HW1.out hb23, by rw [hW3, hg7]; exact blk_new _ _, Kd.C_below (Kd.R_reads' HR7.out).2.2 hb3, below_then HBe1.out HBe1.out.size hb23⟩
    rw [← hW3, ← hg7]
    clear hW3 hg7 hb3 hb23 HR7 HB2 HBe1 HW1 hs1 hc7
    have hlm : l.length ≤ 9223372036854775807 := by have := St.out.r.2.1; omega
    have j1 := blk_cell St.out.b7 1
    simp only [List.getElem?_toArray, List.getElem?_cons_zero, List.getElem?_cons_succ] at j1
    go_wp2
    clear j1
    go_loopg [25] (l.length + 1) (fun k v25 W => ∃ (i : Nat), v25 = .int .i64 (i : Int) ∧ i + k = l.length + 1 ∧ i ≤ l.length ∧ Hid (∀ j (hj : j < i) (hjl : j < l.length), (l[j]).at_ ≠ a) ∧ Hid (FdSt w W g7 L A7 c7 l))
    case atStart => exact ⟨0, rfl, by omega, by omega, Lib.hid (fun j hj => absurd hj (Nat.not_lt_zero _)), St⟩
    case round =>
      obtain ⟨i, rfl, hi, hil, HN, St1⟩ := hrel
      by_cases hlt : i < l.length
      · have d1 : decide ((i : Int) < (l.length : Int)) = true := decide_eq_true (by omega)
        obtain ⟨ad, rfl, hwf, hrng⟩ := at_en St1.out.r i hlt
        obtain ⟨x, hx⟩ : ∃ x, x = l.getD i en0 := ⟨_, rfl⟩
        rw [← hx] at hwf hrng
        have hgx : l.getD i en0 = l[i] := by rw [List.getD_eq_getElem?_getD, List.getElem?_eq_getElem hlt]; rfl
        have HX := Lib.hid (hx.trans hgx)
        have HWf := Lib.hid hwf
        have HRng := Lib.hid hrng
        clear hx hgx hwf hrng
        obtain ⟨k, rfl⟩ : ∃ k, gk = k + 1 := ⟨gk - 1, by omega⟩
        go_upto_region 7 with (first | ((with_reducible refine gate_dst (N := 28) rfl ?_); refine wpList_load_any rfl 44 (.tmp 27) rfl (ad.add (i * 28)) rfl (enC x) _ HRng.out Try.underlying44 rfl (by rw [enC_len HWf.out]; kernel_rfl) ?_) | ((with_reducible refine gate_dst (N := 11) rfl ?_); refine wpList_alloc_box rfl rfl ?_; intro W6 hW6 hbe6 hs6) | ((with_reducible refine gate_store (t := 44) (p := 11) rfl ?_); refine wpList_store_box rfl (.tmp 11) (.tmp 28) rfl wr.heap.size hW6 fr0_wf x HWf.out rfl rfl ?_; intro W7 hW7 ho7))
        have hb7 := below_only hbe6 ho7 (Nat.le_refl _)
        have St7 := Lib.hid (St1.out.next hb7)
        have H11 := Lib.hid hW7
        have k0 : W7.cell? ⟨wr.heap.size, 0, none⟩ = some (.int .i64 x.at_) := blk_cell hW7 0
        have hne : Hid (wr.heap.size ≠ w.heap.size) := Lib.hid (by have := blk_lt St1.out.t4; omega)
        clear hW7 ho7 hW6 hbe6 hs6 hb7
        obtain ⟨y, hy⟩ : ∃ y, y = x.at_ := ⟨_, rfl⟩
        rw [← hy] at k0
        have HY := Lib.hid hy
        clear hy
        by_cases he : y = a
        · subst he
          have HF : Hid (findE l y = (x, true)) := Lib.hid (by rw [findE_hit l y i hlt (fun j hj => HN.out j hj (by omega)) (by rw [← HX.out, HY.out]), HX.out])
          go_wp2_with (first | ((with_reducible refine gate_dst (N := 33) rfl ?_); refine wpList_load_any rfl 44 (.tmp 11) rfl ⟨wr.heap.size, 0, none⟩ rfl (enC x) _ (rng_of (range_blk H11.out)) Try.underlying44 rfl (by rw [enC_len HWf.out]; kernel_rfl) ?_) | ((with_reducible refine gate_store (t := 44) (p := 4) rfl ?_); refine wpList_store_box rfl (.tmp 4) (.tmp 33) rfl w.heap.size St7.out.t4 fr0_wf x HWf.out rfl rfl ?_; intro W8 hW8 ho8; have H8 := Lib.hid hW8; have HO8 := Lib.hid ho8; clear hW8 ho8))
          refine bodyPost_ret (ret_box3 (p := 4) (q := 5) (s := 6) rfl _ w.heap.size H8.out HWf.out rfl) rfl ?_
          refine ⟨?_, below_only St7.out.below HO8.out (Nat.le_refl _)⟩
          rw [HQ'.out, HF.out]
          rfl
        · have d2 : (y == a) = false := by simpa using he
          go_wp2
          go_roundg k
          case measure => omega
          case rel => exact ⟨i + 1, by simp, by omega, by omega, Lib.hid (fun j hj hjl => by
            by_cases e : j < i
            · exact HN.out j e hjl
            · obtain rfl : j = i := by omega
              rw [← HX.out, ← HY.out]
              exact he), St7⟩
      · have d1 : decide ((i : Int) < (l.length : Int)) = false := decide_eq_false (by omega)
        have HF : Hid (findE l a = (en0, false)) := Lib.hid (findE_no l a (fun j hj => HN.out j (by omega) hj))
        go_wp2_with (first | ((with_reducible refine gate_store (t := 44) (p := 4) rfl ?_); refine wpList_store_box rfl (.tmp 4) (.tmp 35) rfl w.heap.size St1.out.t4 fr0_wf en0 fr0_wf rfl rfl ?_; intro W8 hW8 ho8; have H8 := Lib.hid hW8; have HO8 := Lib.hid ho8; clear hW8 ho8))
        refine bodyPost_ret (ret_box3 (p := 4) (q := 5) (s := 6) rfl _ w.heap.size H8.out fr0_wf rfl) rfl ?_
        refine ⟨?_, below_only St1.out.below HO8.out (Nat.le_refl _)⟩
        rw [HQ'.out, HF.out]
        rfl
  · have d0 : (q != 0) = true := by simpa using hz
    have HQ' := Lib.hid (HQ.out.trans (if_neg hz))
    clear HQ
    go_wp2_with (first | ((with_reducible refine gate_dst (N := 4) rfl ?_); refine wpList_alloc_box rfl rfl ?_; intro W1 hW1 hbe1 hs1; have HW1 := Lib.hid hW1; have HBe1 := Lib.hid hbe1; clear hW1 hbe1) | (go_at_call 25; refine (HD1.out _ _ _ (HB.out.next HBe1.out)).mono ?_; rintro e w2 ⟨v7, rfl, hr7, hb2⟩; obtain ⟨A7, c7, rfl, hc7, _⟩ := Kd.R_reads hr7; have HB2 := Lib.hid hb2; clear hr7 hb2) | ((with_reducible refine gate_store (t := 44) (p := 4) rfl ?_); refine wpList_store_box rfl (.tmp 4) (.tmp 20) rfl w.heap.size (blk_alloc (blk_below HW1.out HB2.out) _) fr0_wf en0 fr0_wf rfl rfl ?_; intro W8 hW8 ho8; have H8 := Lib.hid hW8; have HO8 := Lib.hid ho8; clear hW8 ho8))
    refine bodyPost_ret (ret_box3 (p := 4) (q := 5) (s := 6) rfl _ w.heap.size H8.out fr0_wf rfl) rfl ?_
    refine ⟨?_, below_only (below_alloc (below_then HBe1.out HBe1.out.size HB2.out) _) HO8.out (Nat.le_refl _)⟩
    rw [HQ'.out]
    rfl

theorem ret_box2 {fn : Func} {p q : Tmp} (h : fn.results = #[.cell p 44, .tmp q]) (tmps : Array Value) {W : World} (k : Nat) {x : En} (hb : W.heap[k]? = some (.cells (enC x).toArray 44 (0, 0))) (hw : x.fr.wf)
    (hp : tmps.getD p undef = .pointer (some ⟨k, 0, none⟩)) : (results fn tmps).run Try.prog W = .ok (.tuple #[.agg (enC x).toArray, tmps.getD q undef]) W := by
  have hp' : tmps[p]?.getD undef = .pointer (some ⟨k, 0, none⟩) := by simpa using hp
  have hl := run_loadVar_row (P := Try.prog) W k 44 44 (enC x).toArray (0, 0) _ hb Try.underlying44 rfl (by simp only [List.size_toArray, enC_len hw]; kernel_rfl)
  simp [results, h, hp', asAddr, hl, Sem.run_bind]

set_option maxHeartbeats 4000000 in
set_option maxRecDepth 100000 in
theorem at_e (L : Int) (A : Option Addr) (c : Nat) (l : List En) (a : Int) (w : World) (h : Kd.C kEn w A l.length l) : Calls Try.prog 44 #[.agg #[.int .i64 L, .slice A l.length c], .int .i64 a] w fun e w' => e = .returned (.tuple #[.agg (enC (findE l a).1).toArray, .bool (findE l a).2]) ∧ (findE l a).1.fr.wf ∧ Below w.heap.size w w' := by
  have hlm : l.length ≤ 9223372036854775807 := by have := h.2.1; omega
  have HR := Lib.hid h
  have HB0 := Lib.hid (blk_new w (.cells #[.int .i64 L, .slice A l.length c] 24))
  obtain ⟨r, hr⟩ : ∃ r, r = findE l a := ⟨_, rfl⟩
  have HF := Lib.hid hr
  rw [← hr]
  clear h hr
  go_enter Try.func44, Try.ntmps44
  go_upto_region 1 with (first | ((with_reducible refine gate_dst (N := 4) rfl ?_); refine wpList_alloc_box rfl rfl ?_; intro W1 hW1 hbe1 hs1))
  have hbe := below_then (below_alloc (Below.refl _ _) _) (by simp) hbe1
  obtain ⟨g4, hg4⟩ : ∃ g4, g4 = (w.alloc (.cells #[.int .i64 L, .slice A l.length c] 24)).heap.size := ⟨_, rfl⟩
  rw [World.size_alloc] at hg4
  have H4 : Hid (W1.heap[g4]? = some (.cells (enC en0).toArray 44 (0, 0))) := Lib.hid (by rw [hg4, ← World.size_alloc w (.cells #[.int .i64 L, .slice A l.length c] 24)]; exact hW1)
  have HB2 := Lib.hid (blk_below HB0.out hbe1)
  have HR2 := Lib.hid (Kd.C_below HR.out hbe)
  have HBe := Lib.hid hbe
  have HG4 := Lib.hid (show w.heap.size ≤ g4 by omega)
  rw [← hg4]
  clear hW1 hbe1 hs1 hbe HR HB0 hg4
  have j1 := blk_cell HB2.out 1
  simp only [List.getElem?_toArray, List.getElem?_cons_zero, List.getElem?_cons_succ] at j1
  go_wp2
  go_loopg [6] (l.length + 1) (fun k v6 W => ∃ (i : Nat), v6 = .int .i64 (i : Int) ∧ i + k = l.length + 1 ∧ i ≤ l.length ∧ Hid (∀ j (hj : j < i) (hjl : j < l.length), (l[j]).at_ ≠ a) ∧ W = W1)
  case atStart => exact ⟨0, rfl, by omega, by omega, Lib.hid (fun j hj => absurd hj (Nat.not_lt_zero _)), rfl⟩
  case round =>
    obtain ⟨i, rfl, hi, hil, HN, rfl⟩ := hrel
    by_cases hlt : i < l.length
    · have d1 : decide ((i : Int) < (l.length : Int)) = true := decide_eq_true (by omega)
      obtain ⟨ad, rfl, hwf, hrng⟩ := at_en HR2.out i hlt
      obtain ⟨x, hx⟩ : ∃ x, x = l.getD i en0 := ⟨_, rfl⟩
      rw [← hx] at hwf hrng
      have hgx : l.getD i en0 = l[i] := by rw [List.getD_eq_getElem?_getD, List.getElem?_eq_getElem hlt]; rfl
      have HX := Lib.hid (hx.trans hgx)
      have HWf := Lib.hid hwf
      have HRng := Lib.hid hrng
      have k0 := hrng.at_
      clear hx hgx hwf hrng
      obtain ⟨k, rfl⟩ : ∃ k, gk = k + 1 := ⟨gk - 1, by omega⟩
      obtain ⟨y, hy⟩ : ∃ y, y = x.at_ := ⟨_, rfl⟩
      rw [← hy] at k0
      have HY := Lib.hid hy
      clear hy
      by_cases he : y = a
      · subst he
        have HF' : Hid (r = (x, true)) := Lib.hid (by rw [HF.out, findE_hit l y i hlt (fun j hj => HN.out j hj (by omega)) (by rw [← HX.out, HY.out]), HX.out])
        go_wp2_with (first | ((with_reducible refine gate_dst (N := 26) rfl ?_); refine wpList_load_any rfl 44 (.tmp 25) rfl (ad.add (i * 28)) rfl (enC x) _ HRng.out Try.underlying44 rfl (by rw [enC_len HWf.out]; kernel_rfl) ?_) | ((with_reducible refine gate_store (t := 44) (p := 4) rfl ?_); refine wpList_store_box rfl (.tmp 4) (.tmp 26) rfl g4 H4.out fr0_wf x HWf.out rfl rfl ?_; intro W8 hW8 ho8; have H8 := Lib.hid hW8; have HO8 := Lib.hid ho8; clear hW8 ho8))
        refine bodyPost_ret (ret_box2 (p := 4) (q := 5) rfl _ g4 H8.out HWf.out rfl) rfl ?_
        rw [HF'.out]
        exact ⟨rfl, HWf.out, below_only HBe.out HO8.out HG4.out⟩
      · have d2 : (y == a) = false := by simpa using he
        go_wp2
        go_roundg k
        case measure => omega
        case rel => exact ⟨i + 1, by simp, by omega, by omega, Lib.hid (fun j hj hjl => by
          by_cases e : j < i
          · exact HN.out j e hjl
          · obtain rfl : j = i := by omega
            rw [← HX.out, ← HY.out]
            exact he), rfl⟩
    · have d1 : decide ((i : Int) < (l.length : Int)) = false := decide_eq_false (by omega)
      have HF' : Hid (r = (en0, false)) := Lib.hid (by rw [HF.out]; exact findE_no l a (fun j hj => HN.out j (by omega) hj))
      go_wp2_with (first | ((with_reducible refine gate_store (t := 44) (p := 4) rfl ?_); refine wpList_store_box rfl (.tmp 4) (.tmp 27) rfl g4 H4.out fr0_wf en0 fr0_wf rfl rfl ?_; intro W8 hW8 ho8; have H8 := Lib.hid hW8; have HO8 := Lib.hid ho8; clear hW8 ho8))
      refine bodyPost_ret (ret_box2 (p := 4) (q := 5) rfl _ g4 H8.out fr0_wf rfl) rfl ?_
      rw [HF'.out]
      exact ⟨rfl, fr0_wf, below_only HBe.out HO8.out HG4.out⟩

set_option maxHeartbeats 4000000 in
set_option maxRecDepth 100000 in
theorem rfind_c (A : Option Addr) (c : Nat) (b : List Int) (a : Int) (w : World) (h : ByR w A c b) : Calls Try.prog 32 #[.slice A b.length c, .int .i64 a] w (FdPost b a w) := by
  have HB := Lib.hid h
  have HD1 := Lib.hid (fun A c W (h : ByR W A c b) => rdecode_c A c b W h)
  unfold DcPost at HD1
  obtain ⟨L, hL⟩ : ∃ L, L = decL b := ⟨_, rfl⟩
  obtain ⟨l, hl⟩ : ∃ l, l = decE b := ⟨_, rfl⟩
  obtain ⟨p, hp⟩ : ∃ p, p = (toldS b).2.2.1 := ⟨_, rfl⟩
  obtain ⟨q, hq⟩ : ∃ q, q = (toldS b).2.2.2 := ⟨_, rfl⟩
  rw [← hL, ← hl, ← hp, ← hq] at HD1
  have HQ : Hid (findR b a = if q = 0 then ((findE l a).1, (findE l a).2, 0) else (en0, false, q)) := Lib.hid (by unfold findR; rw [← hq, ← hl])
  have HAt := Lib.hid (fun A c W h => at_e L A c l a W h)
  obtain ⟨r, hr⟩ : ∃ r, r = findE l a := ⟨_, rfl⟩
  rw [← hr] at HQ HAt
  clear h hL hl hp hq hr
  go_enter Try.func32, Try.ntmps32
  by_cases hz : q = 0
  · have d0 : (q != 0) = false := by simpa using hz
    have HQ' := Lib.hid (HQ.out.trans (if_pos hz))
    clear HQ hz
    go_upto_region 2 with (first | ((with_reducible refine gate_dst (N := 4) rfl ?_); refine wpList_alloc_box rfl rfl ?_; intro W1 hW1 hbe1 hs1; have HW1 := Lib.hid hW1; have HBe1 := Lib.hid hbe1; clear hW1 hbe1) | (go_at_call 30; refine (HD1.out _ _ _ (HB.out.next HBe1.out)).mono ?_; rintro e w2 ⟨v7, rfl, hr7, hb2⟩; obtain ⟨A7, c7, rfl, hc7, _⟩ := Kd.R_reads hr7; have HR7 := Lib.hid hr7; have HB2 := Lib.hid hb2; clear hr7 hb2))
    obtain ⟨W3, hW3⟩ : ∃ W3, W3 = w2.alloc (.cells #[.int .i64 L, .slice A7 l.length c7] 24) := ⟨_, rfl⟩
    obtain ⟨g7, hg7⟩ : ∃ g7, g7 = w2.heap.size := ⟨_, rfl⟩
    have hb3 : Below w2.heap.size w2 W3 := by rw [hW3]; exact below_alloc (Below.refl _ _) _
    have hb23 := below_then HB2.out HB2.out.size hb3
    have St : Hid (FdSt w W3 g7 L A7 c7 l) := Lib.hid ⟨blk_below HW1.out hb23, by rw [hW3, hg7]; exact blk_new _ _, Kd.C_below (Kd.R_reads' HR7.out).2.2 hb3, below_then HBe1.out HBe1.out.size hb23⟩
    rw [← hW3, ← hg7]
    clear hW3 hg7 hb3 hb23 HR7 HB2 HBe1 HW1 hs1 hc7
    have j0 := blk_cell St.out.b7 0
    have j1 := blk_cell St.out.b7 1
    simp only [List.getElem?_toArray, List.getElem?_cons_zero, List.getElem?_cons_succ] at j0 j1
    go_upto_region 5 with (first | (go_at_call 44; refine (HAt.out _ _ _ St.out.r).mono ?_; rintro e w4 ⟨rfl, hwf, hb4⟩; have HWf := Lib.hid hwf; have St4 := Lib.hid (St.out.next hb4); clear hwf hb4 j0 j1) | ((with_reducible refine gate_dst (N := 10) rfl ?_); refine wpList_alloc_box rfl rfl ?_; intro W6 hW6 hbe6 hs6) | ((with_reducible refine gate_store (t := 44) (p := 10) rfl ?_); refine wpList_store_box rfl (.tmp 10) (.tmp 26) rfl w4.heap.size hW6 fr0_wf r.1 HWf.out rfl rfl ?_; intro W7 hW7 ho7))
    have hb7 := below_only hbe6 ho7 (Nat.le_refl _)
    have St7 := Lib.hid (St4.out.next hb7)
    have H11 := Lib.hid hW7
    clear hW7 ho7 hW6 hbe6 hs6 hb7 St4 St
    go_wp2_with (first | ((with_reducible refine gate_dst (N := 28) rfl ?_); refine wpList_load_any rfl 44 (.tmp 10) rfl ⟨w4.heap.size, 0, none⟩ rfl (enC r.1) _ (rng_of (range_blk H11.out)) Try.underlying44 rfl (by rw [enC_len HWf.out]; kernel_rfl) ?_) | ((with_reducible refine gate_store (t := 44) (p := 4) rfl ?_); refine wpList_store_box rfl (.tmp 4) (.tmp 28) rfl w.heap.size St7.out.t4 fr0_wf r.1 HWf.out rfl rfl ?_; intro W8 hW8 ho8; have H8 := Lib.hid hW8; have HO8 := Lib.hid ho8; clear hW8 ho8))
    refine bodyPost_ret (ret_box3 (p := 4) (q := 5) (s := 6) rfl _ w.heap.size H8.out HWf.out rfl) rfl ?_
    refine ⟨?_, below_only St7.out.below HO8.out (Nat.le_refl _)⟩
    rw [HQ'.out]
    rfl
  · have d0 : (q != 0) = true := by simpa using hz
    have HQ' := Lib.hid (HQ.out.trans (if_neg hz))
    clear HQ
    go_wp2_with (first | ((with_reducible refine gate_dst (N := 4) rfl ?_); refine wpList_alloc_box rfl rfl ?_; intro W1 hW1 hbe1 hs1; have HW1 := Lib.hid hW1; have HBe1 := Lib.hid hbe1; clear hW1 hbe1) | (go_at_call 30; refine (HD1.out _ _ _ (HB.out.next HBe1.out)).mono ?_; rintro e w2 ⟨v7, rfl, hr7, hb2⟩; obtain ⟨A7, c7, rfl, hc7, _⟩ := Kd.R_reads hr7; have HB2 := Lib.hid hb2; clear hr7 hb2) | ((with_reducible refine gate_store (t := 44) (p := 4) rfl ?_); refine wpList_store_box rfl (.tmp 4) (.tmp 20) rfl w.heap.size (blk_alloc (blk_below HW1.out HB2.out) _) fr0_wf en0 fr0_wf rfl rfl ?_; intro W8 hW8 ho8; have H8 := Lib.hid hW8; have HO8 := Lib.hid ho8; clear hW8 ho8))
    refine bodyPost_ret (ret_box3 (p := 4) (q := 5) (s := 6) rfl _ w.heap.size H8.out fr0_wf rfl) rfl ?_
    refine ⟨?_, below_only (below_alloc (below_then HBe1.out HBe1.out.size HB2.out) _) HO8.out (Nat.le_refl _)⟩
    rw [HQ'.out]
    rfl
end Go.Proofs.Ytfbdnfokoakfaaa.Ct
