/- provisolaw10.LexBlanks: its walk. -/
import Derived.Test.YthaejpkldpkddaaDoorItoaC
import Derived.Lib.ItoaLen
import Derived.BigQuiet
namespace Go.Proofs.YthaejpkldpkddaaDoor.Scn
open Go.RowKit Go.Proofs.YthaejpkldpkddaaDoorW.PrintWords Go.Proofs.YthaejpkldpkddaaDoorW.PrintLast Go.Proofs.YthaejpkldpkddaaDoorW.PrintMore
set_option linter.unusedVariables false
set_option linter.unusedSimpArgs false
attribute [local go_sem] drewN_set drewN_new

theorem word_size (k : Int) : (wordOf k).size ≤ 100 := by
  have h : ws.all (fun w => decide (w.size ≤ 100)) = true := by decide +kernel
  have hl := ws_len
  unfold wordOf
  split
  · decide
  · split
    · decide
    · unfold rdOf
      rw [List.getD_eq_getElem?_getD, List.getElem?_eq_getElem (by omega), Option.getD_some]
      exact of_decide_eq_true (List.all_eq_true.1 h _ (List.getElem_mem _))
/-- What a scanned token says lies in bounds. -/
theorem tok_facts (s : ByteArray) (x : Nat) (hx : x < s.size) (t : Tok) (h : tokAt s x = .ok t) : 0 ≤ t.f3 ∧ t.f3 ≤ 2147483648 ∧ t.f4.size ≤ s.size := by
  unfold tokAt at h
  by_cases h1 : letterB (bt s (x : Int)) = true
  · rw [if_pos h1] at h
    unfold wordAt at h
    have hz : (s.extract x (runE wordB s x)).size ≤ s.size := by rw [ByteArray.size_extract]; omega
    split at h
    · cases h; exact ⟨Int.le_refl _, by show (0 : Int) ≤ 2147483648; decide, Nat.zero_le _⟩
    · split at h
      · cases h; exact ⟨Int.le_refl _, by show (0 : Int) ≤ 2147483648; decide, hz⟩
      · cases h
  · rw [if_neg h1] at h
    by_cases h2 : digitB (bt s (x : Int)) = true
    · rw [if_pos h2] at h
      obtain ⟨_, hq2, hq3, _⟩ := runE_spec digitB s x (by omega)
      have hq := runE_lt digitB s x hx h2
      unfold numAt at h
      cases hr : numR s (s.extract x (runE digitB s x)) (runE digitB s x) with
      | none => rw [hr] at h; cases h
      | some n =>
        rw [hr] at h
        cases h
        obtain ⟨d, hd⟩ : ∃ d, d = s.extract x (runE digitB s x) := ⟨_, rfl⟩
        rw [← hd] at hr
        have hsz : d.size = runE digitB s x - x := by rw [hd, ByteArray.size_extract]; omega
        unfold numR at hr
        cases hf : numF d d.size 0 0 with
        | none => rw [hf] at hr; cases hr
        | some m =>
          rw [hf] at hr
          simp only [Option.bind_some] at hr
          split at hr
          · cases hr
          · cases hr
            have := numF_range d (fun i hi => by
              have e : bt d (i : Int) = bt s ((x + i : Nat) : Int) := by rw [hd]; exact bt_ext s x _ i hq2 (by omega)
              rw [e]
              exact hq3 _ (by omega) (by omega)) d.size 0 0 n (by omega) (by omega) (by omega) hf
            exact ⟨this.1, this.2, Nat.zero_le _⟩
    · rw [if_neg h2] at h
      unfold markAt at h
      cases hm : markV s x with
      | none => rw [hm] at h; cases h
      | some y => rw [hm] at h; cases h; exact ⟨Int.le_refl _, by show (0 : Int) ≤ 2147483648; decide, Nat.zero_le _⟩
theorem wrote_size (t : Tok) (h1 : 0 ≤ t.f3) (h2 : t.f3 ≤ 2147483648) (h3 : t.f4.size ≤ 65536) : (wrote t).size ≤ 65536 := by
  unfold wrote
  split
  · exact h3
  · split
    · have := Lib.itoa_length_le t.f3 (by omega) (by omega)
      show ((Lib.itoa t.f3).toArray).size ≤ 65536
      rw [List.size_toArray]; omega
    · have := word_size t.f0; omega
theorem toks_facts (s : ByteArray) (l : List Tok) (h : scanV s = .ok l) (i : Nat) (hi : i < l.length) : 0 ≤ l[i].f3 ∧ l[i].f3 ≤ 2147483648 ∧ (wrote l[i]).size ≤ 65536 := by
  obtain ⟨ht, hl, hs⟩ := scanV_toks s l h
  obtain ⟨x, q, h1, h2, h3, h4, h5, h6, h7⟩ := toks_get s l _ i hi ht (blankV_le s 0 (by omega)).2 (blankV_twice s 0 (by omega))
  obtain ⟨a, b, c⟩ := tok_facts s x (by omega) _ h6
  exact ⟨a, b, wrote_size _ a b (by omega)⟩
def kindG (j : Nat) : ByteArray := if j = 0 then g0 else if j = 1 then g1 else if j = 2 then g2 else g3
theorem kindG_gap (j : Nat) : IsGap (kindG j) := by
  unfold kindG IsGap
  split
  · exact .inl rfl
  · split
    · exact .inr (.inl rfl)
    · split
      · exact .inr (.inr (.inl rfl))
      · exact .inr (.inr (.inr rfl))

theorem cell_lt {W : World} {p : Addr} {v : Value} (h : W.cell? p = some v) : p.block < W.heap.size := by
  rcases Nat.lt_or_ge p.block W.heap.size with h1 | h1
  · exact h1
  · unfold World.cell? at h
    rw [Array.getElem?_eq_none h1] at h
    cases h
/-- What holds between the steps of the first loop. -/
structure BlSt (w W : World) (A : Option Addr) (l : List Tok) (kb : Nat) (Ag : Option Addr) (gs : List Int) : Prop where
  toks : PLexBlanks.k31.C W A l.length l
  kinds : W.heap[kb]? = some (.cells #[.string g0, .string g1, .string g2, .string g3] 9 (0, 0))
  gaps : Kd.C (Kd.int .u64) W Ag gs.length gs
  tab : Tab W
  below : Below w.heap.size w W
theorem BlSt.next {w W W1 : World} {A : Option Addr} {l : List Tok} {kb : Nat} {Ag : Option Addr} {gs : List Int} (h : BlSt w W A l kb Ag gs) (hb : Below W.heap.size W W1) : BlSt w W1 A l kb Ag gs :=
  ⟨Kd.C_below h.toks hb, blk_below h.kinds hb, Kd.C_below h.gaps hb, tab_below h.tab hb, h.below.trans (hb.mono h.below.size)⟩
theorem BlSt.kind {w W : World} {A : Option Addr} {l : List Tok} {kb : Nat} {Ag : Option Addr} {gs : List Int} (h : BlSt w W A l kb Ag gs) (j : Nat) (hj : j < 4) : W.cell? ⟨kb, j, none⟩ = some (.string (kindG j)) := by
  have := blk_cell h.kinds j
  rw [this]
  match j, hj with
  | 0, _ => rfl
  | 1, _ => rfl
  | 2, _ => rfl
  | 3, _ => rfl

set_option maxHeartbeats 8000000 in
set_option maxRecDepth 100000 in
theorem blanks_walk (s : ByteArray) (Ag : Option Addr) (cg : Nat) (gs : List Int) (w : World) (hg : Kd.C (Kd.int .u64) w Ag gs.length gs) (hgl : gs.length ≤ 140737488355328) (hcg : gs.length ≤ cg) (hgw : ∀ x ∈ gs, 0 ≤ x ∧ x < 18446744073709551616) (htab : Tab w) :
    Calls Tryd.prog 3 #[.string s, .slice Ag gs.length cg] w fun e w' => e = .returned (.bool true) ∧ Below w.heap.size w w' := by
  have HS := Lib.hid (fun W => scan_any s W)
  have HL := Lib.hid (blanks_law s)
  have HZ := Lib.hid (fun r h => (scanV_toks s r h).2)
  have HF := Lib.hid (toks_facts s)
  have HA := Lib.hid awake_any
  have HG := Lib.hid hg
  have HT := Lib.hid htab
  have HGW := Lib.hid hgw
  clear hg htab hgw
  obtain ⟨R, hR⟩ : ∃ R, R = scanV s := ⟨_, rfl⟩
  rw [← hR] at HS HL HZ HF
  clear hR
  cases R with
  | error x =>
    clear HL HZ HF
    go_enter Tryd.func3, Tryd.ntmps3
    go_wp2_with (first | (go_at_call 4; refine (HA.out _).mono ?_; rintro e w1 ⟨rfl, b1⟩) | (go_at_call 5; refine (HS.out _).mono ?_; rintro e w2 ⟨rfl, b2⟩))
    go_ret
    exact ⟨rfl, b1.trans (b2.mono b1.size)⟩
  | ok l =>
    obtain ⟨hl1, hs1⟩ := HZ.out l rfl
    have hu31 := Tryd.underlying31
    clear HZ
    go_enter Tryd.func3, Tryd.ntmps3
    go_wp2_with (first | (go_at_call 4; refine (HA.out _).mono ?_; rintro e w1 ⟨rfl, b1⟩) | (go_at_call 5; refine (HS.out _).mono ?_; rintro e w2 ⟨A, c, rfl, ho, b2⟩))
    have hb : Below w.heap.size w w2 := b1.trans (b2.mono b1.size)
    obtain ⟨kb, hkb⟩ : ∃ kb, kb = w2.heap.size := ⟨_, rfl⟩
    obtain ⟨w3, hw3⟩ : ∃ W, W = w2.alloc (.cells #[.string ⟨#[32]⟩, .string ⟨#[10]⟩, .string ⟨#[32, 47, 47, 32, 120, 32, 121, 10]⟩, .string ⟨#[9, 32, 13]⟩] 9) := ⟨_, rfl⟩
    have hSt : BlSt w w3 A l kb Ag gs := by
      rw [hw3, hkb]
      exact ⟨Kd.C_alloc (Kd.R_reads' ho).2.2 _, blk_new w2 _, Kd.C_alloc (Kd.C_below HG.out hb) _, tab_below HT.out (below_alloc hb _), below_alloc hb _⟩
    have St := Lib.hid hSt
    rw [← hw3, ← hkb]
    clear hw3 hkb hSt ho hb b1 b2 HA HG HT
    have hcap : True := trivial
    go_loopg [8, 26] (l.length + 1) (fun f v8 v26 W => ∃ (i : Nat) (S : ByteArray) (r : List (ByteArray × Tok)), v8 = .string S ∧ v26 = .int .i64 (i : Int) ∧ i + f = l.length + 1 ∧ i ≤ l.length ∧ Hid (S = joinT r ∧ r.map Prod.snd = l.take i ∧ ∀ y ∈ r, IsGap y.1) ∧ Hid (BlSt w W A l kb Ag gs))
    case atStart => exact ⟨0, ⟨#[]⟩, [], rfl, rfl, by omega, Nat.zero_le _, Lib.hid ⟨rfl, rfl, fun _ h => by cases h⟩, St⟩
    case round =>
      obtain ⟨i, S, r, rfl, rfl, hi, hil, HJ, St1⟩ := hrel
      clear St
      by_cases hlt : i < l.length
      · have d1 : decide ((i : Int) < (l.length : Int)) = true := by simp; omega
        obtain ⟨ad, e1, c0, c1, c2, c3, c4⟩ := PLexBlanks.at_T31 St1.out.toks (i : Int) (by omega) (by omega)
        have hrd : PLexBlanks.rd_T31 l (i : Int) = l[i] := by simp [PLexBlanks.rd_T31, List.getD_eq_getElem?_getD, hlt]
        rw [hrd] at c0 c1 c2 c3 c4
        simp only [Int.toNat_natCast] at c0 c1 c2 c3 c4
        cases e1
        obtain ⟨t, ht⟩ : ∃ t, t = l[i] := ⟨_, rfl⟩
        have hf := HF.out l rfl i hlt
        rw [← ht] at c0 c1 c2 c3 c4 hf
        have HTk := Lib.hid ht
        have HFt := Lib.hid hf
        have HWr := Lib.hid (fun W (h : Tab W) => written_c t ⟨hf.1, hf.2.1⟩ W h)
        obtain ⟨U, hU⟩ : ∃ U, U = wrote t := ⟨_, rfl⟩
        have hUs : U.size ≤ 65536 := by rw [hU]; exact hf.2.2
        have HU := Lib.hid hU
        rw [← hU] at HWr
        clear ht hf hrd hU
        by_cases hg0 : gs.length = 0
        · have dg : decide (0 < gs.length) = false := decide_eq_false (by omega)
          clear hg0
          by_cases hbig : 65536 < S.size
          · have db : decide ((65536 : Int) < (S.size : Int)) = true := by simp; omega
            clear hbig
            go_wp2
            go_ret
            exact ⟨rfl, below_alloc St1.out.below _⟩
          · have db : decide ((65536 : Int) < (S.size : Int)) = false := by simp; omega
            have hS : S.size ≤ 65536 := by omega
            have hGs : (g0).size ≤ 8 := gap_len (.inl rfl)
            clear hbig
            obtain ⟨f, rfl⟩ : ∃ f, gk = f + 1 := ⟨gk - 1, by omega⟩
            go_wp2_with (go_at_call 6; refine (HWr.out _ (tab_below St1.out.tab (below_alloc (Below.refl _ _) _))).mono ?_; rintro e w5 ⟨rfl, hb5⟩; have HB5 := Lib.hid hb5; clear hb5)
            go_roundg f
            case measure => omega
            case rel =>
              refine ⟨i + 1, S ++ (g0 ++ U), r ++ [(g0, t)], rfl, by simp, by omega, by omega, Lib.hid ⟨?_, ?_, ?_⟩, Lib.hid (St1.out.next ((below_alloc (Below.refl _ _) _).trans (HB5.out.mono (by simp))))⟩
              · rw [joinT_snoc, HJ.out.1, HU.out]
              · rw [List.map_append, HJ.out.2.1, List.take_succ_eq_append_getElem hlt, HTk.out]; rfl
              · intro y hy
                rw [List.mem_append, List.mem_singleton] at hy
                rcases hy with hy | rfl
                · exact HJ.out.2.2 y hy
                · exact (.inl rfl)
        · have dg : decide (0 < gs.length) = true := decide_eq_true (by omega)
          obtain ⟨m, hm⟩ : ∃ m, m = i % gs.length := ⟨_, rfl⟩
          have hmlt : m < gs.length := by rw [hm]; exact Nat.mod_lt _ (by omega)
          have hmod : (i : Int) % (gs.length : Int) = (m : Int) := by rw [hm]; simp
          have hgn : ((gs.length : Int) == 0) = false := by rw [beq_eq_false_iff_ne]; omega
          have hgn' : ((gs.length : Int) = 0) = False := eq_false (by omega)
          clear hm
          obtain ⟨adg, cs, eg, _, hK, hcg2⟩ := Kd.C_get St1.out.gaps (0 : Int) (m : Int) (by omega) (by omega)
          simp only [Int.toNat_natCast] at hK hcg2
          have hK' : cs = [.int .u64 (gs.getD m 0)] := hK
          subst hK'
          have hx0 := hcg2 0 _ rfl
          have hs1 : m * (Kd.int .u64).sz + 0 = m := Nat.mul_one m
          rw [hs1] at hx0
          have hxr : 0 ≤ gs.getD m 0 ∧ gs.getD m 0 < 18446744073709551616 := by
            rw [List.getD_eq_getElem?_getD, List.getElem?_eq_getElem hmlt, Option.getD_some]
            exact HGW.out _ (List.getElem_mem hmlt)
          obtain ⟨x, hx⟩ : ∃ x, x = gs.getD m 0 := ⟨_, rfl⟩
          rw [← hx] at hx0 hxr
          subst eg
          obtain ⟨j, hj⟩ : ∃ j : Nat, x % 4 = (j : Int) := ⟨(x % 4).toNat, by omega⟩
          have hj4 : j < 4 := by omega
          have hkd := St1.out.kind j hj4
          have HGap := Lib.hid (kindG_gap j)
          obtain ⟨G, hG⟩ : ∃ G, G = kindG j := ⟨_, rfl⟩
          rw [← hG] at hkd HGap
          have hlb : (adg.add m).block < wr.heap.size := cell_lt hx0
          have hlb1 : (adg.add m).block < wr.heap.size + 1 := by omega
          have hlbn : (adg.add m).block ≠ wr.heap.size := by omega
          have hlk : kb < wr.heap.size := blk_lt St1.out.kinds
          have hlk1 : kb < wr.heap.size + 1 := by omega
          have hlkn : kb ≠ wr.heap.size := by omega
          clear hg0 hcg2 hx hG hK
          by_cases hbig : 65536 < S.size
          · have db : decide ((65536 : Int) < (S.size : Int)) = true := by simp; omega
            clear hbig
            go_wp2
            go_ret
            exact ⟨rfl, below_alloc St1.out.below _⟩
          · have db : decide ((65536 : Int) < (S.size : Int)) = false := by simp; omega
            have hS : S.size ≤ 65536 := by omega
            have hGs : (G).size ≤ 8 := gap_len HGap.out
            clear hbig
            obtain ⟨f, rfl⟩ : ∃ f, gk = f + 1 := ⟨gk - 1, by omega⟩
            go_wp2_with (go_at_call 6; refine (HWr.out _ (tab_below St1.out.tab (below_alloc (Below.refl _ _) _))).mono ?_; rintro e w5 ⟨rfl, hb5⟩; have HB5 := Lib.hid hb5; clear hb5)
            go_roundg f
            case measure => omega
            case rel =>
              refine ⟨i + 1, S ++ (G ++ U), r ++ [(G, t)], rfl, by simp, by omega, by omega, Lib.hid ⟨?_, ?_, ?_⟩, Lib.hid (St1.out.next ((below_alloc (Below.refl _ _) _).trans (HB5.out.mono (by simp))))⟩
              · rw [joinT_snoc, HJ.out.1, HU.out]
              · rw [List.map_append, HJ.out.2.1, List.take_succ_eq_append_getElem hlt, HTk.out]; rfl
              · intro y hy
                rw [List.mem_append, List.mem_singleton] at hy
                rcases hy with hy | rfl
                · exact HJ.out.2.2 y hy
                · exact HGap.out
      · have d1 : decide ((i : Int) < (l.length : Int)) = false := by simp; omega
        have hr2 : r.map Prod.snd = l := by rw [HJ.out.2.1, List.take_of_length_le (by omega)]
        have hlaw := HL.out l rfl r hr2 HJ.out.2.2
        rw [← HJ.out.1] at hlaw
        clear HL HF HJ hr2 HGW
        by_cases hbig : 65536 < S.size
        · rw [if_pos hbig] at hlaw
          have HS2 := Lib.hid (show ∀ W, Calls Tryd.prog 5 #[.string S] W (ScanPost (.error (0, 4)) W) from fun W => by have h := scan_any S W; rw [hlaw] at h; exact h)
          have db : decide ((65536 : Int) < (S.size : Int)) = true := by simp; omega
          clear hbig hlaw
          go_wp2_with (go_at_call 5; refine (HS2.out _).mono ?_; rintro e w4 ⟨rfl, b4⟩)
          go_ret
          exact ⟨rfl, St1.out.below.trans (b4.mono St1.out.below.size)⟩
        · rw [if_neg hbig] at hlaw
          obtain ⟨m, hm, hml, hsame⟩ := hlaw
          have HS2 := Lib.hid (show ∀ W, Calls Tryd.prog 5 #[.string S] W (ScanPost (.ok m) W) from fun W => by have h := scan_any S W; rw [hm] at h; exact h)
          have db : decide ((65536 : Int) < (S.size : Int)) = false := by simp; omega
          have HSm := Lib.hid hsame
          have HMl := Lib.hid hml
          clear hbig hm hsame hml
          go_wp2_with (go_at_call 5; refine (HS2.out _).mono ?_; rintro e w4 ⟨A4, c4, rfl, ho4, b4⟩; rw [HMl.out]; have HC4 := Lib.hid (Kd.R_reads' ho4).2.2; have HB4 := Lib.hid b4; clear ho4 b4)
          have HSt : Hid (PLexBlanks.k31.C w4 A l.length l ∧ PLexBlanks.k31.C w4 A4 l.length m ∧ Below w.heap.size w w4) := Lib.hid ⟨Kd.C_below St1.out.toks HB4.out, by have := HC4.out; rw [HMl.out] at this; exact this, St1.out.below.trans (HB4.out.mono St1.out.below.size)⟩
          clear HC4 HB4 St1 HS HS2
          go_loopg [76] (l.length + 1) (fun f v76 W => ∃ (q : Nat), v76 = .int .i64 (q : Int) ∧ q + f = l.length + 1 ∧ q ≤ l.length ∧ Hid (PLexBlanks.k31.C W A l.length l ∧ PLexBlanks.k31.C W A4 l.length m ∧ Below w.heap.size w W))
          case atStart => exact ⟨0, rfl, by omega, Nat.zero_le _, HSt⟩
          case round =>
            obtain ⟨q, rfl, hq, hql, HQ⟩ := hrel
            clear HSt
            by_cases hqlt : q < l.length
            · have d2 : decide ((q : Int) < (l.length : Int)) = true := by simp; omega
              obtain ⟨ad, e1, c0, c1, c2, c3, c4⟩ := PLexBlanks.at_T31 HQ.out.1 (q : Int) (by omega) (by omega)
              obtain ⟨ad2, e2, k0, k1, k2, k3, k4⟩ := PLexBlanks.at_T31 HQ.out.2.1 (q : Int) (by omega) (by omega)
              have hqm : q < m.length := by rw [HMl.out]; exact hqlt
              have hrd : PLexBlanks.rd_T31 l (q : Int) = l[q] := by simp [PLexBlanks.rd_T31, List.getD_eq_getElem?_getD, hqlt]
              have hrd2 : PLexBlanks.rd_T31 m (q : Int) = m[q] := by simp [PLexBlanks.rd_T31, List.getD_eq_getElem?_getD, hqm]
              obtain ⟨s1, s2, s3⟩ := HSm.out q hqlt hqm
              rw [hrd] at c0 c3 c4
              rw [hrd2] at k0 k3 k4
              rw [s1] at k0
              rw [s2] at k3
              rw [s3] at k4
              simp only [Int.toNat_natCast] at c0 c3 c4 k0 k3 k4
              obtain ⟨t, ht⟩ : ∃ t, t = l[q] := ⟨_, rfl⟩
              rw [← ht] at c0 c3 c4 k0 k3 k4
              cases e1
              cases e2
              clear c1 c2 k1 k2 hrd hrd2 s1 s2 s3 ht
              obtain ⟨f, rfl⟩ : ∃ f, gk = f + 1 := ⟨gk - 1, by omega⟩
              go_wp2
              go_region
              go_wp2
              go_roundg f
              case measure => omega
              case rel => exact ⟨q + 1, by simp, by omega, by omega, Lib.hid ⟨Kd.C_below HQ.out.1 (below_drew (Below.refl _ _)), Kd.C_below HQ.out.2.1 (below_drew (Below.refl _ _)), below_drew HQ.out.2.2⟩⟩
            · have d2 : decide ((q : Int) < (l.length : Int)) = false := by simp; omega
              go_wp2
              go_ret
              exact ⟨rfl, HQ.out.2.2⟩
theorem blanks_row (s : ByteArray) (Ag : Option Addr) (cg : Nat) (gs : List Int) (w : World) (hs : s.size ≤ 140737488351232) (hgl : gs.length * 8 ≤ 140737488351232) (hcg : gs.length ≤ cg) (hg : Kd.C (Kd.int .u64) w Ag gs.length gs) (hgw : ∀ x ∈ gs, (Lit.int .u64 x).wf = true) (htab : Tab w) :
    Calls Tryd.prog 3 #[.string s, .slice Ag gs.length cg] w fun e w' => e = .returned (.bool true) ∧ Below w.heap.size w w' :=
  blanks_walk s Ag cg gs w hg (by omega) hcg (fun x hx => by
    have := hgw x hx
    simp [Lit.wf, IntKind.min, IntKind.max, IntKind.signed, IntKind.bits] at this
    omega) htab
end Go.Proofs.YthaejpkldpkddaaDoor.Scn
