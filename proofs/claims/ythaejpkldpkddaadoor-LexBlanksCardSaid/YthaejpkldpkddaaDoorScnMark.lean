/- lex.scanner's mark; what lex.Kind answers, as a plain function. -/
import Derived.Test.YthaejpkldpkddaaDoorScnNum
import Derived.Deep.RegionWith
import Derived.StillTailTactics
namespace Go.Proofs.YthaejpkldpkddaaDoor.Scn
open Go.RowKit Go.Proofs.YthaejpkldpkddaaDoorW.PrintWords Go.Proofs.YthaejpkldpkddaaDoorW.PrintLast Go.Proofs.YthaejpkldpkddaaDoorW.PrintMore
set_option linter.unusedVariables false
set_option linter.unusedSimpArgs false
attribute [local go_sem] max2_int min2_int max_two min_two
attribute [local go_sem] drewN_set drewN_new

/-- The place of a text among words, from a place on. -/
def place (s : List UInt8) : List ByteArray → Int → Option Int
  | [], _ => none
  | w :: r, i => if s = w.toList then some i else place s r (i + 1)

theorem index_loop (ws : List ByteArray) (s : ByteArray) (hw : ws.length ≤ 1000) : ∀ (d : Nat) (i k : Nat), i + d = ws.length → d < k →
    PLexBlanks.slices_Index_string_string.l0 k ws s (ws.length : Int) (i : Int) = some ((place s.toList (ws.drop i) (i : Int)).getD (-1)) := by
  intro d
  induction d with
  | zero =>
    intro i k hi hk
    obtain ⟨k, rfl⟩ : ∃ m, k = m + 1 := ⟨k - 1, by omega⟩
    simp only [PLexBlanks.slices_Index_string_string.l0]
    rw [if_neg (by omega), List.drop_eq_nil_of_le (by omega)]
    rfl
  | succ d ih =>
    intro i k hi hk
    obtain ⟨k, rfl⟩ : ∃ m, k = m + 1 := ⟨k - 1, by omega⟩
    have hl : i < ws.length := by omega
    simp only [PLexBlanks.slices_Index_string_string.l0]
    rw [if_pos (by omega), if_pos (by omega), if_pos (by omega), List.drop_eq_getElem_cons hl]
    have e : rdOf ByteArray.empty ws (i : Int) = ws[i] := by simp [rdOf, List.getD_eq_getElem?_getD, List.getElem?_eq_getElem hl]
    rw [e]
    simp only [place]
    by_cases h : s.toList = ws[i].toList
    · rw [if_pos h, if_pos h]; rfl
    · rw [if_neg h, if_neg h]
      have ew : wrap64 ((i : Int) + 1) = ((i + 1 : Nat) : Int) := by unfold wrap64; omega
      rw [ew, ih (i + 1) k (by omega) (by omega)]
      rfl

/-- The words, as the printed functions hold them. -/
def ws : List ByteArray := (PLexBlanks.lex_words.f).getD []
theorem ws_some : PLexBlanks.lex_words.f = some ws := rfl
theorem ws_len : ws.length = 47 := by decide +kernel

theorem place_range (s : List UInt8) : ∀ (l : List ByteArray) (i : Int) (j : Int), place s l i = some j → i ≤ j ∧ j < i + l.length
  | [], _, _, h => by simp [place] at h
  | w :: r, i, j, h => by
    simp only [place] at h
    split at h
    · cases h; simp only [List.length_cons]; omega
    · have := place_range s r (i + 1) j h
      simp only [List.length_cons]; omega

/-- What lex.Kind answers. -/
def kindV (t : ByteArray) : Int × Bool := match place t.toList ws 0 with | some j => (j + 3, true) | none => (0, false)

theorem kind_v (t : ByteArray) : PLexBlanks.lex_Kind.f 60 t = some (kindV t) := by
  obtain ⟨k, hk⟩ : ∃ k : Nat, k = 60 := ⟨60, rfl⟩
  rw [← hk]
  unfold PLexBlanks.lex_Kind.f PLexBlanks.slices_Index_string_string.f kindV
  rw [ws_some]
  simp only [Option.bind_some]
  have a' : PLexBlanks.slices_Index_string_string.l0 k ws t (ws.length : Int) 0 = some ((place t.toList (ws.drop 0) 0).getD (-1)) := index_loop ws t (by rw [ws_len]; omega) 47 0 k (by rw [ws_len]) (by omega)
  rw [a', List.drop_zero]
  simp only [Option.bind_some]
  cases h : place t.toList ws 0 with
  | none => simp only [Option.getD_none]; rw [if_pos (by omega)]
  | some j =>
    have r := place_range _ _ _ _ h
    rw [ws_len] at r
    simp only [Option.getD_some]
    rw [if_neg (by omega)]
    have : wrap64 (3 + j) = j + 3 := by unfold wrap64; omega
    rw [this]

theorem kind_c (t : ByteArray) (w : World) : Calls Tryd.prog 22 #[.string t] w fun e w' => e = .returned (.tuple #[.int .i64 (kindV t).1, .bool (kindV t).2]) ∧ Below w.heap.size w w' :=
  kind_any t 60 (kindV t).1 (kindV t).2 (kind_v t) w

/-- The mark at p, of at most n bytes. -/
def markF (s : ByteArray) (p : Nat) : Nat → Option (Int × Nat)
  | 0 => none
  | n + 1 => if (kindV (s.extract p (p + (n + 1)))).2 = true then some ((kindV (s.extract p (p + (n + 1)))).1, n + 1) else markF s p n
def markV (s : ByteArray) (p : Nat) : Option (Int × Nat) := markF s p (min 2 (s.size - p))

structure MarkSt (w W : World) : Prop where
  a : W.heap[w.heap.size]? = some (.cells #[.int .i64 0, .int .i64 0, .int .i64 0, .int .i64 0, .string ⟨#[]⟩] 31 (0, 0))
  below : Below w.heap.size w W
theorem wrap_add (p n : Nat) (h : p + n ≤ 65536) : IntKind.i64.wrap ((p : Int) + (n : Int)) = (p : Int) + (n : Int) := by
  rw [IntWalk.i64_left]
  exact IntWalk.wrap64_in _ (by omega)
theorem markF_step (s : ByteArray) (p n : Nat) (h : 1 ≤ n) : markF s p n = if (kindV (s.extract p (p + n))).2 = true then some ((kindV (s.extract p (p + n))).1, n) else markF s p (n - 1) := by
  obtain ⟨m, rfl⟩ : ∃ m, n = m + 1 := ⟨n - 1, by omega⟩
  rfl
theorem MarkSt.next {w W W2 : World} (h : MarkSt w W) (b : Below W.heap.size W W2) : MarkSt w W2 :=
  ⟨blk_below h.a b, h.below.trans (b.mono h.below.size)⟩
theorem MarkSt.drew {w W : World} (h : MarkSt w W) : MarkSt w W.drew := ⟨h.a, h.below.os, h.below.tape, h.below.output, h.below.size, h.below.block⟩
theorem MarkSt.drewN {w W : World} (h : MarkSt w W) (n : Nat) : MarkSt w (W.drewN n) := ⟨h.a, pw_below_drewN h.below n⟩

set_option maxHeartbeats 4000000 in
set_option maxRecDepth 100000 in
theorem mark_any (g : Nat) (s : ByteArray) (p : Nat) (tl : TL) (w0 w : World) (hs : s.size ≤ 65536) (hI : IsS41 w0 w g s (p : Int) tl) (hp : p < s.size) (r : Option (Int × Nat)) (hr : r = markV s p) :
    Calls Tryd.prog 17 #[.pointer (some ⟨g, 0, none⟩)] w (TokOr (r.map fun x => ⟨x.1, p, p + x.2, 0, ⟨#[]⟩⟩) p 100 w) := by
  have HI := Lib.hid hI
  have HF := Lib.hid (fun W (h : IsS41 w0 W g s (p : Int) tl) => fail_any g s p tl w0 W 100 h)
  obtain ⟨A2, c2, hb, hg, rfl, rfl⟩ := hI
  have h0 := cellS41_0 hb
  have h1 := cellS41_1 hb
  have hlt := blk_lt hb
  have hlt1 : g < w.heap.size + 1 := by omega
  have Hr := Lib.hid hr
  clear hb hr
  have hmn : min (2 : Int) ((s.size : Int) - (p : Int)) = ((min 2 (s.size - p) : Nat) : Int) := by omega
  go_enter Tryd.func17, Tryd.ntmps17
  have St00 : Hid (MarkSt w (w.alloc (.cells #[.int .i64 0, .int .i64 0, .int .i64 0, .int .i64 0, .string ⟨#[]⟩] 31))) := Lib.hid ⟨blk_new w _, below_alloc (Below.refl _ _) _⟩
  go_upto_region 1 with fail
  go_cut [3] (fun v3 wx => v3 = .int .i64 ((min 2 (s.size - p) : Nat) : Int) ∧ MarkSt w wx)
  case first =>
    go_region
    all_goals (try go_wp2_with fail)
    all_goals (go_meet; exact ⟨by congr 1; omega, by first | exact St00.out | exact St00.out.drewN _⟩)
  case rest =>
    obtain ⟨rfl, St0⟩ := hcut
    obtain ⟨n0, hn0⟩ : ∃ n0 : Nat, n0 = min 2 (s.size - p) := ⟨_, rfl⟩
    rw [← hn0]
    go_wp2_with fail
    go_loopw [3] (fun x W => ∃ n : Nat, n ≤ 2 ∧ p + n ≤ s.size ∧ x = .int .i64 (n : Int) ∧ MarkSt w W ∧ markF s p n = markV s p) (fun x _ => (intOf x).toNat)
    case atStart => exact ⟨n0, by omega, by omega, rfl, St0, by unfold markV; rw [← hn0]⟩
    case round =>
      obtain ⟨n, hn, hpn, rfl, St, hN⟩ := hrel
      have hIw := HI.out.below St.below
      have hSa := St.a
      have hc0 := blk_cell hSa 0
      have hc1 := blk_cell hSa 1
      have hc2 := blk_cell hSa 2
      have hc3 := blk_cell hSa 3
      have hc4 := blk_cell hSa 4
      simp only [List.getElem?_toArray, List.getElem?_cons_zero, List.getElem?_cons_succ] at hc0 hc1 hc2 hc3 hc4
      have hf0 := blk_frozen hSa 0
      have hz1 := blk_lt hSa
      have hw : wr.cell? ⟨g, 0, none⟩ = some (.string s) ∧ wr.cell? ⟨g, 1, none⟩ = some (.int .i64 (p : Int)) := by
        obtain ⟨A2, c2, hb, hg, _, _⟩ := hIw
        exact ⟨cellS41_0 hb, cellS41_1 hb⟩
      obtain ⟨hw0, hw1⟩ := hw
      have HSt := Lib.hid St
      have HN := Lib.hid hN
      clear hSa St hN hIw
      by_cases h1n : 1 ≤ n
      · have hsl : ∀ W, (Instr.slice 9 (.string s) (some (.int .i64 (p : Int))) (some (.int .i64 ((p : Int) + (n : Int)))) none).run Tryd.prog W = .ok (.string (s.extract p (p + n))) W := fun W => by
          have := cut_str s p (p + n) (by omega) (by omega) W
          rw [show ((p + n : Nat) : Int) = (p : Int) + (n : Int) by omega] at this
          exact this
        have hwr := wrap_add p n (by omega)
        obtain ⟨t, ht⟩ : ∃ t, t = s.extract p (p + n) := ⟨_, rfl⟩
        have HK := Lib.hid (fun W => kind_c t W)
        rw [← ht] at hsl
        have HT := Lib.hid ht
        clear ht
        obtain ⟨kd, hkd⟩ : ∃ kd, kd = (kindV t).1 := ⟨_, rfl⟩
        obtain ⟨ok, hok⟩ : ∃ ok, ok = (kindV t).2 := ⟨_, rfl⟩
        rw [← hkd, ← hok] at HK
        have HKD := Lib.hid hkd
        have HOK := Lib.hid hok
        clear hkd hok
        go_wp2_with fail
        go_cut [4, 5] from 17 to 52 (fun v4 v5 wx => v4 = .int .i64 kd ∧ v5 = .bool ok ∧ MarkSt w wx)
        case first =>
          go_region_with (go_at_call 22; refine (HK.out _).mono ?_; rintro e w2 ⟨rfl, b2⟩)
          all_goals (go_wp2_with fail; go_meet; exact ⟨rfl, rfl, (MarkSt.drew HSt.out).next b2⟩)
        case rest =>
          obtain ⟨rfl, rfl, St2⟩ := hcut
          have hI2 := HI.out.below St2.below
          have hw : wc.cell? ⟨g, 0, none⟩ = some (.string s) ∧ wc.cell? ⟨g, 1, none⟩ = some (.int .i64 (p : Int)) := by
            obtain ⟨A2, c2, hb, hg, _, _⟩ := hI2
            exact ⟨cellS41_0 hb, cellS41_1 hb⟩
          obtain ⟨hw0, hw1⟩ := hw
          have hSa := St2.a
          clear hc0 hc1 hc2 hc3 hc4 hf0 hz1
          have hc0 := blk_cell hSa 0
          have hc1 := blk_cell hSa 1
          have hc2 := blk_cell hSa 2
          have hc3 := blk_cell hSa 3
          have hc4 := blk_cell hSa 4
          simp only [List.getElem?_toArray, List.getElem?_cons_zero, List.getElem?_cons_succ] at hc0 hc1 hc2 hc3 hc4
          have hf0 := blk_frozen hSa 0
          have hf1 := blk_frozen hSa 1
          have hf2 := blk_frozen hSa 2
          have hf3 := blk_frozen hSa 3
          have hf4 := blk_frozen hSa 4
          have hz1 := blk_lt hSa
          have HS2 := Lib.hid St2
          clear hSa St2 hI2
          cases ok with
          | true =>
            have hm : markV s p = some (kd, n) := by
              rw [← HN.out, markF_step s p n h1n, ← HT.out, if_pos HOK.out.symm, ← HKD.out]
            have HM := Lib.hid hm
            clear hm
            go_wp2_with fail
            go_region
            go_wp2_with fail
            rw [Hr.out, HM.out]
            refine bodyPost_ret (v := .agg #[.int .i64 kd, .int .i64 p, .int .i64 (p + n), .int .i64 0, .string ⟨#[]⟩]) (by simp [results, Tryd.results33, go_sem, hc0, hc1, hc2, hc3, hc4, hz1]) rfl ⟨rfl, ?_⟩
            have hBw := HS2.out.below
            show Below w.heap.size w (World.drewN _ 1)
            repeat (with_reducible first | exact hBw | apply below_alloc | apply pw_below_drewN | refine below_set ?_ (by first | (with_reducible exact Nat.le_refl _) | (simp; done) | (simp; omega)))
          | false =>
            have hm : markF s p (n - 1) = markV s p := by
              rw [← HN.out, markF_step s p n h1n, ← HT.out, if_neg (by rw [← HOK.out]; decide)]
            have HM := Lib.hid hm
            clear hm
            go_wp2_with fail
            refine ⟨⟨n - 1, by omega, by omega, by congr 1; omega, HS2.out, HM.out⟩, ?_⟩
            simp only [intOf]
            omega
      · have h0n : n = 0 := by omega
        go_wp2_with (go_at_call 12; refine (HF.out _ ?_).mono ?_; rotate_left; rintro e w4 ⟨rfl, rfl⟩)
        · rw [Hr.out, ← HN.out, h0n]
          exact ⟨rfl, rfl, HSt.out.below⟩
        · exact HI.out.below HSt.out.below
end Go.Proofs.YthaejpkldpkddaaDoor.Scn
