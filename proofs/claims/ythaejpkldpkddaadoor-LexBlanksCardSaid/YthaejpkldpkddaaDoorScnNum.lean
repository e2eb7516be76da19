/- lex.scanner's number. -/
import Derived.Test.YthaejpkldpkddaaDoorScnWord
import Derived.Lib.OthersKept
import Derived.BigQuiet
namespace Go.Proofs.YthaejpkldpkddaaDoor.Scn
open Go.RowKit Go.Proofs.YthaejpkldpkddaaDoorW.PrintWords Go.Proofs.YthaejpkldpkddaaDoorW.PrintLast Go.Proofs.YthaejpkldpkddaaDoorW.PrintMore
set_option linter.unusedVariables false
set_option linter.unusedSimpArgs false
attribute [local go_sem] drewN_set drewN_new

/-- What the digits of d say from place i on; none: too great. -/
def numF (d : ByteArray) : Nat → Nat → Int → Option Int
  | 0, _, n => some n
  | f + 1, i, n => if 2147483648 < n * 10 + (bt d (i : Int) - 48) then none else numF d f (i + 1) (n * 10 + (bt d (i : Int) - 48))

/-- What a number at p, whose digits d reach to q, says; none: too great, or a letter behind it. -/
def numR (s d : ByteArray) (q : Nat) : Option Int := (numF d d.size 0 0).bind fun n => if q < s.size ∧ letterB (bt s (q : Int)) = true then none else some n

def TokOr (o : Option PLexBlanks.S31) (p ec : Int) (w : World) (e : Ending) (w' : World) : Prop :=
  match o with
  | some t => TokPost t w e w'
  | none => e = .panicked (faultAt p ec) ∧ Below w.heap.size w w'

/-- The boxes of 'number' in its loop. -/
structure NumSt (w W : World) (d : ByteArray) (p q : Int) (i : Nat) (n : Int) : Prop where
  a : W.heap[w.heap.size]? = some (.cells #[.int .i64 0, .int .i64 0, .int .i64 0, .int .i64 0, .string ⟨#[]⟩] 31 (0, 0))
  b : W.heap[w.heap.size + 1]? = some (.cells #[.int .i64 2, .int .i64 p, .int .i64 q, .int .i64 n, .string ⟨#[]⟩] 31 (0, 0))
  c : W.heap[w.heap.size + 2]? = some (.stringIter d i)
  below : Below w.heap.size w W

theorem bt_ext (s : ByteArray) (p q i : Nat) (hq : q ≤ s.size) (h : p + i < q) : bt (s.extract p q) (i : Int) = bt s ((p + i : Nat) : Int) := by
  have hs : (s.extract p q).size = q - p := by rw [ByteArray.size_extract]; omega
  unfold bt
  rw [dif_pos (by simp [hs]; omega), dif_pos (by simp; omega)]
  simp only [ByteArray.getElem_extract, Int.toNat_natCast]

theorem numSt_start (w : World) (A B : Obj) (m : Nat) (d : ByteArray) (p q n : Int) (hA : A = .cells #[.int .i64 0, .int .i64 0, .int .i64 0, .int .i64 0, .string ⟨#[]⟩] 31 (0, 0)) (hB : B = .cells #[.int .i64 2, .int .i64 p, .int .i64 q, .int .i64 n, .string ⟨#[]⟩] 31 (0, 0)) :
    NumSt w ((((w.alloc A).alloc B).drewN m).iter d 0) d p q 0 n := by
  have h1 : (((w.alloc A).alloc B).drewN m).heap[w.heap.size]? = some A := blk_alloc (blk_new w A) B
  have h2 : (((w.alloc A).alloc B).drewN m).heap[w.heap.size + 1]? = some B := by
    have := blk_new (w.alloc A) B
    simpa using this
  have hsz : (((w.alloc A).alloc B).drewN m).heap.size = w.heap.size + 2 := by
    show ((w.alloc A).alloc B).heap.size = _
    rw [World.size_alloc, World.size_alloc]
  refine ⟨?_, ?_, ?_, ?_⟩
  · rw [← hA]; exact blk_alloc h1 _
  · rw [← hB]; exact blk_alloc h2 _
  · rw [← hsz]; exact World.iter_heap _ _ _
  · exact below_alloc (pw_below_drewN (below_alloc (below_alloc (Below.refl _ _) A) B) _) _

theorem numSt_step {w W : World} {d : ByteArray} {p q : Int} {i : Nat} {n : Int} (h : NumSt w W d p q i n) (m : Int) (k : Nat) :
    NumSt w ((W.iterAt (w.heap.size + 2) d k).setCell ⟨w.heap.size + 1, 3, none⟩ (.int .i64 m)) d p q k m := by
  obtain ⟨ha, hb, hc, hB⟩ := h
  have ha' : (W.iterAt (w.heap.size + 2) d k).heap[w.heap.size]? = _ := (Lib.iterAt_other W (w.heap.size + 2) _ d k (by omega)).trans ha
  have hb' : (W.iterAt (w.heap.size + 2) d k).heap[w.heap.size + 1]? = _ := (Lib.iterAt_other W (w.heap.size + 2) _ d k (by omega)).trans hb
  have hc' := Lib.iterAt_heap W (w.heap.size + 2) d i k hc
  refine ⟨blk_far ha' (by simp) _, ?_, ?_, ?_⟩
  · exact blk_put hb' 3 _ rfl
  · exact (Below.heap_setCell _ _ _ _ (by simp)).trans hc'
  · exact below_set (Lib.below_iterAt hB (by omega) d k) (by simp)

theorem numSt_drew {w W : World} {d : ByteArray} {p q : Int} {i : Nat} {n : Int} (h : NumSt w W d p q i n) (m : Nat) : NumSt w (W.drewN m) d p q i n := ⟨h.a, h.b, h.c, pw_below_drewN h.below m⟩

theorem numF_step (d : ByteArray) (i : Nat) (n : Int) (h : i < d.size) : numF d (d.size - i) i n = if 2147483648 < n * 10 + (bt d (i : Int) - 48) then none else numF d (d.size - (i + 1)) (i + 1) (n * 10 + (bt d (i : Int) - 48)) := by
  rw [show d.size - i = (d.size - (i + 1)) + 1 by omega]
  rfl
theorem letter_q (c : Int) (w : World) (n : Nat) : Calls Tryd.prog 13 #[.int .u8 c] (w.drewN n) fun e w'' => e = .returned (.bool (letterB c)) ∧ ∃ m, w'' = w.drewN m :=
  Calls.quiet_of ((letter_any c _).mono (by rintro e w1 ⟨rfl, ⟨⟨m, h⟩⟩⟩; exact ⟨rfl, m, h⟩))
theorem numR_none (s d : ByteArray) (q : Nat) (h : numF d d.size 0 0 = none) : numR s d q = none := by unfold numR; rw [h]; rfl
theorem numR_bad (s d : ByteArray) (q : Nat) (n : Int) (h : numF d d.size 0 0 = some n) (h1 : q < s.size) (h2 : letterB (bt s (q : Int)) = true) : numR s d q = none := by unfold numR; rw [h]; exact if_pos ⟨h1, h2⟩
theorem numR_ok (s d : ByteArray) (q : Nat) (n : Int) (h : numF d d.size 0 0 = some n) (h1 : ¬ (q < s.size ∧ letterB (bt s (q : Int)) = true)) : numR s d q = some n := by unfold numR; rw [h]; exact if_neg h1

set_option maxHeartbeats 4000000 in
set_option maxRecDepth 100000 in
theorem number_any (g : Nat) (s : ByteArray) (p q : Nat) (tl : TL) (w0 w : World) (hs : s.size ≤ 65536) (hI : IsS41 w0 w g s (p : Int) tl) (hpq : p ≤ q) (hq : q ≤ s.size)
    (hall : ∀ i : Nat, p ≤ i → i < q → digitB (bt s (i : Int)) = true) (hend : q < s.size → digitB (bt s (q : Int)) = false) (d : ByteArray) (hd : d = s.extract p q) (r : Option Int) (hr : r = numR s d q) :
    Calls Tryd.prog 16 #[.pointer (some ⟨g, 0, none⟩)] w (TokOr (r.map fun n => ⟨2, p, q, n, ⟨#[]⟩⟩) p 101 w) := by
  have HR := Lib.hid (fun W (h : IsS41 w0 W g s (p : Int) tl) => run_digit g s p q tl w0 W hs h hpq hq hall hend)
  have HI := Lib.hid hI
  have HF := Lib.hid (fun W (h : IsS41 w0 W g s (p : Int) tl) => fail_any g s p tl w0 W 101 h)
  have hlen : d.size = q - p := by rw [hd, ByteArray.size_extract]; omega
  have hdig : Hid (∀ i : Nat, i < d.size → digitB (bt d (i : Int)) = true) := Lib.hid (by
    intro i hi
    rw [hd, bt_ext s p q i hq (by omega)]
    exact hall (p + i) (by omega) (by omega))
  obtain ⟨A2, c2, hb, hg, rfl, rfl⟩ := hI
  have h0 := cellS41_0 hb
  have h1 := cellS41_1 hb
  have hlt := blk_lt hb
  have hlt1 : g < w.heap.size + 1 := by omega
  have hlt2 : g < w.heap.size + 2 := by omega
  rw [← hd] at HR
  have Hr := Lib.hid hr
  have hadd : (p : Int) + ((q - p : Nat) : Int) = (q : Int) := by omega
  clear hb hall hend hd hr
  go_enter Tryd.func16, Tryd.ntmps16
  go_wp2_with fail
  refine (HR.out _ (HI.out.alloc _)).mono ?_
  rintro e w1 ⟨rfl, ⟨⟨n1, rfl⟩⟩⟩
  go_wp2_with fail
  go_region
  go_wp2_with fail
  go_loopw [] (fun W => ∃ (i : Nat) (n : Int), i ≤ d.size ∧ 0 ≤ n ∧ n ≤ 2147483648 ∧ NumSt w W d p q i n ∧ numF d (d.size - i) i n = numF d d.size 0 0) (fun W => d.size - W.iterPos (w.heap.size + 2))
  case atStart => exact ⟨0, 0, by omega, by omega, by omega, numSt_start _ _ _ _ _ _ _ _ rfl rfl, rfl⟩
  case round =>
    obtain ⟨i, n, hi, hn0, hn1, St, hN⟩ := hrel
    obtain ⟨hBa, hBb, hBc, hBw⟩ := St
    have hIw := HI.out.below hBw
    by_cases hlt3 : i < d.size
    · have hcb : ((d[i]'hlt3).toNat : Int) = bt d (i : Int) := bt_at d (i : Int) (by simpa using hlt3)
      have hdg := hdig.out i hlt3
      rw [← hcb] at hdg
      simp only [digitB, Bool.and_eq_true, decide_eq_true_eq] at hdg
      obtain ⟨hd1, hd2⟩ := hdg
      have hnx : ∀ ty, (Instr.next (.pointer (some ⟨w.heap.size + 1 + 1, 0, none⟩)) true ty).run Tryd.prog wr = _ := fun ty => Lib.run_next_ascii_at wr (w.heap.size + 1 + 1) d i ty hBc hlt3 (by omega)
      have HSt := Lib.hid (numSt_step (NumSt.mk hBa hBb hBc hBw) (n * 10 + (bt d (i : Int) - 48)) (i + 1))
      have hb' : (wr.iterAt (w.heap.size + 1 + 1) d (i + 1)).heap[w.heap.size + 1]? = _ := (Lib.iterAt_other wr (w.heap.size + 1 + 1) _ d (i + 1) (by omega)).trans hBb
      have HN := Lib.hid hN
      have HCB := Lib.hid hcb
      have hzz := blk_lt hb'
      obtain ⟨W1, hW1⟩ : ∃ W1, W1 = wr.iterAt (w.heap.size + 1 + 1) d (i + 1) := ⟨_, rfl⟩
      rw [← hW1] at hnx hb' hzz
      have hx3 := blk_cell hb' 3
      have hf3 := blk_frozen hb' 3
      simp only [List.getElem?_toArray, List.getElem?_cons_zero, List.getElem?_cons_succ] at hx3
      have HW1 := Lib.hid hW1
      have hcc := Lib.hid hBc
      clear hBa hBb hBc hb' hW1 hN hcb
      obtain ⟨C, hC⟩ : ∃ C : Int, C = ((d[i]'hlt3).toNat : Int) := ⟨_, rfl⟩
      rw [← hC] at hd1 hd2 hnx HCB
      clear hC
      by_cases hbig : 2147483648 < n * 10 + (C - 48)
      · go_wp2_with (go_at_call 12; refine (HF.out _ ?_).mono ?_; rotate_left; rintro e w4 ⟨rfl, rfl⟩)
        · have hnone : numF d d.size 0 0 = none := by rw [← HN.out, numF_step d i n hlt3, if_pos (by rw [← HCB.out]; exact hbig)]
          have hb := HSt.out.below
          rw [← HCB.out, show wr.iterAt (w.heap.size + 2) d (i + 1) = W1 from HW1.out.symm] at hb
          rw [Hr.out, numR_none s d q hnone]
          exact ⟨rfl, rfl, hb⟩
        · have hb := HSt.out.below
          rw [← HCB.out, show wr.iterAt (w.heap.size + 2) d (i + 1) = W1 from HW1.out.symm] at hb
          exact HI.out.below hb
      · go_wp2_with fail
        have hst := HSt.out
        rw [← HCB.out, show wr.iterAt (w.heap.size + 2) d (i + 1) = W1 from HW1.out.symm] at hst
        refine ⟨⟨i + 1, _, by omega, by omega, by omega, hst, ?_⟩, ?_⟩
        · rw [← HN.out, numF_step d i n hlt3, if_neg (by rw [← HCB.out]; exact hbig), ← HCB.out]
        · rw [iterPos_of hst.c, iterPos_of hcc.out]; omega
    · have hnx : ∀ ty, (Instr.next (.pointer (some ⟨w.heap.size + 1 + 1, 0, none⟩)) true ty).run Tryd.prog wr = _ := fun ty => Lib.run_next_end_at wr (w.heap.size + 1 + 1) d i ty hBc (by omega)
      have hN' : numF d d.size 0 0 = some n := by rw [← hN, show d.size - i = 0 by omega]; rfl
      have HN := Lib.hid hN'
      have HBw := Lib.hid hBw
      (have hc0 := blk_cell hBa 0; have hc1 := blk_cell hBa 1; have hc2 := blk_cell hBa 2; have hc3 := blk_cell hBa 3; have hc4 := blk_cell hBa 4; have hd0 := blk_cell hBb 0; have hd1 := blk_cell hBb 1; have hd2 := blk_cell hBb 2; have hd3 := blk_cell hBb 3; have hd4 := blk_cell hBb 4; have hf0 := blk_frozen hBa 0; have hf1 := blk_frozen hBa 1; have hf2 := blk_frozen hBa 2; have hf3 := blk_frozen hBa 3; have hf4 := blk_frozen hBa 4; have hg0 := blk_frozen hBb 0; have hg1 := blk_frozen hBb 1; have hg2 := blk_frozen hBb 2; have hg3 := blk_frozen hBb 3; have hg4 := blk_frozen hBb 4; simp only [List.getElem?_toArray, List.getElem?_cons_zero, List.getElem?_cons_succ] at hc0 hc1 hc2 hc3 hc4 hd0 hd1 hd2 hd3 hd4)
      have hz1 := blk_lt hBa
      have hz2 := blk_lt hBb
      have hw0 : wr.cell? ⟨g, 0, none⟩ = some (.string s) := by
        obtain ⟨A2, c2, hb, hg, _, _⟩ := hIw
        exact cellS41_0 hb
      clear hBa hBb hBc hN hN' hBw
      by_cases hqs : q < s.size
      · have hbq : ((s[q]'hqs).toNat : Int) = bt s (q : Int) := bt_at s (q : Int) (by simpa using hqs)
        have hdq : decide ((q : Int) < (s.size : Int)) = true := by simp; omega
        cases hL : letterB (bt s (q : Int)) with
        | true =>
          have hL' : letterB ((s[q]'hqs).toNat : Int) = true := by rw [hbq]; exact hL
          clear hbq
          go_wp2_with fail
          go_quiet (first | (go_at_call 13; exact letter_q _ _ _))
          simp only [hL']
          go_wp2_with (go_at_call 12; refine (HF.out _ ?_).mono ?_; rotate_left; rintro e w4 ⟨rfl, rfl⟩)
          · rw [Hr.out, numR_bad s d q n HN.out hqs hL]
            exact ⟨rfl, rfl, pw_below_drewN HBw.out _⟩
          · exact (HI.out.below HBw.out).drewN _
        | false =>
          have hL' : letterB ((s[q]'hqs).toNat : Int) = false := by rw [hbq]; exact hL
          clear hbq
          go_wp2_with fail
          go_quiet (first | (go_at_call 13; exact letter_q _ _ _))
          simp only [hL']
          go_wp2
          rw [Hr.out, numR_ok s d q n HN.out (by rw [hL]; simp)]
          refine bodyPost_ret (v := .agg #[.int .i64 2, .int .i64 p, .int .i64 q, .int .i64 n, .string ⟨#[]⟩]) (by simp [results, Tryd.results32, go_sem, hc0, hc1, hc2, hc3, hc4, hd0, hd1, hd2, hd3, hd4, hz1, hz2]) rfl ⟨rfl, ?_⟩
          have hBw := HBw.out
          repeat (with_reducible first | exact hBw | apply below_alloc | apply pw_below_drewN | refine below_set ?_ (by first | (with_reducible exact Nat.le_refl _) | (simp; done) | (simp; omega)))
      · go_wp2_with fail
        go_quiet (fail)
        go_wp2
        rw [Hr.out, numR_ok s d q n HN.out (by omega)]
        refine bodyPost_ret (v := .agg #[.int .i64 2, .int .i64 p, .int .i64 q, .int .i64 n, .string ⟨#[]⟩]) (by simp [results, Tryd.results32, go_sem, hc0, hc1, hc2, hc3, hc4, hd0, hd1, hd2, hd3, hd4, hz1, hz2]) rfl ⟨rfl, ?_⟩
        have hBw := HBw.out
        repeat (with_reducible first | exact hBw | apply below_alloc | apply pw_below_drewN | refine below_set ?_ (by first | (with_reducible exact Nat.le_refl _) | (simp; done) | (simp; omega)))
end Go.Proofs.YthaejpkldpkddaaDoor.Scn
