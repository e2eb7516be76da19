/- lex.scanner's all: the tokens, or the fault that it panics with. -/
import Derived.Test.YthaejpkldpkddaaDoorScanV
import Derived.Deep.RegionLaw
namespace Go.Proofs.YthaejpkldpkddaaDoor.Scn
open Go.RowKit Go.Proofs.YthaejpkldpkddaaDoorW.PrintWords Go.Proofs.YthaejpkldpkddaaDoorW.PrintLast Go.Proofs.YthaejpkldpkddaaDoorW.PrintMore
set_option linter.unusedVariables false
set_option linter.unusedSimpArgs false
attribute [local go_sem] drewN_set drewN_new

structure AllSt (w0 W : World) (g : Nat) (s : ByteArray) (p : Nat) (l : List Tok) : Prop where
  ex : ∃ tl : TL, IsS41 w0 W g s (p : Int) tl ∧ tl.length = l.length ∧ PLexBlanks.k31.R 31 W w0.heap.size (fun k => k ≠ g) (.slice tl.A tl.length tl.c) l
  below : Below w0.heap.size w0 W

theorem AllSt.after {w0 W W' : World} {g p : Nat} {s : ByteArray} {l : List Tok} (h : AllSt w0 W g s p l) (b : Below W.heap.size W W') : AllSt w0 W' g s p l := by
  obtain ⟨⟨tl, hI, hl, HO⟩, hB⟩ := h
  exact ⟨⟨tl, hI.below b, hl, Kd.R_below HO b⟩, hB.trans (b.mono hB.size)⟩
theorem AllSt.drewN {w0 W : World} {g p : Nat} {s : ByteArray} {l : List Tok} (h : AllSt w0 W g s p l) (n : Nat) : AllSt w0 (W.drewN n) g s p l :=
  h.after ⟨rfl, rfl, rfl, Nat.le_refl _, fun _ _ => rfl⟩
theorem AllSt.drew {w0 W : World} {g p : Nat} {s : ByteArray} {l : List Tok} (h : AllSt w0 W g s p l) : AllSt w0 W.drew g s p l := h.drewN 1

theorem blanks_all (g : Nat) (s : ByteArray) (p : Nat) (l : List Tok) (w0 w : World) (hs : s.size ≤ 65536) (hp : p ≤ s.size) (h : AllSt w0 w g s p l) :
    Calls Tryd.prog 11 #[.pointer (some ⟨g, 0, none⟩)] w fun e w' => e = .returned (.tuple #[]) ∧ AllSt w0 w' g s (blankV s p) l := by
  obtain ⟨⟨tl, hI, hl, HO⟩, hB⟩ := h
  refine (lex_scanner_blanks.calls _ g s (p : Int) tl s (blankV s p : Int) w0 w hI hB (lex_blank_v s hs tl p hp)).mono ?_
  rintro e w' ⟨he, hI', hB', hk⟩
  exact ⟨he, ⟨tl, hI', hl, Kd.R_keep HO hk (fun k h => h)⟩, hB'⟩

theorem gen_world {P : Program} {c : Code} {Q : Exit → Act → World → Prop} {a : Act} {W : World} (Pr : World → Prop) (h : Pr W) (k : ∀ W', Pr W' → Code.wp P c Q a W') : Code.wp P c Q a W := k W h

theorem info31 : (Tryd.prog.info? 31).map (fun i => (i.zero, i.size, i.bytes)) = some (some (.agg #[(.int .i64 0), (.int .i64 0), (.int .i64 0), (.int .i64 0), (.string ⟨#[]⟩)]), 5, 48) := by kernel_rfl
abbrev tokCells (t : Tok) : Array Value := #[.int .i64 t.f0, .int .i64 t.f1, .int .i64 t.f2, .int .i64 t.f3, .string t.f4]
theorem tok_put {W : World} {b : Nat} (h : W.heap[b]? = some (.cells (tokCells ⟨0, 0, 0, 0, ⟨#[]⟩⟩) 31 (0, 0))) (t : Tok) :
    (((((W.setCell ⟨b, 0, none⟩ (.int .i64 t.f0)).setCell ⟨b, 1, none⟩ (.int .i64 t.f1)).setCell ⟨b, 2, none⟩ (.int .i64 t.f2)).setCell ⟨b, 3, none⟩ (.int .i64 t.f3)).setCell ⟨b, 4, none⟩ (.string t.f4)).heap[b]? = some (.cells (tokCells t) 31 (0, 0)) :=
  blk_put (blk_put (blk_put (blk_put (blk_put h 0 _ rfl) 1 _ rfl) 2 _ rfl) 3 _ rfl) 4 _ rfl

theorem one_new {w w2 : World} {A : Obj} {m : Nat} (b : Below ((w.alloc A).drewN m).heap.size ((w.alloc A).drewN m) w2) : w2.heap[w.heap.size]? = some A ∧ Below w.heap.size w w2 := by
  have h1 : ((w.alloc A).drewN m).heap[w.heap.size]? = some A := blk_new w A
  refine ⟨blk_below h1 b, ?_⟩
  have b' := Below.mono b (B' := w.heap.size) (by show w.heap.size ≤ (w.alloc A).heap.size; rw [World.size_alloc]; omega)
  exact Below.trans (pw_below_drewN (below_alloc (Below.refl _ _) A) _) b'
theorem set_2 {w0 W : World} {g : Nat} {f0 : ByteArray} {f1 : Int} {f2 : TL} (h : IsS41 w0 W g f0 f1 f2) (A : Option Addr) (n c : Nat) : IsS41 w0 (W.setCell ⟨g, 2, none⟩ (.slice A n c)) g f0 f1 ⟨A, n, c⟩ := by
  obtain ⟨A2, c2, hb, hg, hr2⟩ := h
  exact ⟨A, c, blk_put hb 2 _ rfl, hg, rfl, rfl⟩
theorem all_next {w0 w1 : World} {g p q n c : Nat} {s : ByteArray} {l : List Tok} {tl : TL} {A : Option Addr} (hI : IsS41 w0 w1 g s (p : Int) tl) (hB : Below w0.heap.size w0 w1) (hn : n = l.length) (x : Int) (hx : x = (q : Int))
    (ho : PLexBlanks.k31.R 31 w1 w0.heap.size (fun k => k ≠ g) (.slice A n c) l) :
    AllSt w0 ((w1.setCell ⟨g, 2, none⟩ (.slice A n c)).setCell ⟨g, 1, none⟩ (.int .i64 x)) g s q l := by
  subst hx
  exact ⟨⟨⟨A, n, c⟩, (set_2 hI A n c).set_1 _, hn, Kd.R_far (p := ⟨g, 1, none⟩) (Kd.R_far (p := ⟨g, 2, none⟩) ho (fun _ h => h) _) (fun _ h => h) _⟩, below_set (below_set hB hI.ge) hI.ge⟩


def AllPost (w0 : World) (g : Nat) (s : ByteArray) (R : Except (Nat × Int) (List Tok)) (e : Ending) (w' : World) : Prop :=
  match R with
  | .ok l => e = .returned (.tuple #[]) ∧ ∃ p, AllSt w0 w' g s p l
  | .error x => e = .panicked (faultAt (x.1 : Int) x.2) ∧ Below w0.heap.size w0 w'

set_option maxHeartbeats 8000000 in
set_option maxRecDepth 100000 in
theorem all_any (g : Nat) (s : ByteArray) (w0 w : World) (hs : s.size ≤ 65536) (h : AllSt w0 w g s 0 []) (R : Except (Nat × Int) (List Tok)) (hR : R = scanF s (s.size + 1) (blankV s 0) []) :
    Calls Tryd.prog 8 #[.pointer (some ⟨g, 0, none⟩)] w (AllPost w0 g s R) := by
  have HBL := Lib.hid (fun W p l (hp : p ≤ s.size) (h : AllSt w0 W g s p l) => blanks_all g s p l w0 W hs hp h)
  have HR := Lib.hid hR
  have H0 := Lib.hid h
  clear hR h
  go_enter Tryd.func8, Tryd.ntmps8
  go_wp2_with (go_at_call 11; refine (HBL.out _ 0 [] (by omega) H0.out).mono ?_; rintro e w1 ⟨rfl, St1⟩)
  go_loopg [] (s.size + 1) (fun f W => ∃ (p : Nat) (l : List Tok), p ≤ s.size ∧ s.size < p + f ∧ l.length ≤ 16384 ∧ AllSt w0 W g s p l ∧ Hid (scanF s f p l = R))
  case atStart =>
    have hb := blankV_le s 0 (by omega)
    exact ⟨blankV s 0, [], hb.2, by omega, by simp, St1, Lib.hid HR.out.symm⟩
  case round =>
    obtain ⟨p, l, hp, hf, hl, St, HS⟩ := hrel
    cases gk with
    | zero => omega
    | succ f =>
      have HSt := Lib.hid St
      obtain ⟨⟨tl, hI, htl, HO⟩, hB⟩ := St
      have HI0 := Lib.hid hI
      have hne0 : (Value.slice tl.A tl.length tl.c).ownBlock ≠ some wr.heap.size := fun he => ((Kd.R_elderB HO wr.heap.size (Nat.le_refl _)).1 _ he).2 rfl
      have hne1 := hI.own_ne HO (by decide)
      rw [htl] at hne0 hne1 HO
      have HNE := Lib.hid (And.intro hne0 hne1)
      clear hne0 hne1
      obtain ⟨A2, c2, hb, hg, rfl, rfl⟩ := hI
      have h0 := cellS41_0 hb
      have h1 := cellS41_1 hb
      have h2 := cellS41_2 hb
      have hlt := blk_lt hb
      rw [htl] at h2
      have HO' := Lib.hid HO
      have HB := Lib.hid hB
      clear hb hB HO
      by_cases hps : p < s.size
      · by_cases hfull : l.length = 16384
        · have hRe : Except.error (p, 4) = R := by
            have h := HS.out
            rw [scanF, if_pos hps, if_pos (by omega)] at h
            exact h
          have HRE := Lib.hid hRe
          clear hRe
          have hfl : ((l.length : Int) == 16384) = true := by simp; omega
          have HF := Lib.hid (fun W (h : IsS41 w0 W g s (p : Int) tl) => fail_any g s p tl w0 W 4 h)
          go_wp2_with fail
          go_quiet (fail)
          go_wp2_with (go_at_call 12; refine (HF.out _ (HI0.out.drewN _)).mono ?_; rintro e w4 ⟨rfl, rfl⟩)
          rw [← HRE.out]
          exact ⟨rfl, rfl, (HSt.out.drewN _).below⟩
        · have hbt : ((s[p]'hps).toNat : Int) = bt s (p : Int) := bt_at s (p : Int) (by simpa using hps)
          have hfl : ((l.length : Int) == 16384) = false := by simp; omega
          have hAl : ∀ m, AllSt w0 ((wr.alloc (.cells (tokCells ⟨0, 0, 0, 0, ⟨#[]⟩⟩) 31)).drewN m) g s p l := fun m => (HSt.out.after (below_alloc (Below.refl _ _) _)).drewN m
          have HAl := Lib.hid hAl
          clear hAl
          have hz : wr.heap.size ≠ g := by omega
          cases hL : letterB (bt s (p : Int)) with
          | true =>
            have hL' : letterB ((s[p]'hps).toNat : Int) = true := by rw [hbt]; exact hL
            clear hbt
            have HW := Lib.hid (fun W (h : AllSt w0 W g s p l) => h.ex.elim fun tl ht => word_tok g s p tl w0 W hs ht.1 hp)
            cases ht : tokAt s p with
            | error ec =>
              have ht' : wordAt s p = .error ec := by rw [← ht]; unfold tokAt; rw [if_pos hL]
              rw [ht'] at HW
              have hRe : Except.error (p, ec) = R := by
                have h := HS.out
                rw [scanF, if_pos hps, if_neg (by omega), ht] at h
                exact h
              have HRE := Lib.hid hRe
              clear hRe
              go_wp2_with fail
              go_quiet (fail)
              go_wp2_with fail
              go_quiet (fail)
              go_wp2_with (first | (go_at_call 13; refine (letter_any _ _).mono ?_; rintro e w1 ⟨rfl, ⟨⟨n1, rfl⟩⟩⟩) | (go_at_call 14; refine (HW.out _ (HAl.out _)).mono ?_; rintro e w2 ⟨rfl, b2⟩))
              rw [← HRE.out]
              exact ⟨rfl, rfl, ((HAl.out _).after b2).below⟩
            | ok t =>
              obtain ⟨e1, q, e2, hq1, hq2⟩ := tokAt_span s p hps t ht
              obtain ⟨hv1, hv2⟩ := blankV_le s q hq2
              have hnx : scanF s f (blankV s q) (l ++ [t]) = R := by
                have h := HS.out
                rw [scanF, if_pos hps, if_neg (by omega), ht] at h
                have e3 : t.f2.toNat = q := by omega
                rw [← e3]
                exact h
              have HNX := Lib.hid hnx
              have E2 := Lib.hid e2
              have HV := Lib.hid (And.intro hv1 hv2)
              clear hnx e1 e2 hv1 hv2
              have ht' : wordAt s p = .ok t := by rw [← ht]; unfold tokAt; rw [if_pos hL]
              rw [ht'] at HW
              go_wp2_with fail
              go_quiet (fail)
              go_wp2_with fail
              go_quiet (fail)
              go_upto_region 12 with (first | (go_at_call 13; refine (letter_any _ _).mono ?_; rintro e w1 ⟨rfl, ⟨⟨n1, rfl⟩⟩⟩) | (go_at_call 14; refine (HW.out _ (HAl.out _)).mono ?_; rintro e w2 ⟨rfl, b2⟩; obtain ⟨hB1, hBw⟩ := one_new b2; have HB1 := Lib.hid hB1; (have hc0 := blk_cell hB1 0; have hc1 := blk_cell hB1 1; have hc2 := blk_cell hB1 2; have hc3 := blk_cell hB1 3; have hc4 := blk_cell hB1 4; have hf0 := blk_frozen hB1 0; have hf1 := blk_frozen hB1 1; have hf2 := blk_frozen hB1 2; have hf3 := blk_frozen hB1 3; have hf4 := blk_frozen hB1 4; have hz1 := blk_lt hB1; simp only [tokCells, List.getElem?_toArray, List.getElem?_cons_zero, List.getElem?_cons_succ] at hc0 hc1 hc2 hc3 hc4); clear hB1))
              refine gen_world (fun W3 => Below wr.heap.size wr W3 ∧ W3.heap[wr.heap.size]? = some (.cells (tokCells t) 31 (0, 0))) ⟨?_, ?_⟩ ?_
              · repeat (with_reducible first | exact hBw | apply below_alloc | apply pw_below_drewN | refine below_set ?_ (by first | (with_reducible exact Nat.le_refl _) | (simp; done) | (simp; omega)))
              · exact tok_put HB1.out t
              · clear hc0 hc1 hc2 hc3 hc4 hf0 hf1 hf2 hf3 hf4 hz1 HB1 hBw b2
                rintro W3 ⟨bW, hbx⟩
                (have hc0 := blk_cell hbx 0; have hc1 := blk_cell hbx 1; have hc2 := blk_cell hbx 2; have hc3 := blk_cell hbx 3; have hc4 := blk_cell hbx 4; have hf0 := blk_frozen hbx 0; have hf1 := blk_frozen hbx 1; have hf2 := blk_frozen hbx 2; have hf3 := blk_frozen hbx 3; have hf4 := blk_frozen hbx 4; have hz1 := blk_lt hbx; simp only [tokCells, List.getElem?_toArray, List.getElem?_cons_zero, List.getElem?_cons_succ] at hc0 hc1 hc2 hc3 hc4)
                have HBX := Lib.hid hbx
                have HI3 := Lib.hid (HI0.out.below bW)
                have HO3 := Lib.hid (Kd.R_below HO'.out bW)
                have HB3 := Lib.hid (HSt.out.after bW).below
                clear hbx bW h0 h1 h2
                have k012 : W3.cell? ⟨g, 0, none⟩ = some (.string s) ∧ W3.cell? ⟨g, 1, none⟩ = some (.int .i64 (p : Int)) ∧ W3.cell? ⟨g, 2, none⟩ = some (.slice tl.A l.length tl.c) ∧ g < W3.heap.size := by
                  obtain ⟨A3, c3, hb3, hg3, rfl, rfl⟩ := HI3.out
                  exact ⟨cellS41_0 hb3, cellS41_1 hb3, by rw [cellS41_2 hb3, htl], blk_lt hb3⟩
                obtain ⟨k0, k1, k2, hlt3⟩ := k012
                go_region_law (
                  refine Kd.R_append_step PLexBlanks.k31 (w0 := w0) (W := W3.drew) w0.heap.size ?hw (.tmp 51) (.tmp 53) 24 31 (.agg #[(.int .i64 0), (.int .i64 0), (.int .i64 0), (.int .i64 0), (.string ⟨#[]⟩)]) 48 ?hop Tryd.underlying24 info31 rfl (by decide) (by omega) (.slice tl.A l.length tl.c) l t [.int .i64 t.f0, .int .i64 t.f1, .int .i64 t.f2, .int .i64 t.f3, .string t.f4] (fun k_ => k_ ≠ g) (fun _ => False) ?hs ?hx (PLexBlanks.k31_mkM _ _ _ t) (fun _ hk => hk.elim) ?aF ?aO ?aB ?aS ?aL ?_
                  case hw => rfl
                  case hop => rfl
                  case hs => rfl
                  case hx => rfl
                  case aF => intro k hk; have : W3.heap.size ≤ k := hk; omega
                  case aO => exact HO3.out
                  case aB => exact ⟨HB3.out.os, HB3.out.tape, HB3.out.output, HB3.out.size, HB3.out.block⟩
                  case aS => exact HB3.out.size
                  case aL => omega
                  intro v1 w1 ho hb hgr hat
                  obtain ⟨A1, c1, e1⟩ := Kd.R_slice ho
                  subst e1
                  have hI1 := IsS41.grown (W := W3.drew) (IsS41.drew HI3.out) hgr HNE.out.2
                  have hbx1 := blk_grown (w := W3.drew) HBX.out hgr (Ne.symm HNE.out.1)
                  have q0 : w1.cell? ⟨g, 0, none⟩ = some (.string s) ∧ w1.cell? ⟨g, 1, none⟩ = some (.int .i64 (p : Int)) ∧ w1.cell? ⟨g, 2, none⟩ = some (.slice tl.A l.length tl.c) ∧ g < w1.heap.size ∧ w1.frozen? ⟨g, 1, none⟩ = false ∧ w1.frozen? ⟨g, 2, none⟩ = false := by
                    obtain ⟨A3, c3, hb3, hg3, rfl, rfl⟩ := hI1
                    exact ⟨cellS41_0 hb3, cellS41_1 hb3, by rw [cellS41_2 hb3, htl], blk_lt hb3, blk_frozen hb3 1, blk_frozen hb3 2⟩
                  obtain ⟨q0, q1, q2, q3, q4, q5⟩ := q0
                  have HNext := Lib.hid (And.intro hI1 (And.intro hb ho))
                  have r2 := blk_cell hbx1 2
                  have r3 := blk_lt hbx1
                  clear hI1 hbx1 hb ho hgr hat)
                all_goals (
                  go_wp2_with (go_at_call 11; refine (HBL.out _ q (l ++ [t]) hq2 ?_).mono ?_; rotate_left; rintro e w5 ⟨rfl, St5⟩)
                  · go_roundg f
                    case measure => omega
                    case rel => exact ⟨blankV s q, l ++ [t], HV.out.2, by have := HV.out.1; omega, by rw [List.length_append, List.length_singleton]; omega, St5, HNX⟩
                  · have ho' := HNext.out.2.2
                    rw [List.length_append, List.length_singleton] at ho'
                    exact all_next HNext.out.1 HNext.out.2.1 (by simp) _ E2.out ho')
          | false =>
            have hL' : letterB ((s[p]'hps).toNat : Int) = false := by rw [hbt]; exact hL
            have hLn : ¬ letterB (bt s (p : Int)) = true := by rw [hL]; decide
            cases hD : digitB (bt s (p : Int)) with
            | true =>
             have hD' : digitB ((s[p]'hps).toNat : Int) = true := by rw [hbt]; exact hD
             clear hbt
             have HW := Lib.hid (fun W (h : AllSt w0 W g s p l) => h.ex.elim fun tl ht => num_tok g s p tl w0 W hs ht.1 hp)
             cases ht : tokAt s p with
             | error ec =>
               have ht' : numAt s p = .error ec := by rw [← ht]; unfold tokAt; rw [if_neg hLn, if_pos hD]
               rw [ht'] at HW
               have hRe : Except.error (p, ec) = R := by
                 have h := HS.out
                 rw [scanF, if_pos hps, if_neg (by omega), ht] at h
                 exact h
               have HRE := Lib.hid hRe
               clear hRe
               go_wp2_with fail
               go_quiet (fail)
               go_wp2_with fail
               go_quiet (fail)
               go_wp2_with (first | (go_at_call 13; refine (letter_any _ _).mono ?_; rintro e w1 ⟨rfl, ⟨⟨n1, rfl⟩⟩⟩) | (go_at_call 15; refine (digit_any _ _).mono ?_; rintro e w1 ⟨rfl, ⟨⟨n1, rfl⟩⟩⟩) | (go_at_call 16; refine (HW.out _ (HAl.out _)).mono ?_; rintro e w2 ⟨rfl, b2⟩))
               rw [← HRE.out]
               exact ⟨rfl, rfl, ((HAl.out _).after b2).below⟩
             | ok t =>
               obtain ⟨e1, q, e2, hq1, hq2⟩ := tokAt_span s p hps t ht
               obtain ⟨hv1, hv2⟩ := blankV_le s q hq2
               have hnx : scanF s f (blankV s q) (l ++ [t]) = R := by
                 have h := HS.out
                 rw [scanF, if_pos hps, if_neg (by omega), ht] at h
                 have e3 : t.f2.toNat = q := by omega
                 rw [← e3]
                 exact h
               have HNX := Lib.hid hnx
               have E2 := Lib.hid e2
               have HV := Lib.hid (And.intro hv1 hv2)
               clear hnx e1 e2 hv1 hv2
               have ht' : numAt s p = .ok t := by rw [← ht]; unfold tokAt; rw [if_neg hLn, if_pos hD]
               rw [ht'] at HW
               go_wp2_with fail
               go_quiet (fail)
               go_wp2_with fail
               go_quiet (fail)
               go_upto_region 12 with (first | (go_at_call 13; refine (letter_any _ _).mono ?_; rintro e w1 ⟨rfl, ⟨⟨n1, rfl⟩⟩⟩) | (go_at_call 15; refine (digit_any _ _).mono ?_; rintro e w1 ⟨rfl, ⟨⟨n1, rfl⟩⟩⟩) | (go_at_call 16; refine (HW.out _ (HAl.out _)).mono ?_; rintro e w2 ⟨rfl, b2⟩; obtain ⟨hB1, hBw⟩ := one_new b2; have HB1 := Lib.hid hB1; (have hc0 := blk_cell hB1 0; have hc1 := blk_cell hB1 1; have hc2 := blk_cell hB1 2; have hc3 := blk_cell hB1 3; have hc4 := blk_cell hB1 4; have hf0 := blk_frozen hB1 0; have hf1 := blk_frozen hB1 1; have hf2 := blk_frozen hB1 2; have hf3 := blk_frozen hB1 3; have hf4 := blk_frozen hB1 4; have hz1 := blk_lt hB1; simp only [tokCells, List.getElem?_toArray, List.getElem?_cons_zero, List.getElem?_cons_succ] at hc0 hc1 hc2 hc3 hc4); clear hB1))
               refine gen_world (fun W3 => Below wr.heap.size wr W3 ∧ W3.heap[wr.heap.size]? = some (.cells (tokCells t) 31 (0, 0))) ⟨?_, ?_⟩ ?_
               · repeat (with_reducible first | exact hBw | apply below_alloc | apply pw_below_drewN | refine below_set ?_ (by first | (with_reducible exact Nat.le_refl _) | (simp; done) | (simp; omega)))
               · exact tok_put HB1.out t
               · clear hc0 hc1 hc2 hc3 hc4 hf0 hf1 hf2 hf3 hf4 hz1 HB1 hBw b2
                 rintro W3 ⟨bW, hbx⟩
                 (have hc0 := blk_cell hbx 0; have hc1 := blk_cell hbx 1; have hc2 := blk_cell hbx 2; have hc3 := blk_cell hbx 3; have hc4 := blk_cell hbx 4; have hf0 := blk_frozen hbx 0; have hf1 := blk_frozen hbx 1; have hf2 := blk_frozen hbx 2; have hf3 := blk_frozen hbx 3; have hf4 := blk_frozen hbx 4; have hz1 := blk_lt hbx; simp only [tokCells, List.getElem?_toArray, List.getElem?_cons_zero, List.getElem?_cons_succ] at hc0 hc1 hc2 hc3 hc4)
                 have HBX := Lib.hid hbx
                 have HI3 := Lib.hid (HI0.out.below bW)
                 have HO3 := Lib.hid (Kd.R_below HO'.out bW)
                 have HB3 := Lib.hid (HSt.out.after bW).below
                 clear hbx bW h0 h1 h2
                 have k012 : W3.cell? ⟨g, 0, none⟩ = some (.string s) ∧ W3.cell? ⟨g, 1, none⟩ = some (.int .i64 (p : Int)) ∧ W3.cell? ⟨g, 2, none⟩ = some (.slice tl.A l.length tl.c) ∧ g < W3.heap.size := by
                   obtain ⟨A3, c3, hb3, hg3, rfl, rfl⟩ := HI3.out
                   exact ⟨cellS41_0 hb3, cellS41_1 hb3, by rw [cellS41_2 hb3, htl], blk_lt hb3⟩
                 obtain ⟨k0, k1, k2, hlt3⟩ := k012
                 go_region_law (
                   refine Kd.R_append_step PLexBlanks.k31 (w0 := w0) (W := W3.drew) w0.heap.size ?hw (.tmp 51) (.tmp 53) 24 31 (.agg #[(.int .i64 0), (.int .i64 0), (.int .i64 0), (.int .i64 0), (.string ⟨#[]⟩)]) 48 ?hop Tryd.underlying24 info31 rfl (by decide) (by omega) (.slice tl.A l.length tl.c) l t [.int .i64 t.f0, .int .i64 t.f1, .int .i64 t.f2, .int .i64 t.f3, .string t.f4] (fun k_ => k_ ≠ g) (fun _ => False) ?hs ?hx (PLexBlanks.k31_mkM _ _ _ t) (fun _ hk => hk.elim) ?aF ?aO ?aB ?aS ?aL ?_
                   case hw => rfl
                   case hop => rfl
                   case hs => rfl
                   case hx => rfl
                   case aF => intro k hk; have : W3.heap.size ≤ k := hk; omega
                   case aO => exact HO3.out
                   case aB => exact ⟨HB3.out.os, HB3.out.tape, HB3.out.output, HB3.out.size, HB3.out.block⟩
                   case aS => exact HB3.out.size
                   case aL => omega
                   intro v1 w1 ho hb hgr hat
                   obtain ⟨A1, c1, e1⟩ := Kd.R_slice ho
                   subst e1
                   have hI1 := IsS41.grown (W := W3.drew) (IsS41.drew HI3.out) hgr HNE.out.2
                   have hbx1 := blk_grown (w := W3.drew) HBX.out hgr (Ne.symm HNE.out.1)
                   have q0 : w1.cell? ⟨g, 0, none⟩ = some (.string s) ∧ w1.cell? ⟨g, 1, none⟩ = some (.int .i64 (p : Int)) ∧ w1.cell? ⟨g, 2, none⟩ = some (.slice tl.A l.length tl.c) ∧ g < w1.heap.size ∧ w1.frozen? ⟨g, 1, none⟩ = false ∧ w1.frozen? ⟨g, 2, none⟩ = false := by
                     obtain ⟨A3, c3, hb3, hg3, rfl, rfl⟩ := hI1
                     exact ⟨cellS41_0 hb3, cellS41_1 hb3, by rw [cellS41_2 hb3, htl], blk_lt hb3, blk_frozen hb3 1, blk_frozen hb3 2⟩
                   obtain ⟨q0, q1, q2, q3, q4, q5⟩ := q0
                   have HNext := Lib.hid (And.intro hI1 (And.intro hb ho))
                   have r2 := blk_cell hbx1 2
                   have r3 := blk_lt hbx1
                   clear hI1 hbx1 hb ho hgr hat)
                 all_goals (
                   go_wp2_with (go_at_call 11; refine (HBL.out _ q (l ++ [t]) hq2 ?_).mono ?_; rotate_left; rintro e w5 ⟨rfl, St5⟩)
                   · go_roundg f
                     case measure => omega
                     case rel => exact ⟨blankV s q, l ++ [t], HV.out.2, by have := HV.out.1; omega, by rw [List.length_append, List.length_singleton]; omega, St5, HNX⟩
                   · have ho' := HNext.out.2.2
                     rw [List.length_append, List.length_singleton] at ho'
                     exact all_next HNext.out.1 HNext.out.2.1 (by simp) _ E2.out ho')
            | false =>
             have hD' : digitB ((s[p]'hps).toNat : Int) = false := by rw [hbt]; exact hD
             have hDn : ¬ digitB (bt s (p : Int)) = true := by rw [hD]; decide
             clear hbt
             have HW := Lib.hid (fun W (h : AllSt w0 W g s p l) => h.ex.elim fun tl ht => mark_tok g s p tl w0 W hs ht.1 hps)
             cases ht : tokAt s p with
             | error ec =>
               have ht' : markAt s p = .error ec := by rw [← ht]; unfold tokAt; rw [if_neg hLn, if_neg hDn]
               rw [ht'] at HW
               have hRe : Except.error (p, ec) = R := by
                 have h := HS.out
                 rw [scanF, if_pos hps, if_neg (by omega), ht] at h
                 exact h
               have HRE := Lib.hid hRe
               clear hRe
               go_wp2_with fail
               go_quiet (fail)
               go_wp2_with fail
               go_quiet (fail)
               go_wp2_with (first | (go_at_call 13; refine (letter_any _ _).mono ?_; rintro e w1 ⟨rfl, ⟨⟨n1, rfl⟩⟩⟩) | (go_at_call 15; refine (digit_any _ _).mono ?_; rintro e w1 ⟨rfl, ⟨⟨n1, rfl⟩⟩⟩) | (go_at_call 17; refine (HW.out _ (HAl.out _)).mono ?_; rintro e w2 ⟨rfl, b2⟩))
               rw [← HRE.out]
               exact ⟨rfl, rfl, ((HAl.out _).after b2).below⟩
             | ok t =>
               obtain ⟨e1, q, e2, hq1, hq2⟩ := tokAt_span s p hps t ht
               obtain ⟨hv1, hv2⟩ := blankV_le s q hq2
               have hnx : scanF s f (blankV s q) (l ++ [t]) = R := by
                 have h := HS.out
                 rw [scanF, if_pos hps, if_neg (by omega), ht] at h
                 have e3 : t.f2.toNat = q := by omega
                 rw [← e3]
                 exact h
               have HNX := Lib.hid hnx
               have E2 := Lib.hid e2
               have HV := Lib.hid (And.intro hv1 hv2)
               clear hnx e1 e2 hv1 hv2
               have ht' : markAt s p = .ok t := by rw [← ht]; unfold tokAt; rw [if_neg hLn, if_neg hDn]
               rw [ht'] at HW
               go_wp2_with fail
               go_quiet (fail)
               go_wp2_with fail
               go_quiet (fail)
               go_upto_region 12 with (first | (go_at_call 13; refine (letter_any _ _).mono ?_; rintro e w1 ⟨rfl, ⟨⟨n1, rfl⟩⟩⟩) | (go_at_call 15; refine (digit_any _ _).mono ?_; rintro e w1 ⟨rfl, ⟨⟨n1, rfl⟩⟩⟩) | (go_at_call 17; refine (HW.out _ (HAl.out _)).mono ?_; rintro e w2 ⟨rfl, b2⟩; obtain ⟨hB1, hBw⟩ := one_new b2; have HB1 := Lib.hid hB1; (have hc0 := blk_cell hB1 0; have hc1 := blk_cell hB1 1; have hc2 := blk_cell hB1 2; have hc3 := blk_cell hB1 3; have hc4 := blk_cell hB1 4; have hf0 := blk_frozen hB1 0; have hf1 := blk_frozen hB1 1; have hf2 := blk_frozen hB1 2; have hf3 := blk_frozen hB1 3; have hf4 := blk_frozen hB1 4; have hz1 := blk_lt hB1; simp only [tokCells, List.getElem?_toArray, List.getElem?_cons_zero, List.getElem?_cons_succ] at hc0 hc1 hc2 hc3 hc4); clear hB1))
               refine gen_world (fun W3 => Below wr.heap.size wr W3 ∧ W3.heap[wr.heap.size]? = some (.cells (tokCells t) 31 (0, 0))) ⟨?_, ?_⟩ ?_
               · repeat (with_reducible first | exact hBw | apply below_alloc | apply pw_below_drewN | refine below_set ?_ (by first | (with_reducible exact Nat.le_refl _) | (simp; done) | (simp; omega)))
               · exact tok_put HB1.out t
               · clear hc0 hc1 hc2 hc3 hc4 hf0 hf1 hf2 hf3 hf4 hz1 HB1 hBw b2
                 rintro W3 ⟨bW, hbx⟩
                 (have hc0 := blk_cell hbx 0; have hc1 := blk_cell hbx 1; have hc2 := blk_cell hbx 2; have hc3 := blk_cell hbx 3; have hc4 := blk_cell hbx 4; have hf0 := blk_frozen hbx 0; have hf1 := blk_frozen hbx 1; have hf2 := blk_frozen hbx 2; have hf3 := blk_frozen hbx 3; have hf4 := blk_frozen hbx 4; have hz1 := blk_lt hbx; simp only [tokCells, List.getElem?_toArray, List.getElem?_cons_zero, List.getElem?_cons_succ] at hc0 hc1 hc2 hc3 hc4)
                 have HBX := Lib.hid hbx
                 have HI3 := Lib.hid (HI0.out.below bW)
                 have HO3 := Lib.hid (Kd.R_below HO'.out bW)
                 have HB3 := Lib.hid (HSt.out.after bW).below
                 clear hbx bW h0 h1 h2
                 have k012 : W3.cell? ⟨g, 0, none⟩ = some (.string s) ∧ W3.cell? ⟨g, 1, none⟩ = some (.int .i64 (p : Int)) ∧ W3.cell? ⟨g, 2, none⟩ = some (.slice tl.A l.length tl.c) ∧ g < W3.heap.size := by
                   obtain ⟨A3, c3, hb3, hg3, rfl, rfl⟩ := HI3.out
                   exact ⟨cellS41_0 hb3, cellS41_1 hb3, by rw [cellS41_2 hb3, htl], blk_lt hb3⟩
                 obtain ⟨k0, k1, k2, hlt3⟩ := k012
                 go_region_law (
                   refine Kd.R_append_step PLexBlanks.k31 (w0 := w0) (W := W3.drew) w0.heap.size ?hw (.tmp 51) (.tmp 53) 24 31 (.agg #[(.int .i64 0), (.int .i64 0), (.int .i64 0), (.int .i64 0), (.string ⟨#[]⟩)]) 48 ?hop Tryd.underlying24 info31 rfl (by decide) (by omega) (.slice tl.A l.length tl.c) l t [.int .i64 t.f0, .int .i64 t.f1, .int .i64 t.f2, .int .i64 t.f3, .string t.f4] (fun k_ => k_ ≠ g) (fun _ => False) ?hs ?hx (PLexBlanks.k31_mkM _ _ _ t) (fun _ hk => hk.elim) ?aF ?aO ?aB ?aS ?aL ?_
                   case hw => rfl
                   case hop => rfl
                   case hs => rfl
                   case hx => rfl
                   case aF => intro k hk; have : W3.heap.size ≤ k := hk; omega
                   case aO => exact HO3.out
                   case aB => exact ⟨HB3.out.os, HB3.out.tape, HB3.out.output, HB3.out.size, HB3.out.block⟩
                   case aS => exact HB3.out.size
                   case aL => omega
                   intro v1 w1 ho hb hgr hat
                   obtain ⟨A1, c1, e1⟩ := Kd.R_slice ho
                   subst e1
                   have hI1 := IsS41.grown (W := W3.drew) (IsS41.drew HI3.out) hgr HNE.out.2
                   have hbx1 := blk_grown (w := W3.drew) HBX.out hgr (Ne.symm HNE.out.1)
                   have q0 : w1.cell? ⟨g, 0, none⟩ = some (.string s) ∧ w1.cell? ⟨g, 1, none⟩ = some (.int .i64 (p : Int)) ∧ w1.cell? ⟨g, 2, none⟩ = some (.slice tl.A l.length tl.c) ∧ g < w1.heap.size ∧ w1.frozen? ⟨g, 1, none⟩ = false ∧ w1.frozen? ⟨g, 2, none⟩ = false := by
                     obtain ⟨A3, c3, hb3, hg3, rfl, rfl⟩ := hI1
                     exact ⟨cellS41_0 hb3, cellS41_1 hb3, by rw [cellS41_2 hb3, htl], blk_lt hb3, blk_frozen hb3 1, blk_frozen hb3 2⟩
                   obtain ⟨q0, q1, q2, q3, q4, q5⟩ := q0
                   have HNext := Lib.hid (And.intro hI1 (And.intro hb ho))
                   have r2 := blk_cell hbx1 2
                   have r3 := blk_lt hbx1
                   clear hI1 hbx1 hb ho hgr hat)
                 all_goals (
                   go_wp2_with (go_at_call 11; refine (HBL.out _ q (l ++ [t]) hq2 ?_).mono ?_; rotate_left; rintro e w5 ⟨rfl, St5⟩)
                   · go_roundg f
                     case measure => omega
                     case rel => exact ⟨blankV s q, l ++ [t], HV.out.2, by have := HV.out.1; omega, by rw [List.length_append, List.length_singleton]; omega, St5, HNX⟩
                   · have ho' := HNext.out.2.2
                     rw [List.length_append, List.length_singleton] at ho'
                     exact all_next HNext.out.1 HNext.out.2.1 (by simp) _ E2.out ho')
      · have hRe : Except.ok l = R := by
          have h := HS.out
          rw [scanF, if_neg hps] at h
          exact h
        have HRE := Lib.hid hRe
        clear hRe
        go_wp2_with fail
        go_quiet (fail)
        go_wp2_with fail
        rw [← HRE.out]
        exact bodyPost_ret (results_none rfl _ _ _) rfl ⟨rfl, p, HSt.out.drewN _⟩
end Go.Proofs.YthaejpkldpkddaaDoor.Scn
