/- lex.scanner's fail, word: a token, or the fault that it panics with. -/
import Derived.Test.YthaejpkldpkddaaDoorScnRun
import Derived.WalkLawsBesides
import Derived.Recover
import Derived.Outline
import Derived.RegionTactic
namespace Go.Proofs.YthaejpkldpkddaaDoor.Scn
open Go.RowKit Go.Proofs.YthaejpkldpkddaaDoorW.PrintWords Go.Proofs.YthaejpkldpkddaaDoorW.PrintLast Go.Proofs.YthaejpkldpkddaaDoorW.PrintMore
set_option linter.unusedVariables false
set_option linter.unusedSimpArgs false
attribute [local go_sem] drewN_set drewN_new

/-- The fault that a scanner panics with. -/
def faultAt (p e : Int) : List PanicEntry := [{ v := .iface 37 (.agg #[.int .i64 p, .int .i64 e]), recovered := false }]

set_option maxHeartbeats 1000000 in
set_option maxRecDepth 100000 in
theorem fail_any (g : Nat) (s : ByteArray) (p : Int) (tl : TL) (w0 w : World) (ec : Int) (hI : IsS41 w0 w g s p tl) :
    Calls Tryd.prog 12 #[.pointer (some ⟨g, 0, none⟩), .int .i64 ec] w fun e w' => e = .panicked (faultAt p ec) ∧ w' = w := by
  obtain ⟨A2, c2, hb, hg, rfl, rfl⟩ := hI
  have h0 := cellS41_0 hb
  have h1 := cellS41_1 hb
  clear hb
  go_enter Tryd.func12, Tryd.ntmps12
  go_wp2
  exact ⟨rfl, rfl, rfl⟩

def TokPost (t : PLexBlanks.S31) (w : World) (e : Ending) (w' : World) : Prop :=
  e = .returned (.agg #[.int .i64 t.f0, .int .i64 t.f1, .int .i64 t.f2, .int .i64 t.f3, .string t.f4]) ∧ Below w.heap.size w w'

theorem kind_any (s : ByteArray) (kk : Nat) (kd : Int) (ok : Bool) (h : PLexBlanks.lex_Kind.f kk s = some (kd, ok)) (w : World) : Calls Tryd.prog 22 #[.string s] w fun e w' => e = .returned (.tuple #[.int .i64 kd, .bool ok]) ∧ Below w.heap.size w w' :=
  PLexBlanks.lex_Kind.calls kk s kd ok w h
theorem name_any (s : ByteArray) (kk : Nat) (r : Bool) (h : PLexBlanks.wire_IsName.f kk s = some r) (w : World) : Calls Tryd.prog 23 #[.string s] w fun e w' => e = .returned (.bool r) ∧ Drawn0 w w' :=
  PLexBlanks.wire_IsName.calls kk s r w h

theorem two_new {w w2 : World} {A B : Obj} {m : Nat} (b : Below (((w.alloc A).alloc B).drewN m).heap.size (((w.alloc A).alloc B).drewN m) w2) :
    w2.heap[w.heap.size]? = some A ∧ w2.heap[w.heap.size + 1]? = some B ∧ Below w.heap.size w w2 := by
  have h1 : (((w.alloc A).alloc B).drewN m).heap[w.heap.size]? = some A := blk_alloc (blk_new w A) B
  have h2 : (((w.alloc A).alloc B).drewN m).heap[w.heap.size + 1]? = some B := by
    have := blk_new (w.alloc A) B
    simpa using this
  refine ⟨blk_below h1 b, blk_below h2 b, ?_⟩
  have b' := Below.mono b (B' := w.heap.size) (by show w.heap.size ≤ ((w.alloc A).alloc B).heap.size; rw [World.size_alloc, World.size_alloc]; omega)
  refine Below.trans ?_ b'
  apply pw_below_drewN
  exact below_alloc (below_alloc (Below.refl _ _) A) B

set_option maxHeartbeats 4000000 in
set_option maxRecDepth 100000 in
theorem word_known (g : Nat) (s : ByteArray) (p q : Nat) (tl : TL) (w0 w : World) (hs : s.size ≤ 65536) (hI : IsS41 w0 w g s (p : Int) tl) (hpq : p ≤ q) (hq : q ≤ s.size)
    (hall : ∀ i : Nat, p ≤ i → i < q → wordB (bt s (i : Int)) = true) (hend : q < s.size → wordB (bt s (q : Int)) = false) (kk : Nat) (kd : Int) (hK : PLexBlanks.lex_Kind.f kk (s.extract p q) = some (kd, true)) :
    Calls Tryd.prog 14 #[.pointer (some ⟨g, 0, none⟩)] w (TokPost ⟨kd, p, q, 0, ⟨#[]⟩⟩ w) := by
  have HR := Lib.hid (fun W (h : IsS41 w0 W g s (p : Int) tl) => run_word g s p q tl w0 W hs h hpq hq hall hend)
  have HI := Lib.hid hI
  have HK := Lib.hid (fun W => kind_any (s.extract p q) kk kd true hK W)
  have hlen : (s.extract p q).size = q - p := by rw [ByteArray.size_extract]; omega
  obtain ⟨A2, c2, hb, hg, rfl, rfl⟩ := hI
  have h0 := cellS41_0 hb
  have h1 := cellS41_1 hb
  have hlt := blk_lt hb
  have hlt1 : g < w.heap.size + 1 := by omega
  have hlt2 : g < w.heap.size + 2 := by omega
  obtain ⟨t, ht⟩ : ∃ t, t = s.extract p q := ⟨_, rfl⟩
  rw [← ht] at HR HK hlen
  have hadd : (p : Int) + ((q - p : Nat) : Int) = (q : Int) := by omega
  clear hb hall hend hK ht
  go_enter Tryd.func14, Tryd.ntmps14
  go_wp2_with fail
  refine (HR.out _ (HI.out.alloc _)).mono ?_
  rintro e w1 ⟨rfl, ⟨⟨n1, rfl⟩⟩⟩
  go_wp2_with fail
  go_region
  go_wp2_with (go_at_call 22; refine (HK.out _).mono ?_; rintro e w2 ⟨rfl, b2⟩; obtain ⟨hB1, hB2, hBw⟩ := two_new b2; clear b2; (have hc0 := blk_cell hB1 0; have hc1 := blk_cell hB1 1; have hc2 := blk_cell hB1 2; have hc3 := blk_cell hB1 3; have hc4 := blk_cell hB1 4; have hd0 := blk_cell hB2 0; have hd1 := blk_cell hB2 1; have hd2 := blk_cell hB2 2; have hd3 := blk_cell hB2 3; have hd4 := blk_cell hB2 4; have hf0 := blk_frozen hB1 0; have hf1 := blk_frozen hB1 1; have hf2 := blk_frozen hB1 2; have hf3 := blk_frozen hB1 3; have hf4 := blk_frozen hB1 4; have hg0 := blk_frozen hB2 0; have hg1 := blk_frozen hB2 1; have hg2 := blk_frozen hB2 2; have hg3 := blk_frozen hB2 3; have hg4 := blk_frozen hB2 4; simp only [List.getElem?_toArray, List.getElem?_cons_zero, List.getElem?_cons_succ] at hc0 hc1 hc2 hc3 hc4 hd0 hd1 hd2 hd3 hd4); have hz1 := blk_lt hB1; have hz2 := blk_lt hB2; clear hB1 hB2)
  refine bodyPost_ret (v := .agg #[_, _, _, _, _]) (by simp [results, Tryd.results30, go_sem, hc0, hc1, hc2, hc3, hc4, hd0, hd1, hd2, hd3, hd4, hz1, hz2]) rfl ⟨rfl, ?_⟩
  repeat (with_reducible first | exact hBw | apply below_alloc | apply pw_below_drewN | refine below_set ?_ (by first | (with_reducible exact Nat.le_refl _) | (simp; done) | (simp; omega)))

set_option maxHeartbeats 4000000 in
set_option maxRecDepth 100000 in
theorem word_name (g : Nat) (s : ByteArray) (p q : Nat) (tl : TL) (w0 w : World) (hs : s.size ≤ 65536) (hI : IsS41 w0 w g s (p : Int) tl) (hpq : p ≤ q) (hq : q ≤ s.size)
    (hall : ∀ i : Nat, p ≤ i → i < q → wordB (bt s (i : Int)) = true) (hend : q < s.size → wordB (bt s (q : Int)) = false) (kk kk2 : Nat) (hK : PLexBlanks.lex_Kind.f kk (s.extract p q) = some (0, false)) (hN : PLexBlanks.wire_IsName.f kk2 (s.extract p q) = some true) :
    Calls Tryd.prog 14 #[.pointer (some ⟨g, 0, none⟩)] w (TokPost ⟨1, p, q, 0, s.extract p q⟩ w) := by
  have HR := Lib.hid (fun W (h : IsS41 w0 W g s (p : Int) tl) => run_word g s p q tl w0 W hs h hpq hq hall hend)
  have HI := Lib.hid hI
  have HK := Lib.hid (fun W => kind_any (s.extract p q) kk 0 false hK W)
  have HN := Lib.hid (fun W => name_any (s.extract p q) kk2 true hN W)
  have hlen : (s.extract p q).size = q - p := by rw [ByteArray.size_extract]; omega
  obtain ⟨A2, c2, hb, hg, rfl, rfl⟩ := hI
  have h0 := cellS41_0 hb
  have h1 := cellS41_1 hb
  have hlt := blk_lt hb
  have hlt1 : g < w.heap.size + 1 := by omega
  have hlt2 : g < w.heap.size + 2 := by omega
  obtain ⟨t, ht⟩ : ∃ t, t = s.extract p q := ⟨_, rfl⟩
  rw [← ht] at HR HK HN hlen ⊢
  have hadd : (p : Int) + ((q - p : Nat) : Int) = (q : Int) := by omega
  clear hb hall hend hK hN ht
  go_enter Tryd.func14, Tryd.ntmps14
  go_wp2_with fail
  refine (HR.out _ (HI.out.alloc _)).mono ?_
  rintro e w1 ⟨rfl, ⟨⟨n1, rfl⟩⟩⟩
  go_wp2_with fail
  go_region
  go_wp2_with (go_at_call 22; refine (HK.out _).mono ?_; rintro e w2 ⟨rfl, b2⟩; obtain ⟨hB1, hB2, hBw⟩ := two_new b2; clear b2; (have hc0 := blk_cell hB1 0; have hc1 := blk_cell hB1 1; have hc2 := blk_cell hB1 2; have hc3 := blk_cell hB1 3; have hc4 := blk_cell hB1 4; have hd0 := blk_cell hB2 0; have hd1 := blk_cell hB2 1; have hd2 := blk_cell hB2 2; have hd3 := blk_cell hB2 3; have hd4 := blk_cell hB2 4; have hf0 := blk_frozen hB1 0; have hf1 := blk_frozen hB1 1; have hf2 := blk_frozen hB1 2; have hf3 := blk_frozen hB1 3; have hf4 := blk_frozen hB1 4; have hg0 := blk_frozen hB2 0; have hg1 := blk_frozen hB2 1; have hg2 := blk_frozen hB2 2; have hg3 := blk_frozen hB2 3; have hg4 := blk_frozen hB2 4; simp only [List.getElem?_toArray, List.getElem?_cons_zero, List.getElem?_cons_succ] at hc0 hc1 hc2 hc3 hc4 hd0 hd1 hd2 hd3 hd4); have hz1 := blk_lt hB1; have hz2 := blk_lt hB2; clear hB1 hB2)
  go_wp2_with (go_at_call 23; refine (HN.out _).mono ?_; rintro e w3 ⟨rfl, ⟨⟨n3, rfl⟩⟩⟩)
  refine bodyPost_ret (v := .agg #[_, _, _, _, _]) (by simp [results, Tryd.results30, go_sem, hc0, hc1, hc2, hc3, hc4, hd0, hd1, hd2, hd3, hd4, hz1, hz2]) rfl ⟨rfl, ?_⟩
  repeat (with_reducible first | exact hBw | apply below_alloc | apply pw_below_drewN | refine below_set ?_ (by first | (with_reducible exact Nat.le_refl _) | (simp; done) | (simp; omega)))

set_option maxHeartbeats 4000000 in
set_option maxRecDepth 100000 in
theorem word_fault (g : Nat) (s : ByteArray) (p q : Nat) (tl : TL) (w0 w : World) (hs : s.size ≤ 65536) (hI : IsS41 w0 w g s (p : Int) tl) (hpq : p ≤ q) (hq : q ≤ s.size)
    (hall : ∀ i : Nat, p ≤ i → i < q → wordB (bt s (i : Int)) = true) (hend : q < s.size → wordB (bt s (q : Int)) = false) (kk kk2 : Nat) (hK : PLexBlanks.lex_Kind.f kk (s.extract p q) = some (0, false)) (hN : PLexBlanks.wire_IsName.f kk2 (s.extract p q) = some false) :
    Calls Tryd.prog 14 #[.pointer (some ⟨g, 0, none⟩)] w fun e w' => e = .panicked (faultAt p 6) ∧ Below w.heap.size w w' := by
  have HR := Lib.hid (fun W (h : IsS41 w0 W g s (p : Int) tl) => run_word g s p q tl w0 W hs h hpq hq hall hend)
  have HI := Lib.hid hI
  have HK := Lib.hid (fun W => kind_any (s.extract p q) kk 0 false hK W)
  have HN := Lib.hid (fun W => name_any (s.extract p q) kk2 false hN W)
  have HF := Lib.hid (fun W (h : IsS41 w0 W g s (p : Int) tl) => fail_any g s p tl w0 W 6 h)
  have hlen : (s.extract p q).size = q - p := by rw [ByteArray.size_extract]; omega
  obtain ⟨A2, c2, hb, hg, rfl, rfl⟩ := hI
  have h0 := cellS41_0 hb
  have h1 := cellS41_1 hb
  have hlt := blk_lt hb
  have hlt1 : g < w.heap.size + 1 := by omega
  have hlt2 : g < w.heap.size + 2 := by omega
  obtain ⟨t, ht⟩ : ∃ t, t = s.extract p q := ⟨_, rfl⟩
  rw [← ht] at HR HK HN hlen
  have hadd : (p : Int) + ((q - p : Nat) : Int) = (q : Int) := by omega
  clear hb hall hend hK hN ht
  go_enter Tryd.func14, Tryd.ntmps14
  go_wp2_with fail
  refine (HR.out _ (HI.out.alloc _)).mono ?_
  rintro e w1 ⟨rfl, ⟨⟨n1, rfl⟩⟩⟩
  go_wp2_with fail
  go_region
  go_wp2_with (go_at_call 22; refine (HK.out _).mono ?_; rintro e w2 ⟨rfl, b2⟩; obtain ⟨hB1, hB2, hBw⟩ := two_new b2; clear b2; (have hc0 := blk_cell hB1 0; have hc1 := blk_cell hB1 1; have hc2 := blk_cell hB1 2; have hc3 := blk_cell hB1 3; have hc4 := blk_cell hB1 4; have hd0 := blk_cell hB2 0; have hd1 := blk_cell hB2 1; have hd2 := blk_cell hB2 2; have hd3 := blk_cell hB2 3; have hd4 := blk_cell hB2 4; have hf0 := blk_frozen hB1 0; have hf1 := blk_frozen hB1 1; have hf2 := blk_frozen hB1 2; have hf3 := blk_frozen hB1 3; have hf4 := blk_frozen hB1 4; have hg0 := blk_frozen hB2 0; have hg1 := blk_frozen hB2 1; have hg2 := blk_frozen hB2 2; have hg3 := blk_frozen hB2 3; have hg4 := blk_frozen hB2 4; simp only [List.getElem?_toArray, List.getElem?_cons_zero, List.getElem?_cons_succ] at hc0 hc1 hc2 hc3 hc4 hd0 hd1 hd2 hd3 hd4); have hz1 := blk_lt hB1; have hz2 := blk_lt hB2; clear hB1 hB2; have HI2 := HI.out.below hBw)
  go_wp2_with (go_at_call 23; refine (HN.out _).mono ?_; rintro e w3 ⟨rfl, ⟨⟨n3, rfl⟩⟩⟩)
  go_wp2_with (go_at_call 12; refine (HF.out _ ?_).mono ?_; rotate_left; rintro e w4 ⟨rfl, rfl⟩)
  · exact ⟨rfl, rfl, pw_below_drewN hBw _⟩
  · exact HI2.drewN _
end Go.Proofs.YthaejpkldpkddaaDoor.Scn
