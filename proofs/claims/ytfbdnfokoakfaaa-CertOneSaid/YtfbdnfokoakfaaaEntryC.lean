/- What a reader of a certificate's bytes tells, as plain functions. cert.open: its walk. The reader's entry: its boxes. The reader's entry: its walk. -/
import Derived.Test.YtfbdnfokoakfaaaCheckC
import Derived.Test.YtfbdnfokoakfaaaREncC
import Derived.Test.YtfbdnfokoakfaaaPCertReadsx2
import Derived.Laws.BitsLemmas
namespace Go.Proofs.Ytfbdnfokoakfaaa.Ct
open Go.RowKit Go.Proofs.YtfbdnfokoakfaaaW.PrintWords
set_option linter.unusedVariables false
set_option linter.unusedSimpArgs false

def gB (b : List Int) (i : Nat) : Int := b.getD i 0
/-- What the head says: locals and count; else the place and the error. -/
def headS (b : List Int) : (Int × Int) ⊕ (Int × Nat) :=
  if b.length = 0 then .inl (0, 2) else if gB b 0 ≠ 112 then .inl (0, 64)
  else if b.length = 1 then .inl (1, 2) else if gB b 1 ≠ 118 then .inl (1, 64)
  else if b.length = 2 then .inl (2, 2) else if gB b 2 ≠ 1 then .inl (2, 64)
  else if b.length < 6 then .inl ((b.length : Int), 2)
  else if 16 < gB b 3 then .inl (3, 5)
  else if 4096 < gB b 4 * 256 + gB b 5 then .inl (4, 4)
  else .inr (gB b 3, (gB b 4 * 256 + gB b 5).toNat)

/-- The slots from q on, of which m are still to come: where they end; else the place and the error. -/
def slotsS (b : List Int) : Nat → Nat → Option (Int × Int)
  | 0, _ => none
  | m + 1, q => if q = b.length then some ((q : Int), 2) else if knownB (gB b q) = true then slotsS b m (q + 1) else some ((q : Int), 62)
def padS (s : List Int) : List Int := s ++ List.replicate (24 - s.length) 0
/-- The entry at p, behind the address last; the place behind it; else the place and the error. -/
def oneS (b : List Int) (L : Int) (p : Nat) (last : Int) : (Int × Int) ⊕ (En × Nat) :=
  if b.length < p + 2 then .inl ((b.length : Int), 2)
  else if risesS last (gB b p * 256 + gB b (p + 1)) ≠ 0 then .inl ((p : Int), risesS last (gB b p * 256 + gB b (p + 1)))
  else if p + 2 = b.length then .inl ((b.length : Int), 2)
  else if 1 < gB b (p + 2) then .inl ((p : Int) + 2, 63)
  else if gB b (p + 2) = 0 then .inr (⟨gB b p * 256 + gB b (p + 1), true, fr0⟩, p + 3)
  else if p + 3 = b.length then .inl ((b.length : Int), 2)
  else if 24 < L + gB b (p + 3) then .inl ((p : Int) + 3, 65)
  else match slotsS b (L + gB b (p + 3)).toNat (p + 4) with
    | some x => .inl x
    | none => .inr (⟨gB b p * 256 + gB b (p + 1), false, ⟨L, gB b (p + 3), padS ((b.drop (p + 4)).take (L + gB b (p + 3)).toNat)⟩⟩, p + 4 + (L + gB b (p + 3)).toNat)

theorem gB_range (b : List Int) (hb : ∀ x, x ∈ b → 0 ≤ x ∧ x ≤ 255) (i : Nat) : 0 ≤ gB b i ∧ gB b i ≤ 255 := by
  unfold gB
  rw [List.getD_eq_getElem?_getD]
  by_cases h : i < b.length
  · rw [List.getElem?_eq_getElem h]
    exact hb _ (List.getElem_mem h)
  · rw [List.getElem?_eq_none (by omega)]
    simp
theorem slotsS_le (b : List Int) : ∀ (m q : Nat), q ≤ b.length → slotsS b m q = none → q + m ≤ b.length
  | 0, q, h, _ => by omega
  | m + 1, q, h, e => by
    rw [slotsS] at e
    by_cases c : q = b.length
    · rw [if_pos c] at e; cases e
    · rw [if_neg c] at e
      by_cases d : knownB (gB b q) = true
      · rw [if_pos d] at e
        have := slotsS_le b m (q + 1) (by omega) e
        omega
      · rw [if_neg d] at e; cases e
theorem oneS_next (b : List Int) (L : Int) (p : Nat) (last : Int) (x : En) (q : Nat) (h0 : 0 ≤ L) (hb : ∀ x, x ∈ b → 0 ≤ x ∧ x ≤ 255) (h : oneS b L p last = .inr (x, q)) : p < q ∧ q ≤ b.length ∧ x.fr.wf := by
  unfold oneS at h
  by_cases c1 : b.length < p + 2
  · rw [if_pos c1] at h; cases h
  rw [if_neg c1] at h
  by_cases c2 : risesS last (gB b p * 256 + gB b (p + 1)) ≠ 0
  · rw [if_pos c2] at h; cases h
  rw [if_neg c2] at h
  by_cases c3 : p + 2 = b.length
  · rw [if_pos c3] at h; cases h
  rw [if_neg c3] at h
  by_cases c4 : 1 < gB b (p + 2)
  · rw [if_pos c4] at h; cases h
  rw [if_neg c4] at h
  by_cases c5 : gB b (p + 2) = 0
  · rw [if_pos c5] at h
    cases h
    exact ⟨by omega, by omega, fr0_wf⟩
  rw [if_neg c5] at h
  by_cases c6 : p + 3 = b.length
  · rw [if_pos c6] at h; cases h
  rw [if_neg c6] at h
  by_cases c7 : 24 < L + gB b (p + 3)
  · rw [if_pos c7] at h; cases h
  rw [if_neg c7] at h
  have hr := gB_range b hb (p + 3)
  cases hs : slotsS b (L + gB b (p + 3)).toNat (p + 4) with
  | some x => rw [hs] at h; cases h
  | none =>
    rw [hs] at h
    cases h
    have hle := slotsS_le b _ _ (by omega) hs
    refine ⟨by omega, by omega, ?_, ?_⟩
    · show (padS _).length = 24
      unfold padS
      rw [List.length_append, List.length_replicate, List.length_take, List.length_drop]
      omega
    · intro t ht
      have ht' : t ∈ padS ((b.drop (p + 4)).take (L + gB b (p + 3)).toNat) := ht
      unfold padS at ht'
      rcases List.mem_append.1 ht' with h1 | h1
      · exact hb t (List.mem_of_mem_drop (List.mem_of_mem_take h1))
      · have := List.eq_of_mem_replicate h1
        omega

/-- A reader: how many bytes were read, the last address, how many entries are left, the fault's place, its error. -/
structure RdS where
  at_ : Nat
  last : Int
  left : Nat
  fault : Int
  e : Int
/-- What it tells next. -/
def nextS (b : List Int) (L : Int) (r : RdS) : (En × Bool × Int) × RdS :=
  if r.e ≠ 0 then ((en0, false, r.e), r)
  else if r.left = 0 then (if r.at_ < b.length then ((en0, false, 3), { r with fault := r.at_, e := 3 }) else ((en0, false, 0), r))
  else match oneS b L r.at_ r.last with
    | .inl x => ((en0, false, x.2), { r with fault := x.1, e := x.2 })
    | .inr x => ((x.1, true, 0), { r with at_ := x.2, last := x.1.at_, left := r.left - 1 })
end Go.Proofs.Ytfbdnfokoakfaaa.Ct
namespace Go.Proofs.Ytfbdnfokoakfaaa.Ct
open Go.RowKit Go.Proofs.YtfbdnfokoakfaaaW.PrintWords Go.Proofs.YtfbdnfokoakfaaaW.PrintLast Go.Proofs.YtfbdnfokoakfaaaW.PrintMore
set_option linter.unusedVariables false
set_option linter.unusedSimpArgs false

/-- Bytes that are read. -/
structure ByR (w : World) (A : Option Addr) (c : Nat) (b : List Int) : Prop where
  r : Kd.C (Kd.int .u8) w A b.length b
  c : b.length ≤ c
  y : ∀ x, x ∈ b → 0 ≤ x ∧ x ≤ 255
  l : b.length ≤ 140737488500000
theorem ByR.next {w w1 : World} {A : Option Addr} {c : Nat} {b : List Int} (h : ByR w A c b) (hb : Below w.heap.size w w1) : ByR w1 A c b := ⟨Kd.C_below h.r hb, h.c, h.y, h.l⟩
theorem ByR.cell {w : World} {A : Option Addr} {c : Nat} {b : List Int} (h : ByR w A c b) (i : Nat) (hi : i < b.length) : ∃ ad, A = some ad ∧ w.cell? (ad.add i) = some (.int .u8 (gB b i)) := by
  obtain ⟨ad, cs, e, _, hK, hc⟩ := Kd.C_get h.r (0 : Int) (i : Int) (by omega) (by omega)
  simp only [Int.toNat_natCast] at hK hc
  have hK' : cs = [.int .u8 (b.getD i 0)] := hK
  subst hK'
  have hc0 := hc 0 _ rfl
  have hs : i * (Kd.int .u8).sz + 0 = i := Nat.mul_one i
  rw [hs] at hc0
  exact ⟨ad, e, hc0⟩

theorem or8 (x y : Int) (h0 : 0 ≤ x) (h1 : x ≤ 255) (hy : 0 ≤ y) (hy1 : y ≤ 255) : bits .or .i64 (wrap64 (wrap64 x * 256)) (wrap64 y) = x * 256 + y := by
  have e1 : wrap64 x = x := by unfold wrap64; omega
  have e2 : wrap64 (x * 256) = x * 256 := by unfold wrap64; omega
  have e3 : wrap64 y = y := by unfold wrap64; omega
  rw [e1, e2, e3]
  exact bits_join .i64 40 (by decide) (fun n h0 h1 => by rw [IntKind.wrap_i64]; omega) 8 _ _ (by omega) (by omega) (by omega) hy (by omega) (by omega)
theorem word_c (A : Option Addr) (c : Nat) (b : List Int) (w : World) (h : ByR w A c b) (h2 : 2 ≤ b.length) : Calls Try.prog 47 #[.slice A b.length c] w fun e w' => e = .returned (.int .i64 (gB b 0 * 256 + gB b 1)) ∧ Drawn0 w w' := by
  refine PCertReads.cert_word.calls A c b _ w h.r h.c ?_
  have r0 := gB_range b h.y 0
  have r1 := gB_range b h.y 1
  unfold PCertReads.cert_word.f
  rw [if_pos (by omega), if_pos (by omega), ← or8 _ _ r0.1 r0.2 r1.1 r1.2]
  rfl

theorem ByR.tail {w : World} {A : Option Addr} {c : Nat} {b : List Int} (h : ByR w A c b) (k : Nat) (hk : k < b.length) :
    ∃ A' c', (∀ W, (Instr.slice 31 (.slice A b.length c) (some (.int .i64 (k : Int))) none none).run Try.prog W = .ok (.slice A' (b.drop k).length c') W) ∧ ∀ W, Below w.heap.size w W → ByR W A' c' (b.drop k) := by
  obtain ⟨ad, rfl, _⟩ := h.cell k hk
  have hl : (b.drop k).length = b.length - k := List.length_drop
  refine ⟨some (if c = k then ad else ad.add k), c - k, fun W => ?_, fun W hW => ?_⟩
  · have h1 := cut_from (P := Try.prog) 31 5 .i64 Try.underlying31 (i := (Try.prog.info? 5).get!) rfl 1 rfl (some ad) b.length c (k : Int) (by omega) (by omega) W
    rw [h1, hl]
    simp only [Int.toNat_natCast, Nat.mul_one]
    by_cases e : c = k
    · rw [if_pos e, if_pos e]
    · rw [if_neg e, if_neg e]; rfl
  · have hc := h.c
    rw [if_neg (by omega)]
    have h2 := h.next hW
    refine ⟨⟨rfl, by have := h2.l; omega, fun _ => ⟨_, rfl, fun j p hj => ?_⟩⟩, by omega, fun x hx => h2.y x (List.mem_of_mem_drop hx), by have := h2.l; omega⟩
    obtain ⟨_, _, h3⟩ := h2.r
    obtain ⟨ad', e', h4⟩ := h3 (by omega)
    cases e'
    rw [List.getElem?_drop] at hj
    obtain ⟨cs, h5, h6, h7⟩ := h4 (k + j) p hj
    refine ⟨cs, h5, h6, fun i u hu => ?_⟩
    rw [Deep.add_add]
    have := h7 i u hu
    rwa [show (k + j) * (Kd.int .u8).sz + i = k + (j * (Kd.int .u8).sz + i) by show (k + j) * 1 + i = k + (j * 1 + i); omega] at this

/-- What cert.open answers. -/
def OpPost (b : List Int) (A : Option Addr) (c : Nat) (w : World) (e : Ending) (w' : World) : Prop :=
  match headS b with
  | .inl x => e = .returned (.tuple #[.pointer none, .int .i64 x.1, .int .i64 (x.2 : Int)]) ∧ Below w.heap.size w w'
  | .inr x => ∃ g, e = .returned (.tuple #[.pointer (some ⟨g, 0, none⟩), .int .i64 0, .int .i64 0]) ∧ w.heap.size ≤ g ∧
      w'.heap[g]? = some (.cells #[.slice A b.length c, .int .i64 6, .int .i64 (-1), .int .i64 (x.2 : Int), .int .i64 (x.2 : Int), .int .i64 0, .int .i64 0, .bool true] 37 (0, 0)) ∧ Below w.heap.size w w'

def hdB (i : Nat) : Int := ([112, 118, 1] : List Int).getD i 0
structure OpSt (w W : World) : Prop where
  a : W.heap[w.heap.size]? = some (.cells #[.int .u8 112, .int .u8 118, .int .u8 1] 5 (0, 0))
  below : Below w.heap.size w W
theorem head_bad (b : List Int) (i : Nat) (hi : i < 3) (h : ∀ j, j < i → j < b.length ∧ gB b j = hdB j) : (i = b.length → headS b = .inl ((i : Int), 2)) ∧ (i < b.length → gB b i ≠ hdB i → headS b = .inl ((i : Int), 64)) := by
  have e0 : hdB 0 = 112 := rfl
  have e1 : hdB 1 = 118 := rfl
  have e2 : hdB 2 = 1 := rfl
  match i, hi with
  | 0, _ => exact ⟨fun h => by unfold headS; rw [if_pos h.symm]; rfl, fun h1 h2 => by unfold headS; rw [if_neg (by omega), if_pos (show gB b 0 ≠ 112 from h2)]; rfl⟩
  | 1, _ =>
    have h0 := h 0 (by omega)
    exact ⟨fun h => by unfold headS; rw [if_neg (by omega), if_neg (by rw [h0.2, e0]; simp), if_pos h.symm]; rfl, fun h1 h2 => by unfold headS; rw [if_neg (by omega), if_neg (by rw [h0.2, e0]; simp), if_neg (by omega), if_pos (show gB b 1 ≠ 118 from h2)]; rfl⟩
  | 2, _ =>
    have h0 := h 0 (by omega)
    have h1 := h 1 (by omega)
    exact ⟨fun h => by unfold headS; rw [if_neg (by omega), if_neg (by rw [h0.2, e0]; simp), if_neg (by omega), if_neg (by rw [h1.2, e1]; simp), if_pos h.symm]; rfl, fun h3 h2 => by unfold headS; rw [if_neg (by omega), if_neg (by rw [h0.2, e0]; simp), if_neg (by omega), if_neg (by rw [h1.2, e1]; simp), if_neg (by omega), if_pos (show gB b 2 ≠ 1 from h2)]; rfl⟩
theorem head_good (b : List Int) (h : ∀ j, j < 3 → j < b.length ∧ gB b j = hdB j) : headS b = if b.length < 6 then .inl ((b.length : Int), 2)
  else if 16 < gB b 3 then .inl (3, 5)
  else if 4096 < gB b 4 * 256 + gB b 5 then .inl (4, 4)
  else .inr (gB b 3, (gB b 4 * 256 + gB b 5).toNat) := by
  have h0 := h 0 (by omega)
  have h1 := h 1 (by omega)
  have h2 := h 2 (by omega)
  have e0 : hdB 0 = 112 := rfl
  have e1 : hdB 1 = 118 := rfl
  have e2 : hdB 2 = 1 := rfl
  unfold headS
  rw [if_neg (by omega), if_neg (by rw [h0.2, e0]; simp), if_neg (by omega), if_neg (by rw [h1.2, e1]; simp), if_neg (by omega), if_neg (by rw [h2.2, e2]; simp)]

set_option maxHeartbeats 4000000 in
set_option maxRecDepth 100000 in
theorem open_c (A : Option Addr) (c : Nat) (b : List Int) (w : World) (h : ByR w A c b) : Calls Try.prog 41 #[.slice A b.length c] w (OpPost b A c w) := by
  have HB := Lib.hid h
  have hlen := h.l
  have hcap := h.c
  clear h
  have HR := Lib.hid (show headS b = headS b from rfl)
  go_enter Try.func41, Try.ntmps41
  go_wp2
  go_loopg [10] 4 (fun k v10 W => ∃ i : Nat, v10 = .int .i64 (i : Int) ∧ i + k = 4 ∧ i ≤ 3 ∧ OpSt w W ∧ Hid (∀ j, j < i → j < b.length ∧ gB b j = hdB j))
  case atStart => exact ⟨0, rfl, by omega, by omega, ⟨blk_new w _, below_alloc (Below.refl _ _) _⟩, Lib.hid (fun j hj => absurd hj (Nat.not_lt_zero _))⟩
  case round =>
    obtain ⟨i, rfl, hi, hil, St, HP⟩ := hrel
    by_cases hlt : i < 3
    · have e1 : decide ((i : Int) < 3) = true := decide_eq_true (by omega)
      have kx : wr.cell? ⟨w.heap.size, i, none⟩ = some (.int .u8 (hdB i)) := by
        have := blk_cell St.a i
        rw [this]
        match i, hlt with
        | 0, _ => rfl
        | 1, _ => rfl
        | 2, _ => rfl
      have HSt := Lib.hid St
      by_cases c1 : i = b.length
      · have HV := Lib.hid (show headS b = .inl ((i : Int), 2) by exact (head_bad b i hlt HP.out).1 c1)
        have d1 : ((i : Int) == (b.length : Int)) = true := by rw [beq_iff_eq]; omega
        clear St c1
        go_wp2
        go_ret3
        unfold OpPost
        rw [HV.out]
        exact ⟨rfl, HSt.out.below⟩
      · have d1 : ((i : Int) == (b.length : Int)) = false := by rw [beq_eq_false_iff_ne]; omega
        by_cases c0 : b.length < i
        · exfalso
          match i, c0, c1 with
          | j + 1, c0, c1 => have := (HP.out j (by omega)).1; omega
        obtain ⟨ad, rfl, hx⟩ := (HB.out.next St.below).cell i (by omega)
        have hlt2 : i < b.length := by omega
        have d2 : decide ((i : Int) < (b.length : Int)) = true := decide_eq_true (by omega)
        obtain ⟨x, hxx⟩ : ∃ x, x = gB b i := ⟨_, rfl⟩
        obtain ⟨y, hyy⟩ : ∃ y, y = hdB i := ⟨_, rfl⟩
        rw [← hxx] at hx
        rw [← hyy] at kx
        have HXX := Lib.hid (And.intro hxx hyy)
        by_cases c2 : x = y
        · have d3 : (x != y) = false := by simp [c2]
          have HC := Lib.hid c2
          clear hxx hyy c2 St
          obtain ⟨k, rfl⟩ : ∃ k, gk = k + 1 := ⟨gk - 1, by omega⟩
          go_wp2
          go_roundg k
          case measure => omega
          case rel => exact ⟨i + 1, by simp, by omega, by omega, HSt.out, Lib.hid (fun j hj => by
            by_cases e : j = i
            · subst e; exact ⟨hlt2, by rw [← HXX.out.1, ← HXX.out.2]; exact HC.out⟩
            · exact HP.out j (by omega))⟩
        · have d3 : (x != y) = true := by simp [c2]
          have HV := Lib.hid (show headS b = .inl ((i : Int), 64) by exact (head_bad b i hlt HP.out).2 hlt2 (by rw [← hxx, ← hyy]; exact c2))
          clear hxx hyy c2 St
          go_wp2
          go_ret3
          unfold OpPost
          rw [HV.out]
          exact ⟨rfl, HSt.out.below⟩
    · have e1 : decide ((i : Int) < 3) = false := decide_eq_false (by omega)
      obtain rfl : i = 3 := by omega
      have hg := head_good b HP.out
      have h3 := (HP.out 2 (by omega)).1
      have HSt := Lib.hid St
      by_cases c1 : b.length < 6
      · have d1 : decide ((b.length : Int) < 6) = true := decide_eq_true (by omega)
        rw [if_pos c1] at hg
        have HV := Lib.hid hg
        clear hg St
        go_wp2
        go_ret3
        unfold OpPost
        rw [HV.out]
        exact ⟨rfl, HSt.out.below⟩
      · have d1 : decide ((b.length : Int) < 6) = false := decide_eq_false (by omega)
        rw [if_neg c1] at hg
        have HY := HB.out.next St.below
        obtain ⟨A', c', hcut, hY⟩ := HY.tail 4 (by omega)
        have hl4 : (b.drop 4).length = b.length - 4 := List.length_drop
        have hg4 : gB (b.drop 4) 0 = gB b 4 ∧ gB (b.drop 4) 1 = gB b 5 := by
          unfold gB
          simp [List.getD_eq_getElem?_getD, List.getElem?_drop]
        obtain ⟨t, ht⟩ : ∃ t, t = b.drop 4 := ⟨_, rfl⟩
        rw [← ht] at hcut hY hl4 hg4
        rw [show ((4 : Nat) : Int) = 4 from rfl] at hcut
        have HWd := Lib.hid (fun W hW => word_c A' c' t W (hY W hW) (by omega))
        rw [hg4.1, hg4.2] at HWd
        obtain ⟨ad, rfl, hx⟩ := HY.cell 3 (by omega)
        simp only [Addr.add, show ¬ (3 : Nat) = 0 by decide, if_false] at hx
        have d0 : decide ((3 : Int) < (b.length : Int)) = true := decide_eq_true (by omega)
        have r3 := gB_range b HB.out.y 3
        have r4 := gB_range b HB.out.y 4
        have r5 := gB_range b HB.out.y 5
        obtain ⟨x, hxx⟩ : ∃ x, x = gB b 3 := ⟨_, rfl⟩
        obtain ⟨n, hnn⟩ : ∃ n, n = gB b 4 * 256 + gB b 5 := ⟨_, rfl⟩
        rw [← hxx, ← hnn] at hg
        rw [← hxx] at hx r3
        rw [← hnn] at HWd
        have rn : 0 ≤ n ∧ n ≤ 65535 := by omega
        clear hl4 hg4 hY HY hxx hnn r4 r5 ht
        by_cases c2 : 16 < x
        · have d2 : decide (16 < x) = true := decide_eq_true c2
          rw [if_pos c2] at hg
          have HV := Lib.hid hg
          clear hg St
          go_wp2
          go_ret3
          unfold OpPost
          rw [HV.out]
          exact ⟨rfl, HSt.out.below⟩
        · have d2 : decide (16 < x) = false := decide_eq_false c2
          rw [if_neg c2] at hg
          by_cases c3 : 4096 < n
          · have d3 : decide (4096 < n) = true := decide_eq_true c3
            rw [if_pos c3] at hg
            have HV := Lib.hid hg
            clear hg St
            go_wp2_with fail
            refine (HWd.out _ (Below.refl _ _)).mono ?_
            rintro e w1 ⟨rfl, ⟨⟨n1, rfl⟩⟩⟩
            go_wp2
            go_ret3
            unfold OpPost
            rw [HV.out]
            exact ⟨rfl, pw_below_drewN HSt.out.below _⟩
          · have d3 : decide (4096 < n) = false := decide_eq_false c3
            rw [if_neg c3] at hg
            have HV := Lib.hid hg
            clear hg St
            go_wp2_with fail
            refine (HWd.out _ (Below.refl _ _)).mono ?_
            rintro e w1 ⟨rfl, ⟨⟨n1, rfl⟩⟩⟩
            go_wp2_with fail
            refine (HWd.out _ (pw_below_drewN (Below.refl _ _) _)).mono ?_
            rintro e w2 ⟨rfl, ⟨⟨n2, rfl⟩⟩⟩
            go_wp2
            have hn : ((n.toNat : Nat) : Int) = n := by omega
            have q1 := blk_new (wr.drewN (n1 + n2)) (.cells #[.slice (some ad) b.length c, .int .i64 6, .int .i64 (-1), .int .i64 n, .int .i64 n, .int .i64 0, .int .i64 0, .bool true] 37)
            have q2 := below_alloc (pw_below_drewN HSt.out.below (n1 + n2)) (.cells #[.slice (some ad) b.length c, .int .i64 6, .int .i64 (-1), .int .i64 n, .int .i64 n, .int .i64 0, .int .i64 0, .bool true] 37)
            have q3 : w.heap.size ≤ (wr.drewN (n1 + n2)).heap.size := HSt.out.below.size
            have q4 : (wr.drewN (n1 + n2)).heap.size = wr.heap.size := rfl
            rw [← q4]
            generalize (wr.drewN (n1 + n2)).alloc (.cells #[.slice (some ad) b.length c, .int .i64 6, .int .i64 (-1), .int .i64 n, .int .i64 n, .int .i64 0, .int .i64 0, .bool true] 37) = W3 at q1 q2 ⊢
            generalize (wr.drewN (n1 + n2)).heap.size = g at q1 q3 ⊢
            go_ret3
            unfold OpPost
            rw [HV.out]
            simp only [hn]
            exact ⟨g, rfl, q3, q1, q2⟩
end Go.Proofs.Ytfbdnfokoakfaaa.Ct
namespace Go.Proofs.Ytfbdnfokoakfaaa.Ct
open Go.RowKit Go.Proofs.YtfbdnfokoakfaaaW.PrintWords Go.Proofs.YtfbdnfokoakfaaaW.PrintLast Go.Proofs.YtfbdnfokoakfaaaW.PrintMore
set_option linter.unusedVariables false
set_option linter.unusedSimpArgs false

/-- A reader's block. -/
def rdC (A : Option Addr) (c : Nat) (b : List Int) (n : Nat) (r : RdS) : Array Value := #[.slice A b.length c, .int .i64 (r.at_ : Int), .int .i64 r.last, .int .i64 (r.left : Int), .int .i64 (n : Int), .int .i64 r.fault, .int .i64 r.e, .bool true]
structure RdB (W : World) (g : Nat) (A : Option Addr) (c : Nat) (b : List Int) (n : Nat) (r : RdS) : Prop where
  a : W.heap[g]? = some (.cells (rdC A c b n r) 37 (0, 0))
  y : ByR W A c b
  p : r.at_ ≤ b.length
  six : 6 ≤ b.length
  L : gB b 3 ≤ 16
theorem RdB.next {W W1 : World} {g : Nat} {A : Option Addr} {c : Nat} {b : List Int} {n : Nat} {r : RdS} (h : RdB W g A c b n r) (hb : Below W.heap.size W W1) : RdB W1 g A c b n r := ⟨blk_below h.a hb, h.y.next hb, h.p, h.six, h.L⟩

theorem skip_step {P : Program} {ops : Array Oper} {o : Oper} {a : Act} {Q : Exit → Act → World → Prop} {Kc : Act → World → Prop} {W w1 : World} (hw : Region.wanted o (yielded ops a.tmps) = true) (hrun : (execOp a.eval o).run P W = .ok .skip w1) (h : Kc (a.put o.dst undef) w1) :
    if Region.wanted o (yielded ops a.tmps) = true then Oper.wp P o a W Kc Q else Kc (a.put o.dst undef) W := by
  rw [if_pos hw]
  unfold Oper.wp
  rw [hrun]
  exact h
theorem exec_alloc44 {o : Oper} {a : Act} (ho : o.op = .alloc 44) (W : World) : (execOp a.eval o).run Try.prog W = .ok (.value (.pointer (some ⟨W.heap.size, 0, none⟩))) (W.alloc (.cells (enC en0).toArray 44)) := by
  unfold execOp
  simp only [ho]
  simp [go_sem]
  rfl
theorem exec_store44_new {o : Oper} {a : Act} {p q : Operand} {W : World} {x y : En} (ho : o.op = .store 44 p q) (hp : a.eval p = .pointer (some ⟨W.heap.size, 0, none⟩)) (hq : a.eval q = .agg (enC x).toArray) (hx : x.fr.wf) (hy : y.fr.wf) :
    (execOp a.eval o).run Try.prog (W.alloc (.cells (enC y).toArray 44)) = .ok .skip (W.alloc (.cells (enC x).toArray 44)) := by
  have h := store44_new W hx hy
  unfold enV at h
  unfold execOp
  simp only [ho, hp, hq, Sem.run_bind, h, Result.andThen_ok, Sem.run_pure]


/-- The boxes of 'entry'. -/
structure Bx (w W : World) (l : List En) : Prop where
  bx : ∀ i (hi : i < l.length), W.heap[w.heap.size + i]? = some (.cells (enC l[i]).toArray 44 (0, 0))
  sz : W.heap.size = w.heap.size + l.length
  below : Below w.heap.size w W
theorem Bx.drewN {w W : World} {l : List En} (h : Bx w W l) (n : Nat) : Bx w (W.drewN n) l := ⟨h.bx, h.sz, pw_below_drewN h.below n⟩
theorem Bx.alloc {w W : World} {l : List En} (h : Bx w W l) (x : En) : Bx w (W.alloc (.cells (enC x).toArray 44)) (l ++ [x]) := by
  refine ⟨fun i hi => ?_, by rw [World.size_alloc, h.sz]; simp; omega, below_alloc h.below _⟩
  rw [List.length_append, List.length_singleton] at hi
  by_cases e : i < l.length
  · rw [List.getElem_append_left e]
    exact blk_alloc (h.bx i e) _
  · have : i = l.length := by omega
    subst this
    rw [← h.sz]
    simpa using blk_new W (.cells (enC x).toArray 44)
/-- One box turned. -/
theorem Bx.turn {w W W1 : World} {l : List En} (h : Bx w W l) (k : Nat) (hk : k < l.length) (x : En) (h1 : W1.heap[w.heap.size + k]? = some (.cells (enC x).toArray 44 (0, 0))) (h2 : ∀ j, j ≠ w.heap.size + k → W1.heap[j]? = W.heap[j]?) (h3 : W1.heap.size = W.heap.size) (hb : Below w.heap.size w W1) : Bx w W1 (l.set k x) := by
  refine ⟨fun i hi => ?_, by rw [h3, h.sz]; simp, hb⟩
  rw [List.length_set] at hi
  by_cases e : k = i
  · subst e; rw [List.getElem_set_self]; exact h1
  · rw [List.getElem_set_ne e, h2 _ (by omega)]; exact h.bx i hi
theorem Bx.rng {w W : World} {l : List En} (h : Bx w W l) (k : Nat) (hk : k < l.length) : Rng W ⟨w.heap.size + k, 0, none⟩ (enC l[k]) := rng_of (range_blk (h.bx k hk))

theorem RdB.cells {w W : World} {g : Nat} {A : Option Addr} {c : Nat} {b : List Int} {n : Nat} {r : RdS} (h : RdB w g A c b n r) (hb : Below w.heap.size w W) :
    W.cell? ⟨g, 0, none⟩ = some (.slice A b.length c) ∧ W.cell? ⟨g, 1, none⟩ = some (.int .i64 (r.at_ : Int)) ∧ W.cell? ⟨g, 2, none⟩ = some (.int .i64 r.last) ∧ W.cell? ⟨g, 3, none⟩ = some (.int .i64 (r.left : Int)) ∧ W.cell? ⟨g, 4, none⟩ = some (.int .i64 (n : Int)) ∧ W.cell? ⟨g, 5, none⟩ = some (.int .i64 r.fault) ∧ W.cell? ⟨g, 6, none⟩ = some (.int .i64 r.e) ∧ W.cell? ⟨g, 7, none⟩ = some (.bool true) :=
  have k := blk_below h.a hb
  ⟨blk_cell k 0, blk_cell k 1, blk_cell k 2, blk_cell k 3, blk_cell k 4, blk_cell k 5, blk_cell k 6, blk_cell k 7⟩

/-- A whole entry into a box. -/
theorem wpList_store_blk {ops : Array Oper} {rest : List Oper} {op : Oper} {a : Act} {Q : Exit → Act → World → Prop} (hgd : op.guard = none) (p q : Operand) (ho : op.op = .store 44 p q)
    {w W : World} {l : List En} (St : Bx w W l) (k : Nat) (hk : k < l.length) (hw : l[k].fr.wf) (x : En) (hx : x.fr.wf) (hp : a.eval p = .pointer (some ⟨w.heap.size + k, 0, none⟩)) (hq : a.eval q = .agg (enC x).toArray)
    (h : ∀ W1, Bx w W1 (l.set k x) → wpList Try.prog ops Q rest (a.put op.dst undef) W1) : wpList Try.prog ops Q (op :: rest) a W := by
  refine wpList_plain hgd fun _ hK => ?_
  have h0 := St.bx k hk
  have hrun := run_storeVar_row (P := Try.prog) W (w.heap.size + k) 44 44 (enC l[k]).toArray (enC x).toArray h0 (by simp only [List.size_toArray, enC_len hx]; kernel_rfl) (by simp [enC_len hx, enC_len hw]) (all_oneCell_toArray (enC_one x))
  unfold Oper.wp execOp
  simp only [ho, hp, hq, Instr.storeAt, Instr.sureAddr, Sem.run_bind, Sem.run_pure, Result.andThen_ok, hrun]
  refine hK _ _ (h _ (St.turn k hk x (setRow_heap _ _ _ _ _ _ h0) (fun j hj => ?_) ?_ ?_))
  · show (W.heap.modify _ _)[j]? = _
    rw [Array.getElem?_modify, if_neg (fun e => hj e.symm)]
  · show (W.heap.modify _ _).size = _
    rw [Array.size_modify]
  · have hE := St.below
    refine ⟨hE.os, hE.tape, hE.output, ?_, fun i hi => ?_⟩
    · show w.heap.size ≤ (W.heap.modify _ _).size
      rw [Array.size_modify]; exact hE.size
    · show (W.heap.modify _ _)[i]? = _
      rw [Array.getElem?_modify, if_neg (by omega)]
      exact hE.block i hi
theorem ret_cell3 {fn : Func} {p q s : Tmp} (h : fn.results = #[.cell p 44, .tmp q, .tmp s]) (tmps : Array Value) {w W : World} {l : List En} (St : Bx w W l) (k : Nat) (hk : k < l.length) (hw : l[k].fr.wf)
    (hp : tmps.getD p undef = .pointer (some ⟨w.heap.size + k, 0, none⟩)) : (results fn tmps).run Try.prog W = .ok (.tuple #[.agg (enC l[k]).toArray, tmps.getD q undef, tmps.getD s undef]) W := by
  have hp' : tmps[p]?.getD undef = .pointer (some ⟨w.heap.size + k, 0, none⟩) := by simpa using hp
  have hl := run_loadVar_row (P := Try.prog) W (w.heap.size + k) 44 44 (enC l[k]).toArray (0, 0) _ (St.bx k hk) Try.underlying44 rfl (by simp only [List.size_toArray, enC_len hw]; kernel_rfl)
  simp [results, h, hp', asAddr, hl, Sem.run_bind]

/-- What entry answers. -/
def EtPost (b : List Int) (r : RdS) (w : World) (e : Ending) (w' : World) : Prop :=
  (match oneS b (gB b 3) r.at_ r.last with
  | .inl x => e = .returned (.tuple #[enV en0, .int .i64 x.1, .int .i64 x.2])
  | .inr x => e = .returned (.tuple #[enV x.1, .int .i64 (x.2 : Int), .int .i64 0])) ∧ Below w.heap.size w w'
theorem et_inl {b : List Int} {r : RdS} {w : World} {e : Ending} {w' : World} {x y : Int} (h : oneS b (gB b 3) r.at_ r.last = .inl (x, y)) (he : e = .returned (.tuple #[.agg (enC en0).toArray, .int .i64 x, .int .i64 y])) (hb : Below w.heap.size w w') : EtPost b r w e w' := by
  unfold EtPost
  rw [h]
  exact ⟨he, hb⟩
theorem et_inr {b : List Int} {r : RdS} {w : World} {e : Ending} {w' : World} {x : En} {q : Nat} (h : oneS b (gB b 3) r.at_ r.last = .inr (x, q)) (he : e = .returned (.tuple #[.agg (enC x).toArray, .int .i64 (q : Int), .int .i64 0])) (hb : Below w.heap.size w w') : EtPost b r w e w' := by
  unfold EtPost
  rw [h]
  exact ⟨he, hb⟩

/-- A new box. -/
theorem wpList_alloc_blk {ops : Array Oper} {rest : List Oper} {op : Oper} {a : Act} {Q : Exit → Act → World → Prop} (hgd : op.guard = none) (ho : op.op = .alloc 44)
    {w W : World} {l : List En} (St : Bx w W l) (h : ∀ W1, Bx w W1 (l ++ [en0]) → wpList Try.prog ops Q rest (a.put op.dst (.pointer (some ⟨w.heap.size + l.length, 0, none⟩))) W1) : wpList Try.prog ops Q (op :: rest) a W := by
  refine wpList_plain hgd fun _ hK => ?_
  unfold Oper.wp
  rw [exec_alloc44 ho W]
  rw [St.sz]
  exact hK _ _ (h _ (St.alloc en0))
/-- One cell of a box turned. -/
theorem Bx.put {w W : World} {l : List En} (h : Bx w W l) (k : Nat) (hk : k < l.length) (o : Nat) (v : Value) (y : En) (hy : enC y = (enC l[k]).set o v) : Bx w (W.setCell ⟨w.heap.size + k, o, none⟩ v) (l.set k y) := by
  refine h.turn k hk y ?_ (fun j hj => Below.heap_setCell W ⟨w.heap.size + k, o, none⟩ v j hj) (by simp [World.setCell]) ?_
  · rw [blk_set (h.bx k hk) o v, hy]
    simp
  · have hE := h.below
    refine ⟨hE.os, hE.tape, hE.output, ?_, fun i hi => ?_⟩
    · simpa [World.setCell] using hE.size
    · rw [Below.heap_setCell W ⟨w.heap.size + k, o, none⟩ v i (by show i ≠ w.heap.size + k; omega)]
      exact hE.block i hi
theorem run_put {w W : World} {l : List En} (h : Bx w W l) (k : Nat) (hk : k < l.length) (hw : l[k].fr.wf) (o : Nat) (ho : o < 28) (t : TypeId) (v : Value) (hc : v.cells.toList = [v]) (ht : (Try.prog.info? t).map (·.size) = some 1) (h1 : v.oneCell' = true) :
    (Instr.storeAt t (.pointer (some ⟨w.heap.size + k, o, none⟩)) v).run Try.prog W = .ok () (W.setCell ⟨w.heap.size + k, o, none⟩ v) :=
  run_store_run t v [v] (h.bx k hk) hc ht (by simp [enC_len hw]; omega) (fun q hq => by rw [List.mem_singleton.1 hq]; exact h1)
theorem wpList_store_put {ops : Array Oper} {rest : List Oper} {op : Oper} {a : Act} {Q : Exit → Act → World → Prop} (hgd : op.guard = none) (t : TypeId) (p q : Operand) (hop : op.op = .store t p q)
    {w W : World} {l : List En} (St : Bx w W l) (k : Nat) (hk : k < l.length) (hw : l[k].fr.wf) (o : Nat) (ho : o < 28) (v : Value) (y : En) (hp : a.eval p = .pointer (some ⟨w.heap.size + k, o, none⟩)) (hq : a.eval q = v)
    (hc : v.cells.toList = [v]) (ht : (Try.prog.info? t).map (·.size) = some 1) (h1 : v.oneCell' = true) (hy : enC y = (enC l[k]).set o v)
    (h : ∀ W1, Bx w W1 (l.set k y) → wpList Try.prog ops Q rest (a.put op.dst undef) W1) : wpList Try.prog ops Q (op :: rest) a W := by
  refine wpList_plain hgd fun _ hK => ?_
  have hrun := run_put St k hk hw o ho t v hc ht h1
  unfold Oper.wp execOp
  simp only [hop, hp, hq, Sem.run_bind, Sem.run_pure, Result.andThen_ok, hrun]
  exact hK _ _ (h _ (St.put k hk o v y hy))
theorem exec_put {o : Oper} {a : Act} {t : TypeId} {p q : Operand} (hop : o.op = .store t p q) {w W : World} {l : List En} (St : Bx w W l) (k : Nat) (hk : k < l.length) (hw : l[k].fr.wf) (j : Nat) (hj : j < 28) (v : Value) (hp : a.eval p = .pointer (some ⟨w.heap.size + k, j, none⟩)) (hq : a.eval q = v)
    (hc : v.cells.toList = [v]) (ht : (Try.prog.info? t).map (·.size) = some 1) (h1 : v.oneCell' = true) : (execOp a.eval o).run Try.prog W = .ok .skip (W.setCell ⟨w.heap.size + k, j, none⟩ v) := by
  have hrun := run_put St k hk hw j hj t v hc ht h1
  unfold execOp
  simp only [hop, hp, hq, Sem.run_bind, hrun, Result.andThen_ok, Sem.run_pure]
end Go.Proofs.Ytfbdnfokoakfaaa.Ct
namespace Go.Proofs.Ytfbdnfokoakfaaa.Ct
open Go.RowKit Go.Proofs.YtfbdnfokoakfaaaW.PrintWords Go.Proofs.YtfbdnfokoakfaaaW.PrintLast Go.Proofs.YtfbdnfokoakfaaaW.PrintMore
set_option linter.unusedVariables false
set_option linter.unusedSimpArgs false

theorem pad_wf {L H : Int} {s : List Int} (h : s.length ≤ 24) (hr : ∀ x, x ∈ s → 0 ≤ x ∧ x ≤ 255) : (⟨L, H, padS s⟩ : Fr).wf := by
  refine ⟨?_, fun t ht => ?_⟩
  · show (padS s).length = 24
    unfold padS
    rw [List.length_append, List.length_replicate]
    omega
  · have ht' : t ∈ padS s := ht
    unfold padS at ht'
    rcases List.mem_append.1 ht' with h1 | h1
    · exact hr t h1
    · have := List.eq_of_mem_replicate h1
      omega
theorem pad_set (t : List Int) (j : Nat) (hj : j < 24) (hl : j < t.length) : padS (t.take (j + 1)) = (padS (t.take j)).set j (gB t j) := by
  have hlt : (t.take j).length = j := by rw [List.length_take]; omega
  have hg : gB t j = t[j] := by unfold gB; rw [List.getD_eq_getElem?_getD, List.getElem?_eq_getElem hl]; rfl
  unfold padS
  rw [hg, List.take_succ_eq_append_getElem hl, List.length_append, hlt, List.length_singleton, List.set_append_right _ _ (by omega), hlt, Nat.sub_self, show 24 - j = (24 - (j + 1)) + 1 by omega, List.replicate_succ, List.set_cons_zero, List.append_assoc]
  rfl
theorem slot_put (v : Int) (d : Bool) (L H : Int) (t : List Int) (j : Nat) (hj : j < 24) (hl : j < t.length) : enC ⟨v, d, ⟨L, H, padS (t.take (j + 1))⟩⟩ = (enC ⟨v, d, ⟨L, H, padS (t.take j)⟩⟩).set (4 + j) (.int .u8 (gB t j)) := by
  rw [show 4 + j = j + 1 + 1 + 1 + 1 by omega]
  simp only [enC, frC, List.set_cons_succ]
  rw [pad_set t j hj hl]
  simp only [nums, List.map_set]

set_option maxHeartbeats 4000000 in
set_option maxRecDepth 100000 in
theorem entry_c (g : Nat) (A : Option Addr) (c : Nat) (b : List Int) (n : Nat) (r : RdS) (w : World) (h : RdB w g A c b n r) : Calls Try.prog 40 #[.pointer (some ⟨g, 0, none⟩)] w (EtPost b r w) := by
  have HB := Lib.hid h
  have hgw := blk_lt h.a
  have hpl := h.p
  have hl48 := h.y.l
  have hL16 := h.L
  have hsix := h.six
  clear h

  go_enter Try.func40, Try.ntmps40
  go_wp2
  refine gen_world (fun W => Bx w W [en0]) (Bx.alloc (l := []) ⟨fun i hi => absurd hi (Nat.not_lt_zero _), rfl, Below.refl _ _⟩ en0) ?_
  rintro W0 St00
  have hs1 : W0.drew.heap.size = w.heap.size + 1 := St00.sz
  refine start_ (n := 13) (S := fun W => Below w.heap.size w W) (ds := []) #[false, false, false, false, false, false, false, false, false, false, false, false, false] (by kernel_rfl) rfl rfl (St00.drewN 1).below (fun hHeld => ?_)
  refine pure_ (i := 0) (N := some 12) (v := ?_) (a' := ?_) #[true, false, false, false, false, false, false, false, false, false, false, false, false] rfl rfl (by kernel_rfl) (fun _ _ _ h => h) (Or.inl ⟨by rfl, ?_⟩) ?_ ?_
  rotate_left
  · intro w_
    go_simp
    with_reducible rfl
  rotate_left
  · simp only [Act.put, List.setIfInBounds_toArray, List.set_cons_zero, List.set_cons_succ]
    rfl
  refine pure_ (i := 1) (N := some 13) (v := ?_) (a' := ?_) #[true, true, false, false, false, false, false, false, false, false, false, false, false] rfl rfl (by kernel_rfl) (fun _ _ _ h => h) (Or.inl ⟨by rfl, ?_⟩) ?_ ?_
  rotate_left
  · intro w_
    go_simp
    with_reducible rfl
  rotate_left
  · simp only [Act.put, List.setIfInBounds_toArray, List.set_cons_zero, List.set_cons_succ]
    rfl
  refine pure_ (i := 2) (N := some 14) (v := ?_) (a' := ?_) #[true, true, true, false, false, false, false, false, false, false, false, false, false] rfl rfl (by kernel_rfl) (fun _ _ _ h => h) (Or.inl ⟨by rfl, ?_⟩) ?_ ?_
  rotate_left
  · intro w_
    go_simp
    with_reducible rfl
  rotate_left
  · simp only [Act.put, List.setIfInBounds_toArray, List.set_cons_zero, List.set_cons_succ]
    rfl
  refine pure_ (i := 3) (N := some 15) (v := ?_) (a' := ?_) #[true, true, true, true, false, false, false, false, false, false, false, false, false] rfl rfl (by kernel_rfl) (fun _ _ _ h => h) (Or.inl ⟨by rfl, ?_⟩) ?_ ?_
  rotate_left
  · intro w_
    go_simp
    with_reducible rfl
  rotate_left
  · simp only [Act.put, List.setIfInBounds_toArray, List.set_cons_zero, List.set_cons_succ]
    rfl
  refine pure_ (i := 5) (N := some 17) (v := ?_) (a' := ?_) #[true, true, true, true, false, true, false, false, false, false, false, false, false] rfl rfl (by kernel_rfl) (fun _ _ _ h => h) (Or.inl ⟨by rfl, ?_⟩) ?_ ?_
  rotate_left
  · intro w_
    go_simp
    with_reducible rfl
  rotate_left
  · simp only [Act.put, List.setIfInBounds_toArray, List.set_cons_zero, List.set_cons_succ]
    rfl
  refine pure_ (i := 6) (N := some 18) (v := ?_) (a' := ?_) #[true, true, true, true, false, true, true, false, false, false, false, false, false] rfl rfl (by kernel_rfl) (fun _ _ _ h => h) (Or.inl ⟨by rfl, ?_⟩) ?_ ?_
  rotate_left
  · intro w_
    go_simp
    with_reducible rfl
  rotate_left
  · simp only [Act.put, List.setIfInBounds_toArray, List.set_cons_zero, List.set_cons_succ]
    rfl
  refine pure_ (i := 7) (N := some 19) (v := ?_) (a' := ?_) #[true, true, true, true, false, true, true, true, false, false, false, false, false] rfl rfl (by kernel_rfl) (fun _ _ _ h => h) (Or.inl ⟨by rfl, ?_⟩) ?_ ?_
  rotate_left
  · intro w_
    go_simp
    with_reducible rfl
  rotate_left
  · simp only [Act.put, List.setIfInBounds_toArray, List.set_cons_zero, List.set_cons_succ]
    rfl
  refine take_ (i := 4) (N := some 16) (v := ?_) (a' := ?_) #[true, true, true, true, true, true, true, true, false, false, false, false, false] rfl rfl (by kernel_rfl) (fun _ _ _ h => h) (Or.inl ⟨by rfl, ?_⟩) hHeld ?_ ?_
  rotate_left
  · intro w_ hS_
    have s0 := (HB.out.cells hS_).1
    go_simp
    with_reducible rfl
  rotate_left
  · simp only [Act.put, List.setIfInBounds_toArray, List.set_cons_zero, List.set_cons_succ]
    rfl
  refine take_ (i := 8) (N := some 20) (v := ?_) (a' := ?_) #[true, true, true, true, true, true, true, true, true, false, false, false, false] rfl rfl (by kernel_rfl) (fun _ _ _ h => h) (Or.inl ⟨by rfl, ?_⟩) hHeld ?_ ?_
  rotate_left
  · intro w_ hS_
    have s0 := (HB.out.cells hS_).2.1
    go_simp
    with_reducible rfl
  rotate_left
  · simp only [Act.put, List.setIfInBounds_toArray, List.set_cons_zero, List.set_cons_succ]
    rfl
  refine one_ (i := 9) (N := some 5) #[true, true, true, true, true, true, true, true, true, true, false, false, false] rfl rfl (by kernel_rfl) (by decide) (fun K hK => ?_)
  refine event_step (by rfl) (exec_alloc44 rfl _) ?_
  refine hK.out _ _ (below_alloc hHeld _) (fun hHeld => ?_)
  clear hK K
  refine norm_ (a' := ?_) ?_ ?_
  rotate_left
  · show Act.put _ (some 5) _ = _
    simp only [Act.put, List.setIfInBounds_toArray, List.set_cons_zero, List.set_cons_succ]
    rfl
  refine one_ (i := 10) (N := none) #[true, true, true, true, true, true, true, true, true, true, true, false, false] rfl rfl (by kernel_rfl) (by decide) (fun K hK => ?_)
  refine skip_step (by rfl) (exec_store44_new (p := .tmp 5) (q := .tmp 12) (x := en0) (y := en0) rfl rfl rfl fr0_wf fr0_wf) ?_
  refine hK.out _ _ hHeld (fun hHeld => ?_)
  clear hK K
  refine norm_ (a' := ?_) ?_ ?_
  rotate_left
  · show Act.put _ (none) _ = _
    simp only [Act.put, List.setIfInBounds_toArray, List.set_cons_zero, List.set_cons_succ]
    rfl
  refine pure_ (i := 11) (N := some 6) (v := ?_) (a' := ?_) #[true, true, true, true, true, true, true, true, true, true, true, true, false] rfl rfl (by kernel_rfl) (fun _ _ _ h => h) (Or.inl ⟨by rfl, ?_⟩) ?_ ?_
  rotate_left
  · intro w_
    go_simp
    with_reducible rfl
  rotate_left
  · simp only [Act.put, List.setIfInBounds_toArray, List.set_cons_zero, List.set_cons_succ]
    rfl
  refine pure_ (i := 12) (N := some 7) (v := ?_) (a' := ?_) #[true, true, true, true, true, true, true, true, true, true, true, true, true] rfl rfl (by kernel_rfl) (fun _ _ _ h => h) (Or.inl ⟨by rfl, ?_⟩) ?_ ?_
  rotate_left
  · intro w_
    go_simp
    with_reducible rfl
  rotate_left
  · simp only [Act.put, List.setIfInBounds_toArray, List.set_cons_zero, List.set_cons_succ]
    rfl
  refine done_ (by kernel_rfl) ?_
  have St0 : Bx w (W0.drew.alloc (.cells (enC en0).toArray 44)) [en0, en0] := Bx.alloc (l := [en0]) (St00.drewN 1) en0
  rw [hs1]
  generalize W0.drew.alloc (.cells (enC en0).toArray 44) = W1 at St0 ⊢
  clear hs1 St00 hHeld
  have HSt := Lib.hid St0
  obtain ⟨p, hp⟩ : ∃ p, p = r.at_ := ⟨_, rfl⟩
  rw [← hp] at hpl ⊢
  by_cases c1 : b.length < p + 2
  · have d1 : decide ((b.length : Int) - (p : Int) < 2) = true := decide_eq_true (by omega)
    have HV1 := Lib.hid (show oneS b (gB b 3) r.at_ r.last = .inl ((b.length : Int), 2) by rw [← hp]; unfold oneS; rw [if_pos c1])
    clear hp St0
    go_wp2_with (first | ((with_reducible refine gate_dst (N := 26) rfl ?_); refine wpList_load_any rfl 44 (.tmp 5) rfl ⟨w.heap.size + 1, 0, none⟩ rfl (enC en0) _ (HSt.out.rng 1 (by simp)) Try.underlying44 rfl (by rw [enC_len fr0_wf]; kernel_rfl) ?_) | ((with_reducible refine gate_store (t := 44) (p := 2) rfl ?_); refine wpList_store_blk rfl (.tmp 2) (.tmp 26) rfl HSt.out 0 (by simp) fr0_wf en0 fr0_wf rfl rfl ?_; intro W9 hW9))
    refine bodyPost_ret (ret_cell3 rfl _ hW9 0 (by simp) fr0_wf rfl) rfl ?_
    exact et_inl HV1.out rfl hW9.below
  · have d1 : decide ((b.length : Int) - (p : Int) < 2) = false := decide_eq_false (by omega)
    obtain ⟨A', c', hcut, hY⟩ := HB.out.y.tail p (by omega)
    have hl2 : (b.drop p).length = b.length - p := List.length_drop
    have hgp : gB (b.drop p) 0 = gB b p ∧ gB (b.drop p) 1 = gB b (p + 1) := by
      unfold gB
      simp [List.getD_eq_getElem?_getD, List.getElem?_drop]
    obtain ⟨t, ht⟩ : ∃ t, t = b.drop p := ⟨_, rfl⟩
    rw [← ht] at hcut hY hl2 hgp
    have HWd := Lib.hid (fun W hW => word_c A' c' t W (hY W hW) (by omega))
    rw [hgp.1, hgp.2] at HWd
    obtain ⟨v, hv⟩ : ∃ v, v = gB b p * 256 + gB b (p + 1) := ⟨_, rfl⟩
    rw [← hv] at HWd
    have HP := Lib.hid (And.intro hp hv)
    clear hl2 hgp ht St0 hp hv
    go_wp2_with fail
    refine (HWd.out _ HSt.out.below).mono ?_
    rintro e w1 ⟨rfl, ⟨⟨n1, rfl⟩⟩⟩
    go_upto_region 5 with (first | ((with_reducible refine gate_dst (N := 8) rfl ?_); refine wpList_alloc_blk rfl rfl (HSt.out.drewN _) ?_; intro W2 hW2) | ((with_reducible refine gate_store (t := 44) (p := 8) rfl ?_); refine wpList_store_blk rfl (.tmp 8) (.tmp 33) rfl hW2 2 (by simp) fr0_wf ⟨v, false, fr0⟩ fr0_wf rfl rfl ?_; intro W3 hW3))
    have HS3 : Hid (Bx w W3 [en0, en0, ⟨v, false, fr0⟩]) := Lib.hid hW3
    clear hW3 HSt hW2
    obtain ⟨R, hR⟩ : ∃ R, R = oneS b (gB b 3) r.at_ r.last := ⟨_, rfl⟩
    have HR := Lib.hid hR.symm
    rw [← HP.out.1] at hR
    unfold oneS at hR
    rw [if_neg c1, ← HP.out.2] at hR
    obtain ⟨z, hz⟩ : ∃ z, z = risesS r.last v := ⟨_, rfl⟩
    rw [← hz] at hR
    have HRs := Lib.hid (fun W => rises_c r.last v W)
    rw [← hz] at HRs
    have HV := Lib.hid hR
    clear hz hR
    have k2 := (HB.out.cells HS3.out.below).2.2.1
    have k8 : W3.cell? ⟨w.heap.size + 2, 0, none⟩ = some (.int .i64 v) := (HS3.out.rng 2 (by simp)).at_
    obtain ⟨last, hlast⟩ : ∃ last, last = r.last := ⟨_, rfl⟩
    rw [← hlast] at k2 HRs
    clear hlast

    go_quiet (first | (go_at_call 36; refine Calls.quiet_of ((HRs.out _).mono (by rintro e w1 ⟨rfl, ⟨⟨m, h⟩⟩⟩; exact ⟨rfl, m, h⟩))))
    clear k2 k8
    have HS := Lib.hid (HS3.out.drewN nq)
    generalize W3.drewN nq = W4 at HS ⊢
    clear HS3
    by_cases c2 : z ≠ 0
    · have d2 : (z != 0) = true := by simpa using c2
      have hv := HV.out
      rw [if_pos c2] at hv
      have HV1 := Lib.hid (HR.out.trans hv)
      clear hv c2
      go_wp2_with (first | ((with_reducible refine gate_dst (N := 43) rfl ?_); refine wpList_load_any rfl 44 (.tmp 5) rfl ⟨w.heap.size + 1, 0, none⟩ rfl (enC en0) _ (HS.out.rng 1 (by simp)) Try.underlying44 rfl (by rw [enC_len fr0_wf]; kernel_rfl) ?_) | ((with_reducible refine gate_store (t := 44) (p := 2) rfl ?_); refine wpList_store_blk rfl (.tmp 2) (.tmp 43) rfl HS.out 0 (by simp) fr0_wf en0 fr0_wf rfl rfl ?_; intro W9 hW9))
      refine bodyPost_ret (ret_cell3 rfl _ hW9 0 (by simp) fr0_wf rfl) rfl ?_
      exact et_inl HV1.out rfl hW9.below
    · have d2 : (z != 0) = false := by simpa using c2
      have hv := HV.out
      rw [if_neg c2] at hv
      have HV := Lib.hid hv
      clear hv c2
      obtain ⟨p2, hp2⟩ : ∃ p2 : Nat, p2 = p + 2 := ⟨_, rfl⟩
      have e2 : (p : Int) + 2 = (p2 : Int) := by omega
      have HP2 := Lib.hid hp2
      have hb2 : p2 ≤ b.length := by omega
      by_cases c3 : p2 = b.length
      · have d3 : ((p2 : Int) == (b.length : Int)) = true := by rw [beq_iff_eq]; omega
        have HV1 := Lib.hid (show oneS b (gB b 3) r.at_ r.last = .inl ((p2 : Int), 2) by
          have hv := HV.out
          rw [if_pos (by omega)] at hv
          rw [HR.out, hv, c3])
        clear c3 hp2
        go_wp2_with (first | ((with_reducible refine gate_dst (N := 52) rfl ?_); refine wpList_load_any rfl 44 (.tmp 5) rfl ⟨w.heap.size + 1, 0, none⟩ rfl (enC en0) _ (HS.out.rng 1 (by simp)) Try.underlying44 rfl (by rw [enC_len fr0_wf]; kernel_rfl) ?_) | ((with_reducible refine gate_store (t := 44) (p := 2) rfl ?_); refine wpList_store_blk rfl (.tmp 2) (.tmp 52) rfl HS.out 0 (by simp) fr0_wf en0 fr0_wf rfl rfl ?_; intro W9 hW9))
        refine bodyPost_ret (ret_cell3 rfl _ hW9 0 (by simp) fr0_wf rfl) rfl ?_
        exact et_inl HV1.out rfl hW9.below
      · have d3 : ((p2 : Int) == (b.length : Int)) = false := by rw [beq_eq_false_iff_ne]; omega
        have hv := HV.out
        rw [if_neg (by omega), ← hp2] at hv
        have d4 : decide ((p2 : Int) < (b.length : Int)) = true := decide_eq_true (by omega)
        obtain ⟨ad, rfl, hx2⟩ := (HB.out.y.next HS.out.below).cell p2 (by omega)
        have r2 := gB_range b HB.out.y.y p2
        obtain ⟨x2, hxx2⟩ : ∃ x2, x2 = gB b p2 := ⟨_, rfl⟩
        rw [← hxx2] at hv hx2 r2
        have HV := Lib.hid hv
        clear hv hxx2 hp2
        by_cases c4 : 1 < x2
        · have d5 : decide (1 < x2) = true := decide_eq_true c4
          have HV1 := Lib.hid (show oneS b (gB b 3) r.at_ r.last = .inl ((p2 : Int), 63) by
            have hv := HV.out
            rw [if_pos c4, e2] at hv
            exact HR.out.trans hv)
          clear c4
          go_wp2_with (first | ((with_reducible refine gate_dst (N := 59) rfl ?_); refine wpList_load_any rfl 44 (.tmp 5) rfl ⟨w.heap.size + 1, 0, none⟩ rfl (enC en0) _ (HS.out.rng 1 (by simp)) Try.underlying44 rfl (by rw [enC_len fr0_wf]; kernel_rfl) ?_) | ((with_reducible refine gate_store (t := 44) (p := 2) rfl ?_); refine wpList_store_blk rfl (.tmp 2) (.tmp 59) rfl HS.out 0 (by simp) fr0_wf en0 fr0_wf rfl rfl ?_; intro W9 hW9))
          refine bodyPost_ret (ret_cell3 rfl _ hW9 0 (by simp) fr0_wf rfl) rfl ?_
          exact et_inl HV1.out rfl hW9.below
        · have d5 : decide (1 < x2) = false := decide_eq_false c4
          have hv := HV.out
          rw [if_neg c4] at hv
          have HV := Lib.hid hv
          clear hv c4
          by_cases c5 : x2 = 0
          · have d6 : (x2 == 0) = true := by simpa using c5
            have HV1 := Lib.hid (show oneS b (gB b 3) r.at_ r.last = .inr (⟨v, true, fr0⟩, p2 + 1) by
              have hv := HV.out
              rw [if_pos c5] at hv
              rw [HR.out, hv, HP2.out])
            clear c5
            go_wp2_with (first | ((with_reducible refine gate_store (t := 4) (p := 66) rfl ?_); refine wpList_store_put rfl 4 (.tmp 66) (.const (.bool true)) rfl HS.out 2 (by simp) fr0_wf 1 (by omega) (.bool true) ⟨v, true, fr0⟩ rfl rfl rfl (by kernel_rfl) rfl rfl ?_; intro W5 hW5) | ((with_reducible refine gate_dst (N := 67) rfl ?_); refine wpList_load_any rfl 44 (.tmp 8) rfl ⟨w.heap.size + 2, 0, none⟩ rfl (enC ⟨v, true, fr0⟩) _ (hW5.rng 2 (by simp)) Try.underlying44 rfl (by rw [enC_len (x := ⟨v, true, fr0⟩) fr0_wf]; kernel_rfl) ?_) | ((with_reducible refine gate_store (t := 44) (p := 2) rfl ?_); refine wpList_store_blk rfl (.tmp 2) (.tmp 67) rfl hW5 0 (by simp) fr0_wf ⟨v, true, fr0⟩ fr0_wf rfl rfl ?_; intro W9 hW9))
            refine bodyPost_ret (ret_cell3 rfl _ hW9 0 (by simp) fr0_wf rfl) rfl ?_
            exact et_inr HV1.out rfl hW9.below
          · have d6 : (x2 == 0) = false := by simpa using c5
            have hv := HV.out
            rw [if_neg c5] at hv
            have HV := Lib.hid hv
            clear hv c5
            obtain ⟨p3, hp3⟩ : ∃ p3 : Nat, p3 = p2 + 1 := ⟨_, rfl⟩
            have e3 : (p2 : Int) + 1 = (p3 : Int) := by omega
            have HP3 := Lib.hid hp3
            have hb3 : p3 ≤ b.length := by omega
            have h33 : p + 3 = p3 := by have := HP2.out; omega
            by_cases c6 : p3 = b.length
            · have d7 : ((p3 : Int) == (b.length : Int)) = true := by rw [beq_iff_eq]; omega
              have HV1 := Lib.hid (show oneS b (gB b 3) r.at_ r.last = .inl ((p3 : Int), 2) by
                have hv := HV.out
                rw [if_pos (by omega)] at hv
                rw [HR.out, hv, c6])
              clear c6 hp3 h33
              go_wp2_with (first | ((with_reducible refine gate_dst (N := 76) rfl ?_); refine wpList_load_any rfl 44 (.tmp 5) rfl ⟨w.heap.size + 1, 0, none⟩ rfl (enC en0) _ (HS.out.rng 1 (by simp)) Try.underlying44 rfl (by rw [enC_len fr0_wf]; kernel_rfl) ?_) | ((with_reducible refine gate_store (t := 44) (p := 2) rfl ?_); refine wpList_store_blk rfl (.tmp 2) (.tmp 76) rfl HS.out 0 (by simp) fr0_wf en0 fr0_wf rfl rfl ?_; intro W9 hW9))
              refine bodyPost_ret (ret_cell3 rfl _ hW9 0 (by simp) fr0_wf rfl) rfl ?_
              exact et_inl HV1.out rfl hW9.below
            · have d7 : ((p3 : Int) == (b.length : Int)) = false := by rw [beq_eq_false_iff_ne]; omega
              have hv := HV.out
              rw [if_neg (by omega), h33, show (p : Int) + 3 = (p3 : Int) by omega, show p + 4 = p3 + 1 by omega] at hv
              have d8 : decide ((p3 : Int) < (b.length : Int)) = true := decide_eq_true (by omega)
              have d9 : decide ((3 : Int) < (b.length : Int)) = true := decide_eq_true (by omega)
              have HX3 : Hid (∀ W, Below w.heap.size w W → W.cell? (ad.add p3) = some (.int .u8 (gB b p3))) := Lib.hid (fun W hW => by
                obtain ⟨ad', e', h'⟩ := (HB.out.y.next hW).cell p3 (by omega)
                cases e'
                exact h')
              have HXL : Hid (∀ W, Below w.heap.size w W → W.cell? (ad.add 3) = some (.int .u8 (gB b 3))) := Lib.hid (fun W hW => by
                obtain ⟨ad', e', h'⟩ := (HB.out.y.next hW).cell 3 (by omega)
                cases e'
                exact h')
              have r3 := gB_range b HB.out.y.y p3
              have rL := gB_range b HB.out.y.y 3
              obtain ⟨x3, hxx3⟩ : ∃ x3, x3 = gB b p3 := ⟨_, rfl⟩
              obtain ⟨L, hLL⟩ : ∃ L, L = gB b 3 := ⟨_, rfl⟩
              rw [← hxx3] at hv r3 HX3
              rw [← hLL] at hv rL HXL hL16
              rw [← hLL] at HR
              have HLL := Lib.hid hLL
              obtain ⟨m, hm⟩ : ∃ m : Nat, m = (L + x3).toNat := ⟨_, rfl⟩
              have e4 : L + x3 = (m : Int) := by omega
              rw [← hm, e4] at hv
              have HV := Lib.hid hv
              clear hv hxx3 hLL hp3 hm h33
              go_upto_region 19 with fail
              have l9 : (3 : Int) < (b.length : Int) := by omega
              have l8 : p3 < b.length := by omega
              have w1 : IntKind.i64.wrap L = L := by rw [IntKind.wrap_i64]; omega
              have w2 : IntKind.i64.wrap x3 = x3 := by rw [IntKind.wrap_i64]; omega
              refine start_ (n := 15) (S := fun W => Below w.heap.size w W) (ds := []) #[false, false, false, false, false, false, false, false, false, false, false, false, false, false, false] (by kernel_rfl) rfl rfl (HS.out.drewN 1).below (fun hHeld => ?_)
              refine pure_ (i := 0) (N := some 78) (v := ?_) (a' := ?_) #[true, false, false, false, false, false, false, false, false, false, false, false, false, false, false] rfl rfl (by kernel_rfl) (fun _ _ _ h => h) (Or.inl ⟨by rfl, ?_⟩) ?_ ?_
              rotate_left
              · intro w_
                go_simp
                with_reducible rfl
              rotate_left
              · simp only [Act.put, List.setIfInBounds_toArray, List.set_cons_zero, List.set_cons_succ]
                rfl
              refine pure_ (i := 1) (N := some 79) (v := ?_) (a' := ?_) #[true, true, false, false, false, false, false, false, false, false, false, false, false, false, false] rfl rfl (by kernel_rfl) (fun _ _ _ h => h) (Or.inl ⟨by rfl, ?_⟩) ?_ ?_
              rotate_left
              · intro w_
                go_simp
                with_reducible rfl
              rotate_left
              · simp only [Act.put, List.setIfInBounds_toArray, List.set_cons_zero, List.set_cons_succ]
                rfl
              refine pure_ (i := 4) (N := some 82) (v := ?_) (a' := ?_) #[true, true, false, false, true, false, false, false, false, false, false, false, false, false, false] rfl rfl (by kernel_rfl) (fun _ _ _ h => h) (Or.inl ⟨by rfl, ?_⟩) ?_ ?_
              rotate_left
              · intro w_
                go_simp
                with_reducible rfl
              rotate_left
              · simp only [Act.put, List.setIfInBounds_toArray, List.set_cons_zero, List.set_cons_succ]
                rfl
              refine pure_ (i := 5) (N := some 83) (v := ?_) (a' := ?_) #[true, true, false, false, true, true, false, false, false, false, false, false, false, false, false] rfl rfl (by kernel_rfl) (fun _ _ _ h => h) (Or.inl ⟨by rfl, ?_⟩) ?_ ?_
              rotate_left
              · intro w_
                go_simp
                with_reducible rfl
              rotate_left
              · simp only [Act.put, List.setIfInBounds_toArray, List.set_cons_zero, List.set_cons_succ]
                rfl
              refine pure_ (i := 6) (N := some 84) (v := ?_) (a' := ?_) #[true, true, false, false, true, true, true, false, false, false, false, false, false, false, false] rfl rfl (by kernel_rfl) (fun _ _ _ h => h) (Or.inl ⟨by rfl, ?_⟩) ?_ ?_
              rotate_left
              · intro w_
                go_simp
                with_reducible rfl
              rotate_left
              · simp only [Act.put, List.setIfInBounds_toArray, List.set_cons_zero, List.set_cons_succ]
                rfl
              refine take_ (i := 2) (N := some 80) (v := ?_) (a' := ?_) #[true, true, true, false, true, true, true, false, false, false, false, false, false, false, false] rfl rfl (by kernel_rfl) (fun _ _ _ h => h) (Or.inl ⟨by rfl, ?_⟩) hHeld ?_ ?_
              rotate_left
              · intro w_ hS_
                have s0 := HXL.out _ hS_
                simp only [Addr.add, show ¬ (3 : Nat) = 0 by decide, if_false] at s0
                go_simp
                with_reducible rfl
              rotate_left
              · simp only [Act.put, List.setIfInBounds_toArray, List.set_cons_zero, List.set_cons_succ]
                rfl
              refine pure_ (i := 3) (N := some 81) (v := ?_) (a' := ?_) #[true, true, true, true, true, true, true, false, false, false, false, false, false, false, false] rfl rfl (by kernel_rfl) (fun _ _ _ h => h) (Or.inl ⟨by rfl, ?_⟩) ?_ ?_
              rotate_left
              · intro w_
                go_simp
                with_reducible rfl
              rotate_left
              · simp only [Act.put, List.setIfInBounds_toArray, List.set_cons_zero, List.set_cons_succ]
                rfl
              refine pure_ (i := 9) (N := some 87) (v := ?_) (a' := ?_) #[true, true, true, true, true, true, true, false, false, true, false, false, false, false, false] rfl rfl (by kernel_rfl) (fun _ _ _ h => h) (Or.inl ⟨by rfl, ?_⟩) ?_ ?_
              rotate_left
              · intro w_
                go_simp
                with_reducible rfl
              rotate_left
              · simp only [Act.put, List.setIfInBounds_toArray, List.set_cons_zero, List.set_cons_succ]
                rfl
              refine pure_ (i := 10) (N := some 88) (v := ?_) (a' := ?_) #[true, true, true, true, true, true, true, false, false, true, true, false, false, false, false] rfl rfl (by kernel_rfl) (fun _ _ _ h => h) (Or.inl ⟨by rfl, ?_⟩) ?_ ?_
              rotate_left
              · intro w_
                go_simp
                with_reducible rfl
              rotate_left
              · simp only [Act.put, List.setIfInBounds_toArray, List.set_cons_zero, List.set_cons_succ]
                rfl
              refine take_ (i := 7) (N := some 85) (v := ?_) (a' := ?_) #[true, true, true, true, true, true, true, true, false, true, true, false, false, false, false] rfl rfl (by kernel_rfl) (fun _ _ _ h => h) (Or.inl ⟨by rfl, ?_⟩) hHeld ?_ ?_
              rotate_left
              · intro w_ hS_
                have s0 := HX3.out _ hS_
                go_simp
                with_reducible rfl
              rotate_left
              · simp only [Act.put, List.setIfInBounds_toArray, List.set_cons_zero, List.set_cons_succ]
                rfl
              refine pure_ (i := 8) (N := some 86) (v := ?_) (a' := ?_) #[true, true, true, true, true, true, true, true, true, true, true, false, false, false, false] rfl rfl (by kernel_rfl) (fun _ _ _ h => h) (Or.inl ⟨by rfl, ?_⟩) ?_ ?_
              rotate_left
              · intro w_
                go_simp
                with_reducible rfl
              rotate_left
              · simp only [Act.put, List.setIfInBounds_toArray, List.set_cons_zero, List.set_cons_succ]
                rfl
              refine one_ (i := 11) (N := none) #[true, true, true, true, true, true, true, true, true, true, true, true, false, false, false] rfl rfl (by kernel_rfl) (by decide) (fun K hK => ?_)
              refine skip_step (by rfl) (exec_put (t := 3) (p := .tmp 88) (q := .tmp 81) rfl (HS.out.drewN 1) 2 (by simp) fr0_wf 2 (by omega) (.int .i64 L) rfl rfl rfl (by kernel_rfl) rfl) ?_
              refine hK.out _ _ ((HS.out.drewN 1).put 2 (by simp) 2 (.int .i64 L) ⟨v, false, ⟨L, 0, List.replicate 24 0⟩⟩ rfl).below (fun hHeld => ?_)
              clear hK K
              refine norm_ (a' := ?_) ?_ ?_
              rotate_left
              · show Act.put _ (none) _ = _
                simp only [Act.put, List.setIfInBounds_toArray, List.set_cons_zero, List.set_cons_succ]
                rfl
              refine pure_ (i := 12) (N := some 89) (v := ?_) (a' := ?_) #[true, true, true, true, true, true, true, true, true, true, true, true, true, false, false] rfl rfl (by kernel_rfl) (fun _ _ _ h => h) (Or.inl ⟨by rfl, ?_⟩) ?_ ?_
              rotate_left
              · intro w_
                go_simp
                with_reducible rfl
              rotate_left
              · simp only [Act.put, List.setIfInBounds_toArray, List.set_cons_zero, List.set_cons_succ]
                rfl
              refine pure_ (i := 13) (N := some 90) (v := ?_) (a' := ?_) #[true, true, true, true, true, true, true, true, true, true, true, true, true, true, false] rfl rfl (by kernel_rfl) (fun _ _ _ h => h) (Or.inl ⟨by rfl, ?_⟩) ?_ ?_
              rotate_left
              · intro w_
                go_simp
                with_reducible rfl
              rotate_left
              · simp only [Act.put, List.setIfInBounds_toArray, List.set_cons_zero, List.set_cons_succ]
                rfl
              refine one_ (i := 14) (N := none) #[true, true, true, true, true, true, true, true, true, true, true, true, true, true, true] rfl rfl (by kernel_rfl) (by decide) (fun K hK => ?_)
              refine skip_step (by rfl) (exec_put (t := 3) (p := .tmp 90) (q := .tmp 86) rfl ((HS.out.drewN 1).put 2 (by simp) 2 (.int .i64 L) ⟨v, false, ⟨L, 0, List.replicate 24 0⟩⟩ rfl) 2 (by simp) (fr0_wf : (⟨L, 0, List.replicate 24 0⟩ : Fr).wf) 3 (by omega) (.int .i64 x3) rfl rfl rfl (by kernel_rfl) rfl) ?_
              refine hK.out _ _ (((HS.out.drewN 1).put 2 (by simp) 2 (.int .i64 L) ⟨v, false, ⟨L, 0, List.replicate 24 0⟩⟩ rfl).put 2 (by simp) 3 (.int .i64 x3) ⟨v, false, ⟨L, x3, List.replicate 24 0⟩⟩ rfl).below (fun hHeld => ?_)
              clear hK K
              refine norm_ (a' := ?_) ?_ ?_
              rotate_left
              · show Act.put _ (none) _ = _
                simp only [Act.put, List.setIfInBounds_toArray, List.set_cons_zero, List.set_cons_succ]
                rfl
              refine done_ (by kernel_rfl) ?_
              have HT : Bx w (((W4.drewN 1).setCell ⟨w.heap.size + 2, 2, none⟩ (.int .i64 L)).setCell ⟨w.heap.size + 2, 3, none⟩ (.int .i64 x3)) [en0, en0, ⟨v, false, ⟨L, x3, padS []⟩⟩] :=
                ((HS.out.drewN 1).put 2 (by simp) 2 (.int .i64 L) ⟨v, false, ⟨L, 0, List.replicate 24 0⟩⟩ rfl).put 2 (by simp) 3 (.int .i64 x3) ⟨v, false, ⟨L, x3, padS []⟩⟩ rfl
              generalize ((W4.drewN 1).setCell ⟨w.heap.size + 2, 2, none⟩ (.int .i64 L)).setCell ⟨w.heap.size + 2, 3, none⟩ (.int .i64 x3) = W5 at HT ⊢
              have HT5 := Lib.hid HT
              have f0 : W5.cell? ⟨w.heap.size + 2, 2, none⟩ = some (.int .i64 L) := blk_cell (HT.bx 2 (by simp)) 2
              have f1 : W5.cell? ⟨w.heap.size + 2, 3, none⟩ = some (.int .i64 x3) := blk_cell (HT.bx 2 (by simp)) 3
              have hm : m ≤ 271 := by omega
              clear HT hHeld l9 l8 w1 w2
              by_cases c7 : 24 < m
              · have d10 : decide (24 < (m : Int)) = true := decide_eq_true (by omega)
                have HV1 := Lib.hid (show oneS b (gB b 3) r.at_ r.last = .inl ((p3 : Int), 65) by
                  have hv := HV.out
                  rw [if_pos (by omega)] at hv
                  rw [← HLL.out]
                  exact HR.out.trans hv)
                clear c7
                go_wp2_with (first | ((with_reducible refine gate_dst (N := 100) rfl ?_); refine wpList_load_any rfl 44 (.tmp 5) rfl ⟨w.heap.size + 1, 0, none⟩ rfl (enC en0) _ (HT5.out.rng 1 (by simp)) Try.underlying44 rfl (by rw [enC_len fr0_wf]; kernel_rfl) ?_) | ((with_reducible refine gate_store (t := 44) (p := 2) rfl ?_); refine wpList_store_blk rfl (.tmp 2) (.tmp 100) rfl HT5.out 0 (by simp) fr0_wf en0 fr0_wf rfl rfl ?_; intro W9 hW9))
                refine bodyPost_ret (ret_cell3 rfl _ hW9 0 (by simp) fr0_wf rfl) rfl ?_
                exact et_inl HV1.out rfl hW9.below
              · have d10 : decide (24 < (m : Int)) = false := decide_eq_false (by omega)
                have hv := HV.out
                rw [if_neg (by omega)] at hv
                obtain ⟨p4, hp4⟩ : ∃ p4 : Nat, p4 = p3 + 1 := ⟨_, rfl⟩
                have e5 : (p3 : Int) + 1 = (p4 : Int) := by omega
                have hb4 : p4 ≤ b.length := by omega
                rw [← hp4] at hv
                have HV := Lib.hid hv
                have hm24 : m ≤ 24 := by omega
                clear hv c7 hp4
                go_wp2
                clear f0 f1 hx2
                go_loopg [7, 105] (m + 1) (fun k v7 v105 W => ∃ j q : Nat, v7 = .int .i64 (q : Int) ∧ v105 = .int .i64 (j : Int) ∧ j + k = m + 1 ∧ j ≤ m ∧ q ≤ b.length ∧ Bx w W [en0, en0, ⟨v, false, ⟨L, x3, padS ((b.drop p4).take j)⟩⟩] ∧ Hid (q = p4 + j ∧ slotsS b m p4 = slotsS b (m - j) q))
                case atStart => exact ⟨0, p4, rfl, rfl, by omega, Nat.zero_le _, hb4, HT5.out, Lib.hid ⟨rfl, rfl⟩⟩
                case round =>
                  obtain ⟨j, q, rfl, rfl, hj, hjm, hql, St, HJ⟩ := hrel
                  have HSt := Lib.hid St
                  have HW : Hid (⟨L, x3, padS ((b.drop p4).take j)⟩ : Fr).wf := Lib.hid (pad_wf (by rw [List.length_take]; omega) (fun x hx => HB.out.y.y x (List.mem_of_mem_drop (List.mem_of_mem_take hx))))
                  by_cases hjl : j < m
                  · have g1 : decide ((j : Int) < (m : Int)) = true := decide_eq_true (by exact_mod_cast hjl)
                    have hs := HJ.out.2
                    rw [show m - j = (m - j - 1) + 1 by omega, slotsS] at hs
                    by_cases c8 : q = b.length
                    · have g2 : ((q : Int) == (b.length : Int)) = true := by rw [beq_iff_eq]; omega
                      have HV1 := Lib.hid (show oneS b (gB b 3) r.at_ r.last = .inl ((q : Int), 2) by
                        rw [if_pos c8] at hs
                        have hv := HV.out
                        rw [hs] at hv
                        rw [← HLL.out]
                        exact HR.out.trans hv)
                      clear c8 hs St
                      go_wp2_with (first | ((with_reducible refine gate_dst (N := 112) rfl ?_); refine wpList_load_any rfl 44 (.tmp 5) rfl ⟨w.heap.size + 1, 0, none⟩ rfl (enC en0) _ (HSt.out.rng 1 (by simp)) Try.underlying44 rfl (by rw [enC_len fr0_wf]; kernel_rfl) ?_) | ((with_reducible refine gate_store (t := 44) (p := 2) rfl ?_); refine wpList_store_blk rfl (.tmp 2) (.tmp 112) rfl HSt.out 0 (by simp) fr0_wf en0 fr0_wf rfl rfl ?_; intro W9 hW9))
                      refine bodyPost_ret (ret_cell3 rfl _ hW9 0 (by simp) fr0_wf rfl) rfl ?_
                      exact et_inl HV1.out rfl hW9.below
                    · have g2 : ((q : Int) == (b.length : Int)) = false := by rw [beq_eq_false_iff_ne]; omega
                      rw [if_neg c8] at hs
                      have g3 : decide ((q : Int) < (b.length : Int)) = true := decide_eq_true (by omega)
                      obtain ⟨ad', ead, hx⟩ := (HB.out.y.next St.below).cell q (by omega)
                      obtain rfl : ad = ad' := by injection ead
                      have rq := gB_range b HB.out.y.y q
                      have hE := slot_put v false L x3 (b.drop p4) j (by omega) (by rw [List.length_drop]; have := HJ.out.1; omega)
                      rw [show gB (b.drop p4) j = gB b q by rw [HJ.out.1]; unfold gB; simp [List.getD_eq_getElem?_getD, List.getElem?_drop]] at hE
                      obtain ⟨xq, hxq⟩ : ∃ xq, xq = gB b q := ⟨_, rfl⟩
                      rw [← hxq] at hs hx rq hE
                      have HE := Lib.hid hE
                      have HKn := Lib.hid (fun W => known_c xq W)
                      obtain ⟨kb, hkb⟩ : ∃ kb, kb = knownB xq := ⟨_, rfl⟩
                      rw [← hkb] at hs HKn
                      have HS8 := Lib.hid hs
                      have hq1 : q + 1 ≤ b.length := by omega
                      clear hkb hxq c8 hs hE ead St
                      cases kb with
                      | false =>
                        have HV1 := Lib.hid (show oneS b (gB b 3) r.at_ r.last = .inl ((q : Int), 62) by
                          have hs := HS8.out
                          rw [if_neg (by decide)] at hs
                          have hv := HV.out
                          rw [hs] at hv
                          rw [← HLL.out]
                          exact HR.out.trans hv)
                        go_wp2_with (first | (go_at_call 45; refine (HKn.out _).mono ?_; rintro e w1 ⟨rfl, ⟨⟨n9, rfl⟩⟩⟩) | ((with_reducible refine gate_dst (N := 120) rfl ?_); refine wpList_load_any rfl 44 (.tmp 5) rfl ⟨w.heap.size + 1, 0, none⟩ rfl (enC en0) _ ((HSt.out.drewN _).rng 1 (by simp)) Try.underlying44 rfl (by rw [enC_len fr0_wf]; kernel_rfl) ?_) | ((with_reducible refine gate_store (t := 44) (p := 2) rfl ?_); refine wpList_store_blk rfl (.tmp 2) (.tmp 120) rfl (HSt.out.drewN _) 0 (by simp) fr0_wf en0 fr0_wf rfl rfl ?_; intro W9 hW9))
                        refine bodyPost_ret (ret_cell3 rfl _ hW9 0 (by simp) fr0_wf rfl) rfl ?_
                        exact et_inl HV1.out rfl hW9.below
                      | true =>
                        have hix := ixO (w.heap.size + 2) 4 j (by omega)
                        obtain ⟨k, rfl⟩ : ∃ k, gk = k + 1 := ⟨gk - 1, by omega⟩
                        go_wp2_with (first | (go_at_call 45; refine (HKn.out _).mono ?_; rintro e w1 ⟨rfl, ⟨⟨n9, rfl⟩⟩⟩) | ((with_reducible refine gate_store (t := 39) (p := 129) rfl ?_); refine wpList_store_put rfl 39 (.tmp 129) (.tmp 126) rfl (HSt.out.drewN _) 2 (by simp) HW.out (4 + j) (by omega) (.int .u8 xq) ⟨v, false, ⟨L, x3, padS ((b.drop p4).take (j + 1))⟩⟩ rfl rfl rfl (by kernel_rfl) rfl HE.out ?_; intro W6 hW6))
                        go_roundg k
                        case measure => omega
                        case rel => exact ⟨j + 1, q + 1, by simp, by simp, by omega, by omega, by omega, hW6, Lib.hid ⟨by have := HJ.out.1; omega, by
                          have hs := HS8.out
                          rw [if_pos trivial] at hs
                          rw [hs]
                          congr 1⟩⟩
                  · have g1 : decide ((j : Int) < (m : Int)) = false := decide_eq_false (by omega)
                    have HV1 := Lib.hid (show oneS b (gB b 3) r.at_ r.last = .inr (⟨v, false, ⟨L, x3, padS ((b.drop p4).take j)⟩⟩, q) by
                      have hjm' : j = m := by omega
                      have hs := HJ.out.2
                      rw [hjm', Nat.sub_self, slotsS] at hs
                      have hv := HV.out
                      rw [hs] at hv
                      rw [← HLL.out, HR.out, hv, hjm', HJ.out.1, hjm'])
                    clear St
                    go_wp2_with (first | ((with_reducible refine gate_dst (N := 133) rfl ?_); refine wpList_load_any rfl 44 (.tmp 8) rfl ⟨w.heap.size + 2, 0, none⟩ rfl (enC ⟨v, false, ⟨L, x3, padS ((b.drop p4).take j)⟩⟩) _ (HSt.out.rng 2 (by simp)) Try.underlying44 rfl (by rw [enC_len HW.out]; kernel_rfl) ?_) | ((with_reducible refine gate_store (t := 44) (p := 2) rfl ?_); refine wpList_store_blk rfl (.tmp 2) (.tmp 133) rfl HSt.out 0 (by simp) fr0_wf ⟨v, false, ⟨L, x3, padS ((b.drop p4).take j)⟩⟩ HW.out rfl rfl ?_; intro W9 hW9))
                    refine bodyPost_ret (ret_cell3 rfl _ hW9 0 (by simp) HW.out rfl) rfl ?_
                    exact et_inr HV1.out rfl hW9.below
end Go.Proofs.Ytfbdnfokoakfaaa.Ct
