/- cert.open: its walk. -/
import Derived.Test.YtfbdnfokoakfaaaReadS
import Derived.Test.YtfbdnfokoakfaaaEncC
import Derived.Test.YtfbdnfokoakfaaaPCertReadsx2
import Derived.Laws.BitsLemmas
namespace Go.Proofs.Ytfbdnfokoakfaaa.Ct
open Go.RowKit Go.Proofs.YtfbdnfokoakfaaaW.PrintWords Go.Proofs.YtfbdnfokoakfaaaW.PrintLast Go.Proofs.YtfbdnfokoakfaaaW.PrintMore
set_option linter.unusedVariables false
set_option linter.unusedSimpArgs false

/-- Bytes that are read. -/
structure ByR (w : World) (A : Option Addr) (c : Nat) (b : List Int) : Prop where
  r : Kd.C (Kd.int .u8) w A b.length b
  c : b.length ≤ c
  y : ∀ x, x ∈ b → 0 ≤ x ∧ x ≤ 255
  l : b.length ≤ 140737488351232
theorem ByR.next {w w1 : World} {A : Option Addr} {c : Nat} {b : List Int} (h : ByR w A c b) (hb : Below w.heap.size w w1) : ByR w1 A c b := ⟨Kd.C_below h.r hb, h.c, h.y, h.l⟩
theorem ByR.cell {w : World} {A : Option Addr} {c : Nat} {b : List Int} (h : ByR w A c b) (i : Nat) (hi : i < b.length) : ∃ ad, A = some ad ∧ w.cell? (ad.add i) = some (.int .u8 (gB b i)) := by
  obtain ⟨ad, cs, e, _, hK, hc⟩ := Kd.C_get h.r (0 : Int) (i : Int) (by omega) (by omega)
  simp only [Int.toNat_natCast] at hK hc
  have hK' : cs = [.int .u8 (b.getD i 0)] := hK
  subst hK'
  have hc0 := hc 0 _ rfl
  have hs : i * (Kd.int .u8).sz + 0 = i := Nat.mul_one i
  rw [hs] at hc0
  exact ⟨ad, e, hc0⟩

theorem or8 (x y : Int) (h0 : 0 ≤ x) (h1 : x ≤ 255) (hy : 0 ≤ y) (hy1 : y ≤ 255) : bits .or .i64 (wrap64 (wrap64 x * 256)) (wrap64 y) = x * 256 + y := by
  have e1 : wrap64 x = x := by unfold wrap64; omega
  have e2 : wrap64 (x * 256) = x * 256 := by unfold wrap64; omega
  have e3 : wrap64 y = y := by unfold wrap64; omega
  rw [e1, e2, e3]
  exact bits_join .i64 40 (by decide) (fun n h0 h1 => by rw [IntKind.wrap_i64]; omega) 8 _ _ (by omega) (by omega) (by omega) hy (by omega) (by omega)
theorem word_c (A : Option Addr) (c : Nat) (b : List Int) (w : World) (h : ByR w A c b) (h2 : 2 ≤ b.length) : Calls Try.prog 47 #[.slice A b.length c] w fun e w' => e = .returned (.int .i64 (gB b 0 * 256 + gB b 1)) ∧ Drawn0 w w' := by
  refine PCertReads.cert_word.calls A c b _ w h.r h.c ?_
  have r0 := gB_range b h.y 0
  have r1 := gB_range b h.y 1
  unfold PCertReads.cert_word.f
  rw [if_pos (by omega), if_pos (by omega), ← or8 _ _ r0.1 r0.2 r1.1 r1.2]
  rfl

theorem ByR.tail {w : World} {A : Option Addr} {c : Nat} {b : List Int} (h : ByR w A c b) (k : Nat) (hk : k < b.length) :
    ∃ A' c', (∀ W, (Instr.slice 31 (.slice A b.length c) (some (.int .i64 (k : Int))) none none).run Try.prog W = .ok (.slice A' (b.drop k).length c') W) ∧ ∀ W, Below w.heap.size w W → ByR W A' c' (b.drop k) := by
  obtain ⟨ad, rfl, _⟩ := h.cell k hk
  have hl : (b.drop k).length = b.length - k := List.length_drop
  refine ⟨some (if c = k then ad else ad.add k), c - k, fun W => ?_, fun W hW => ?_⟩
  · have h1 := cut_from (P := Try.prog) 31 5 .i64 Try.underlying31 (i := (Try.prog.info? 5).get!) rfl 1 rfl (some ad) b.length c (k : Int) (by omega) (by omega) W
    rw [h1, hl]
    simp only [Int.toNat_natCast, Nat.mul_one]
    by_cases e : c = k
    · rw [if_pos e, if_pos e]
    · rw [if_neg e, if_neg e]; rfl
  · have hc := h.c
    rw [if_neg (by omega)]
    have h2 := h.next hW
    refine ⟨⟨rfl, by have := h2.l; omega, fun _ => ⟨_, rfl, fun j p hj => ?_⟩⟩, by omega, fun x hx => h2.y x (List.mem_of_mem_drop hx), by have := h2.l; omega⟩
    obtain ⟨_, _, h3⟩ := h2.r
    obtain ⟨ad', e', h4⟩ := h3 (by omega)
    cases e'
    rw [List.getElem?_drop] at hj
    obtain ⟨cs, h5, h6, h7⟩ := h4 (k + j) p hj
    refine ⟨cs, h5, h6, fun i u hu => ?_⟩
    rw [Deep.add_add]
    have := h7 i u hu
    rwa [show (k + j) * (Kd.int .u8).sz + i = k + (j * (Kd.int .u8).sz + i) by show (k + j) * 1 + i = k + (j * 1 + i); omega] at this

/-- What cert.open answers. -/
def OpPost (b : List Int) (A : Option Addr) (c : Nat) (w : World) (e : Ending) (w' : World) : Prop :=
  match headS b with
  | .inl x => e = .returned (.tuple #[.pointer none, .int .i64 x.1, .int .i64 (x.2 : Int)]) ∧ Below w.heap.size w w'
  | .inr x => ∃ g, e = .returned (.tuple #[.pointer (some ⟨g, 0, none⟩), .int .i64 0, .int .i64 0]) ∧ w.heap.size ≤ g ∧
      w'.heap[g]? = some (.cells #[.slice A b.length c, .int .i64 6, .int .i64 (-1), .int .i64 (x.2 : Int), .int .i64 (x.2 : Int), .int .i64 0, .int .i64 0, .bool true] 37 (0, 0)) ∧ Below w.heap.size w w'

def hdB (i : Nat) : Int := ([112, 118, 1] : List Int).getD i 0
structure OpSt (w W : World) : Prop where
  a : W.heap[w.heap.size]? = some (.cells #[.int .u8 112, .int .u8 118, .int .u8 1] 5 (0, 0))
  below : Below w.heap.size w W
theorem head_bad (b : List Int) (i : Nat) (hi : i < 3) (h : ∀ j, j < i → j < b.length ∧ gB b j = hdB j) : (i = b.length → headS b = .inl ((i : Int), 2)) ∧ (i < b.length → gB b i ≠ hdB i → headS b = .inl ((i : Int), 64)) := by
  have e0 : hdB 0 = 112 := rfl
  have e1 : hdB 1 = 118 := rfl
  have e2 : hdB 2 = 1 := rfl
  match i, hi with
  | 0, _ => exact ⟨fun h => by unfold headS; rw [if_pos h.symm]; rfl, fun h1 h2 => by unfold headS; rw [if_neg (by omega), if_pos (show gB b 0 ≠ 112 from h2)]; rfl⟩
  | 1, _ =>
    have h0 := h 0 (by omega)
    exact ⟨fun h => by unfold headS; rw [if_neg (by omega), if_neg (by rw [h0.2, e0]; simp), if_pos h.symm]; rfl, fun h1 h2 => by unfold headS; rw [if_neg (by omega), if_neg (by rw [h0.2, e0]; simp), if_neg (by omega), if_pos (show gB b 1 ≠ 118 from h2)]; rfl⟩
  | 2, _ =>
    have h0 := h 0 (by omega)
    have h1 := h 1 (by omega)
    exact ⟨fun h => by unfold headS; rw [if_neg (by omega), if_neg (by rw [h0.2, e0]; simp), if_neg (by omega), if_neg (by rw [h1.2, e1]; simp), if_pos h.symm]; rfl, fun h3 h2 => by unfold headS; rw [if_neg (by omega), if_neg (by rw [h0.2, e0]; simp), if_neg (by omega), if_neg (by rw [h1.2, e1]; simp), if_neg (by omega), if_pos (show gB b 2 ≠ 1 from h2)]; rfl⟩
theorem head_good (b : List Int) (h : ∀ j, j < 3 → j < b.length ∧ gB b j = hdB j) : headS b = if b.length < 6 then .inl ((b.length : Int), 2)
  else if 16 < gB b 3 then .inl (3, 5)
  else if 4096 < gB b 4 * 256 + gB b 5 then .inl (4, 4)
  else .inr (gB b 3, (gB b 4 * 256 + gB b 5).toNat) := by
  have h0 := h 0 (by omega)
  have h1 := h 1 (by omega)
  have h2 := h 2 (by omega)
  have e0 : hdB 0 = 112 := rfl
  have e1 : hdB 1 = 118 := rfl
  have e2 : hdB 2 = 1 := rfl
  unfold headS
  rw [if_neg (by omega), if_neg (by rw [h0.2, e0]; simp), if_neg (by omega), if_neg (by rw [h1.2, e1]; simp), if_neg (by omega), if_neg (by rw [h2.2, e2]; simp)]

set_option maxHeartbeats 4000000 in
set_option maxRecDepth 100000 in
theorem open_c (A : Option Addr) (c : Nat) (b : List Int) (w : World) (h : ByR w A c b) : Calls Try.prog 41 #[.slice A b.length c] w (OpPost b A c w) := by
  have HB := Lib.hid h
  have hlen := h.l
  have hcap := h.c
  clear h
  have HR := Lib.hid (show headS b = headS b from rfl)
  go_enter Try.func41, Try.ntmps41
  go_wp2
  go_loopg [10] 4 (fun k v10 W => ∃ i : Nat, v10 = .int .i64 (i : Int) ∧ i + k = 4 ∧ i ≤ 3 ∧ OpSt w W ∧ Hid (∀ j, j < i → j < b.length ∧ gB b j = hdB j))
  case atStart => exact ⟨0, rfl, by omega, by omega, ⟨blk_new w _, below_alloc (Below.refl _ _) _⟩, Lib.hid (fun j hj => absurd hj (Nat.not_lt_zero _))⟩
  case round =>
    obtain ⟨i, rfl, hi, hil, St, HP⟩ := hrel
    by_cases hlt : i < 3
    · have e1 : decide ((i : Int) < 3) = true := decide_eq_true (by omega)
      have kx : wr.cell? ⟨w.heap.size, i, none⟩ = some (.int .u8 (hdB i)) := by
        have := blk_cell St.a i
        rw [this]
        match i, hlt with
        | 0, _ => rfl
        | 1, _ => rfl
        | 2, _ => rfl
      have HSt := Lib.hid St
      by_cases c1 : i = b.length
      · have HV := Lib.hid (show headS b = .inl ((i : Int), 2) by exact (head_bad b i hlt HP.out).1 c1)
        have d1 : ((i : Int) == (b.length : Int)) = true := by rw [beq_iff_eq]; omega
        clear St c1
        go_wp2
        go_ret3
        unfold OpPost
        rw [HV.out]
        exact ⟨rfl, HSt.out.below⟩
      · have d1 : ((i : Int) == (b.length : Int)) = false := by rw [beq_eq_false_iff_ne]; omega
        by_cases c0 : b.length < i
        · exfalso
          match i, c0, c1 with
          | j + 1, c0, c1 => have := (HP.out j (by omega)).1; omega
        obtain ⟨ad, rfl, hx⟩ := (HB.out.next St.below).cell i (by omega)
        have hlt2 : i < b.length := by omega
        have d2 : decide ((i : Int) < (b.length : Int)) = true := decide_eq_true (by omega)
        obtain ⟨x, hxx⟩ : ∃ x, x = gB b i := ⟨_, rfl⟩
        obtain ⟨y, hyy⟩ : ∃ y, y = hdB i := ⟨_, rfl⟩
        rw [← hxx] at hx
        rw [← hyy] at kx
        have HXX := Lib.hid (And.intro hxx hyy)
        by_cases c2 : x = y
        · have d3 : (x != y) = false := by simp [c2]
          have HC := Lib.hid c2
          clear hxx hyy c2 St
          obtain ⟨k, rfl⟩ : ∃ k, gk = k + 1 := ⟨gk - 1, by omega⟩
          go_wp2
          go_roundg k
          case measure => omega
          case rel => exact ⟨i + 1, by simp, by omega, by omega, HSt.out, Lib.hid (fun j hj => by
            by_cases e : j = i
            · subst e; exact ⟨hlt2, by rw [← HXX.out.1, ← HXX.out.2]; exact HC.out⟩
            · exact HP.out j (by omega))⟩
        · have d3 : (x != y) = true := by simp [c2]
          have HV := Lib.hid (show headS b = .inl ((i : Int), 64) by exact (head_bad b i hlt HP.out).2 hlt2 (by rw [← hxx, ← hyy]; exact c2))
          clear hxx hyy c2 St
          go_wp2
          go_ret3
          unfold OpPost
          rw [HV.out]
          exact ⟨rfl, HSt.out.below⟩
    · have e1 : decide ((i : Int) < 3) = false := decide_eq_false (by omega)
      obtain rfl : i = 3 := by omega
      have hg := head_good b HP.out
      have h3 := (HP.out 2 (by omega)).1
      have HSt := Lib.hid St
      by_cases c1 : b.length < 6
      · have d1 : decide ((b.length : Int) < 6) = true := decide_eq_true (by omega)
        rw [if_pos c1] at hg
        have HV := Lib.hid hg
        clear hg St
        go_wp2
        go_ret3
        unfold OpPost
        rw [HV.out]
        exact ⟨rfl, HSt.out.below⟩
      · have d1 : decide ((b.length : Int) < 6) = false := decide_eq_false (by omega)
        rw [if_neg c1] at hg
        have HY := HB.out.next St.below
        obtain ⟨A', c', hcut, hY⟩ := HY.tail 4 (by omega)
        have hl4 : (b.drop 4).length = b.length - 4 := List.length_drop
        have hg4 : gB (b.drop 4) 0 = gB b 4 ∧ gB (b.drop 4) 1 = gB b 5 := by
          unfold gB
          simp [List.getD_eq_getElem?_getD, List.getElem?_drop]
        obtain ⟨t, ht⟩ : ∃ t, t = b.drop 4 := ⟨_, rfl⟩
        rw [← ht] at hcut hY hl4 hg4
        rw [show ((4 : Nat) : Int) = 4 from rfl] at hcut
        have HWd := Lib.hid (fun W hW => word_c A' c' t W (hY W hW) (by omega))
        rw [hg4.1, hg4.2] at HWd
        obtain ⟨ad, rfl, hx⟩ := HY.cell 3 (by omega)
        simp only [Addr.add, show ¬ (3 : Nat) = 0 by decide, if_false] at hx
        have d0 : decide ((3 : Int) < (b.length : Int)) = true := decide_eq_true (by omega)
        have r3 := gB_range b HB.out.y 3
        have r4 := gB_range b HB.out.y 4
        have r5 := gB_range b HB.out.y 5
        obtain ⟨x, hxx⟩ : ∃ x, x = gB b 3 := ⟨_, rfl⟩
        obtain ⟨n, hnn⟩ : ∃ n, n = gB b 4 * 256 + gB b 5 := ⟨_, rfl⟩
        rw [← hxx, ← hnn] at hg
        rw [← hxx] at hx r3
        rw [← hnn] at HWd
        have rn : 0 ≤ n ∧ n ≤ 65535 := by omega
        clear hl4 hg4 hY HY hxx hnn r4 r5 ht
        by_cases c2 : 16 < x
        · have d2 : decide (16 < x) = true := decide_eq_true c2
          rw [if_pos c2] at hg
          have HV := Lib.hid hg
          clear hg St
          go_wp2
          go_ret3
          unfold OpPost
          rw [HV.out]
          exact ⟨rfl, HSt.out.below⟩
        · have d2 : decide (16 < x) = false := decide_eq_false c2
          rw [if_neg c2] at hg
          by_cases c3 : 4096 < n
          · have d3 : decide (4096 < n) = true := decide_eq_true c3
            rw [if_pos c3] at hg
            have HV := Lib.hid hg
            clear hg St
            go_wp2_with fail
            refine (HWd.out _ (Below.refl _ _)).mono ?_
            rintro e w1 ⟨rfl, ⟨⟨n1, rfl⟩⟩⟩
            go_wp2
            go_ret3
            unfold OpPost
            rw [HV.out]
            exact ⟨rfl, pw_below_drewN HSt.out.below _⟩
          · have d3 : decide (4096 < n) = false := decide_eq_false c3
            rw [if_neg c3] at hg
            have HV := Lib.hid hg
            clear hg St
            go_wp2_with fail
            refine (HWd.out _ (Below.refl _ _)).mono ?_
            rintro e w1 ⟨rfl, ⟨⟨n1, rfl⟩⟩⟩
            go_wp2_with fail
            refine (HWd.out _ (pw_below_drewN (Below.refl _ _) _)).mono ?_
            rintro e w2 ⟨rfl, ⟨⟨n2, rfl⟩⟩⟩
            go_wp2
            have hn : ((n.toNat : Nat) : Int) = n := by omega
            have q1 := blk_new (wr.drewN (n1 + n2)) (.cells #[.slice (some ad) b.length c, .int .i64 6, .int .i64 (-1), .int .i64 n, .int .i64 n, .int .i64 0, .int .i64 0, .bool true] 37)
            have q2 := below_alloc (pw_below_drewN HSt.out.below (n1 + n2)) (.cells #[.slice (some ad) b.length c, .int .i64 6, .int .i64 (-1), .int .i64 n, .int .i64 n, .int .i64 0, .int .i64 0, .bool true] 37)
            have q3 : w.heap.size ≤ (wr.drewN (n1 + n2)).heap.size := HSt.out.below.size
            have q4 : (wr.drewN (n1 + n2)).heap.size = wr.heap.size := rfl
            rw [← q4]
            generalize (wr.drewN (n1 + n2)).alloc (.cells #[.slice (some ad) b.length c, .int .i64 6, .int .i64 (-1), .int .i64 n, .int .i64 n, .int .i64 0, .int .i64 0, .bool true] 37) = W3 at q1 q2 ⊢
            generalize (wr.drewN (n1 + n2)).heap.size = g at q1 q3 ⊢
            go_ret3
            unfold OpPost
            rw [HV.out]
            simp only [hn]
            exact ⟨g, rfl, q3, q1, q2⟩
end Go.Proofs.Ytfbdnfokoakfaaa.Ct
