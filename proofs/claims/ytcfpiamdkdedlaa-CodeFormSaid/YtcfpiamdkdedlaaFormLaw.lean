/- The law CodeForm, walked. -/
import Derived.Test.YtcfpiamdkdedlaaSpecB
import Derived.Test.YtcfpiamdkdedlaaEncC
import Derived.Test.YtcfpiamdkdedlaaCloneC
import Derived.Test.YtcfpiamdkdedlaaDecodeE
import Derived.Test.YtcfpiamdkdedlaaRefDec
namespace Go.Proofs.Ytcfpiamdkdedlaa.FormC
open Go.RowKit Go.Proofs.YtcfpiamdkdedlaaW.PrintWords Go.Proofs.YtcfpiamdkdedlaaW.PrintLast Go.Proofs.YtcfpiamdkdedlaaW.PrintMore Go.Proofs.Ytcfpiamdkdedlaa.Spec Go.Proofs.Ytcfpiamdkdedlaa.EncC Go.Proofs.Ytcfpiamdkdedlaa.DecodeC
set_option linter.unusedVariables false
attribute [local go_sem] drewN_set drewN_new

/-- A row of bytes, cut on both sides. -/
theorem cut_both (A : Option Addr) (c : Nat) (l : List Int) (k n : Nat) (hk : k + n ≤ l.length) (hc : l.length ≤ c) :
    ∃ A' : Option Addr, (∀ W : World, (Instr.slice 30 (.slice A l.length c) (some (.int .i64 (k : Int))) (some (.int .i64 ((k : Int) + (n : Int)))) none).run Try.prog W = .ok (.slice A' n (c - k)) W) ∧
      (∀ W : World, Kd.C (Kd.int .u8) W A l.length l → Kd.C (Kd.int .u8) W A' n ((l.drop k).take n)) := by
  obtain ⟨i0, hi, hz0, hz1, hz2⟩ := info_parts PCodePatches.info5
  refine ⟨if c = k then A else A.map (·.add (k * 1)), ?_, ?_⟩
  · have := cut_mid (P := Try.prog) 30 5 .i64 .i64 Try.underlying30 hi 1 hz1 A l.length c (k : Int) ((k : Int) + (n : Int)) (by omega) (by omega) (by omega) hc
    intro W
    rw [this W, Int.toNat_natCast, show ((k : Int) + (n : Int)).toNat - k = n by omega]
  · intro W h
    have h1 := Kd.C_mid (lo := k) (hi := k + n) h (by omega) hk hc
    have e : (l.take (k + n)).drop k = (l.drop k).take n := by rw [List.drop_take, Nat.add_sub_cancel_left]
    rw [e] at h1
    have e2 : ((l.drop k).take n).length = n := by rw [List.length_take, List.length_drop]; omega
    rw [e2] at h1
    exact h1

theorem equal_any (A : Option Addr) (c : Nat) (A' : Option Addr) (c' : Nat) (l : List Int) (w : World) (hl : l.length ≤ 140737488355328) (h1 : Kd.C (Kd.int .u8) w A l.length l) (hc : l.length ≤ c) (h2 : Kd.C (Kd.int .u8) w A' l.length l) (hc' : l.length ≤ c') :
    Calls Try.prog 23 #[.slice A l.length c, .slice A' l.length c'] w fun e w' => e = .returned (.bool true) ∧ Drawn0 w w' :=
  PCodePatches.slices_Equal_byte_byte.calls (l.length + 1) A c l A' c' l true w h1 hc h2 hc' (equal_same l hl)

theorem equal_n (A : Option Addr) (c : Nat) (A' : Option Addr) (c' : Nat) (l : List Int) (n : Nat) (e : l.length = n) (w : World) (hl : n ≤ 140737488355328) (h1 : Kd.C (Kd.int .u8) w A n l) (hc : n ≤ c) (h2 : Kd.C (Kd.int .u8) w A' n l) (hc' : n ≤ c') :
    Calls Try.prog 23 #[.slice A n c, .slice A' n c'] w fun e w' => e = .returned (.bool true) ∧ Drawn0 w w' := by
  subst e; exact equal_any A c A' c' l w hl h1 hc h2 hc'

set_option maxHeartbeats 2000000 in
set_option maxRecDepth 100000 in
theorem law_any (A : Option Addr) (c : Nat) (l : List Int) (a : Int) (w : World) (hl : l.length ≤ 140737488351232) (hc : l.length ≤ c) (hr : Kd.C (Kd.int .u8) w A l.length l) (hb : ∀ x ∈ l, 0 ≤ x ∧ x ≤ 255) (ha0 : 0 ≤ a) (ha1 : a ≤ 18446744073709551615) :
    Calls Try.prog 9 #[.slice A l.length c, .int .u64 a] w fun e w' => e = .returned (.bool true) ∧ Below w.heap.size w w' := by
  have HR := Lib.hid hr
  have HB := Lib.hid hb
  have hl5 : l.length ≤ 140737488355328 := by omega
  clear hr hb
  go_enter Try.func9, Try.ntmps9
  go_wp2_with fail
  obtain ⟨k, hk, hkl⟩ : ∃ k : Nat, wrap64 (a % ((l.length : Int) + 1)) = (k : Int) ∧ k ≤ l.length := by
    have h1 := Int.emod_nonneg a (show (l.length : Int) + 1 ≠ 0 by omega)
    have h2 := Int.emod_lt_of_pos a (show (0 : Int) < (l.length : Int) + 1 by omega)
    exact ⟨(a % ((l.length : Int) + 1)).toNat, by unfold wrap64; omega, by omega⟩
  rw [hk]
  clear hk ha0 ha1
  refine (decode_any A c l (k : Int) _ hl5 hc HR.out HB.out).mono ?_
  rintro e w1 ⟨rfl, hb1⟩
  have B1 := Lib.hid hb1
  clear hb1
  go_wp2_with fail
  refine (encode_any 0 33 0 0 (by omega) (by omega) _).mono ?_
  rintro e w2 ⟨v0, rfl, ho, hb2⟩
  have e33 : encodeS 33 0 0 = ([33], 0) := by decide
  rw [e33] at ho ⊢
  clear e33
  obtain ⟨A2, c2, rfl, hc2, hC2⟩ := Kd.R_reads ho
  go_wp2_with fail
  refine (equal_any A2 c2 (some ⟨w2.heap.size, 0, none⟩) 1 [33] _ (by decide) (Kd.C_alloc hC2 _) hc2 (Kd.R_reads' (CloneC.lit_R w2 [33] (by decide))).2.2 (by decide)).mono ?_
  rintro e w3 ⟨rfl, ⟨⟨n3, rfl⟩⟩⟩
  have hq0 : w2.cell? ⟨w1.heap.size, 0, none⟩ = some (.int .i64 (decodeS l (k : Int)).1.1) := by
    rw [hb2.cell (p := ⟨w1.heap.size, 0, none⟩) (by simp)]; simp
  have hq1 : w2.cell? ⟨w1.heap.size, 1, none⟩ = some (.int .u8 (decodeS l (k : Int)).1.2.1) := by
    rw [hb2.cell (p := ⟨w1.heap.size, 1, none⟩) (by simp)]; simp
  have hq2 : w2.cell? ⟨w1.heap.size, 2, none⟩ = some (.int .i64 (decodeS l (k : Int)).1.2.2.1) := by
    rw [hb2.cell (p := ⟨w1.heap.size, 2, none⟩) (by simp)]; simp
  have hq3 : w2.cell? ⟨w1.heap.size, 3, none⟩ = some (.int .i64 (decodeS l (k : Int)).1.2.2.2) := by
    rw [hb2.cell (p := ⟨w1.heap.size, 3, none⟩) (by simp)]; simp
  have hz : w1.heap.size < w2.heap.size := by have := hb2.size; simp at this; omega
  have B1a := below_alloc B1.out (.cells #[Value.int IntKind.i64 (decodeS l (k : Int)).1.1, Value.int IntKind.u8 (decodeS l (k : Int)).1.2.1, Value.int IntKind.i64 (decodeS l (k : Int)).1.2.2.1, Value.int IntKind.i64 (decodeS l (k : Int)).1.2.2.2] 29)
  have B2 := Lib.hid (B1a.trans (hb2.mono B1a.size))
  clear B1a hb2 ho hC2
  by_cases h : (decodeS l (k : Int)).2 = 0
  · obtain ⟨op, oA, oB, hf1, hop0, hop1, hsz, hkl2, henc, hlen⟩ := form l HB.out k h
    rw [hf1] at hq0 hq1 hq2 hq3
    simp only [] at hq0 hq1 hq2 hq3
    have hnb : (((decodeS l (k : Int)).2) != 0) = false := by rw [h]; rfl
    obtain ⟨n, hn⟩ : ∃ n, n = 1 + wA op + wB op := ⟨_, rfl⟩
    rw [← hn] at henc hlen hkl2
    obtain ⟨A4, hcut, hrow⟩ := cut_both A c l k n hkl2 hc
    have hszn : (sizeS op == (n : Int)) = true := by rw [hsz, hn]; simp
    have hle : (k : Int) + (n : Int) ≤ (l.length : Int) := by omega
    have hnc : n ≤ c - k := by omega
    have hn5 : n ≤ 140737488355328 := by omega
    obtain ⟨bs, hbs⟩ : ∃ bs, bs = (l.drop k).take n := ⟨_, rfl⟩
    rw [← hbs] at henc hlen hrow
    have HE := Lib.hid henc
    have HL := Lib.hid hlen
    have HW := Lib.hid hrow
    clear henc hlen hsz hf1 h hkl2 hn hbs hrow
    go_wp2_with fail
    refine (encode_any (k : Int) op oA oB hop0 (by omega) _).mono ?_
    rintro e w4 ⟨v4, rfl, ho4, hb4⟩
    rw [HE.out] at ho4 ⊢
    obtain ⟨A3, c3, rfl, hc3, hC3⟩ := Kd.R_reads ho4
    rw [HL.out] at hC3 hc3 ⊢
    have hp0 : w4.cell? ⟨w1.heap.size, 0, none⟩ = some (.int .i64 (k : Int)) := by
      rw [hb4.cell (p := ⟨w1.heap.size, 0, none⟩) (by simp; omega)]; exact (World.cell?_alloc_lt w2 _ _ hz).trans hq0
    have hp1 : w4.cell? ⟨w1.heap.size, 1, none⟩ = some (.int .u8 op) := by
      rw [hb4.cell (p := ⟨w1.heap.size, 1, none⟩) (by simp; omega)]; exact (World.cell?_alloc_lt w2 _ _ hz).trans hq1
    have B3a := pw_below_drewN (below_alloc B2.out (.cells (nums IntKind.u8 [33]).toArray 5)) n3
    have B4 := Lib.hid (B3a.trans (hb4.mono B3a.size))
    clear B3a hb4 ho4 hq0 hq1 hq2 hq3
    have HC3 := Lib.hid hC3
    clear hC3
    go_wp2_with fail
    refine (equal_n A3 c3 A4 (c - k) bs n HL.out _ hn5 HC3.out hc3 (HW.out _ (Kd.C_below HR.out B4.out)) hnc).mono ?_
    rintro e w5 ⟨rfl, ⟨⟨n5, rfl⟩⟩⟩
    go_wp2_with fail
    refine (size_any op hop0 (by omega) _).mono ?_
    rintro e w6 ⟨rfl, ⟨⟨n6, rfl⟩⟩⟩
    go_wp2_with fail
    go_ret
    exact ⟨rfl, pw_below_drewN B4.out _⟩
  · have hz1 := decode_zero h
    rw [hz1] at hq0 hq1 hq2 hq3
    simp only [] at hq0 hq1 hq2 hq3
    have hnb : (((decodeS l (k : Int)).2) != 0) = true := by simpa using h
    clear hz1
    go_wp2_with fail
    go_ret
    exact ⟨rfl, pw_below_drewN (below_alloc B2.out _) _⟩

theorem CodeForm (A : Option Addr) (c : Nat) (l : List Int) (a : Int) (w : World) (hl : l.length * 1 ≤ 140737488351232) (hc : l.length ≤ c) (hr : Kd.C (Kd.int .u8) w A l.length l) (hb : ∀ x ∈ l, (Lit.int .u8 x).wf = true) (wa : (Lit.int .u64 a).wf = true) :
    Calls Try.prog 9 #[.slice A l.length c, .int .u64 a] w fun e w' => e = .returned (.bool true) ∧ Below w.heap.size w w' := by
  have ha : 0 ≤ a ∧ a ≤ 18446744073709551615 := by
    simp [Lit.wf, IntKind.min, IntKind.max, IntKind.signed, IntKind.bits] at wa
    omega
  refine law_any A c l a w (by omega) hc hr ?_ ha.1 ha.2
  intro x hx
  have := hb x hx
  simp [Lit.wf, IntKind.min, IntKind.max, IntKind.signed, IntKind.bits] at this
  omega
end Go.Proofs.Ytcfpiamdkdedlaa.FormC
