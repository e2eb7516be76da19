/- code.Decode where an instruction stands; and at every place. -/
import Derived.Test.YtcfpiamdkdedlaaDecodeD
namespace Go.Proofs.Ytcfpiamdkdedlaa.DecodeC
open Go.RowKit Go.Proofs.YtcfpiamdkdedlaaW.PrintWords Go.Proofs.YtcfpiamdkdedlaaW.PrintLast Go.Proofs.YtcfpiamdkdedlaaW.PrintMore Go.Proofs.Ytcfpiamdkdedlaa.PCodePatches Go.Proofs.Ytcfpiamdkdedlaa.Spec
set_option linter.unusedVariables false
attribute [local go_sem] drewN_set drewN_new

set_option maxHeartbeats 2000000 in
set_option maxRecDepth 100000 in
theorem decode_full (A : Option Addr) (c : Nat) (l : List Int) (k : Nat) (w : World) (hl : l.length ≤ 140737488355328) (hc : l.length ≤ c) (hr : Kd.C (Kd.int .u8) w A l.length l) (hb : ∀ x ∈ l, 0 ≤ x ∧ x ≤ 255) (hk : k < l.length) (hs : sizeS (rd l k) ≠ 0)
    (ht : ¬ (l.length : Int) - k < sizeS (rd l k))
    (r : (Int × Int × Int × Int) × Int) (hres : Hid (r = (if rd l k = 2 ∧ takeV (l.drop (k + 1)) (wA (rd l k)) > 1 then ((0, 0, 0, 0), 5) else (((k : Int), rd l k, takeV (l.drop (k + 1)) (wA (rd l k)), takeV (l.drop (k + 1 + wA (rd l k))) (wB (rd l k))), 0)))) :
    Calls Try.prog 25 #[.slice A l.length c, .int .i64 (k : Int)] w (DecPost r w) := by
  obtain ⟨ad, e, hx⟩ := Kd.at_int hr (k : Int) (by omega) (by omega)
  rw [Int.toNat_natCast] at hx
  cases e
  have hb0 := block_lt_of_cell hx
  have hb1 : (ad.add k).block < w.heap.size + 1 := by omega
  have hb2 : (ad.add k).block < w.heap.size + 2 := by omega
  have hb3 : (ad.add k).block < w.heap.size + 3 := by omega
  have hxr := rd_range l hb k hk
  have hsb : (sizeS (rd l k) == 0) = false := by simpa using hs
  have hne : ((k : Int) == (l.length : Int)) = false := by simp; omega
  have hne2 : (k == l.length) = false := by simp; omega
  obtain ⟨A1, hcut, hrow⟩ := cut_row (some ad) c l (k + 1) (by omega) hc
  have hrow1 := hrow w hr
  obtain ⟨C1, hC1⟩ : ∃ C1, C1 = c - (k + 1) := ⟨_, rfl⟩
  obtain ⟨L1, hL1⟩ : ∃ L1, L1 = l.drop (k + 1) := ⟨_, rfl⟩
  have hlen1 : L1.length = l.length - (k + 1) := by rw [hL1]; simp
  have hb4 : ∀ x ∈ L1, 0 ≤ x ∧ x ≤ 255 := fun x hx => hb x (by rw [hL1] at hx; exact List.mem_of_mem_drop hx)
  have hcut1 : ∀ W : World, (Instr.slice 30 (.slice (some ad) l.length c) (some (.int .i64 ((k : Int) + 1))) none none).run Try.prog W = .ok (.slice A1 L1.length C1) W := by
    intro W
    have := hcut W
    rw [← hC1, ← hlen1] at this
    simpa using this
  have hlc : L1.length ≤ C1 := by omega
  rw [← hL1] at hrow1
  have hsz : wA (rd l k) + wB (rd l k) ≤ L1.length := by
    unfold sizeS at hs ht
    split at hs
    · exact absurd rfl hs
    · rename_i h; rw [if_neg h] at ht; omega
  have hl1 : L1.length ≤ 140737488355328 := by omega
  obtain ⟨L2, hL2⟩ : ∃ L2, L2 = L1.drop (wA (rd l k)) := ⟨_, rfl⟩
  obtain ⟨C2, hC2⟩ : ∃ C2, C2 = C1 - wA (rd l k) := ⟨_, rfl⟩
  have hlen2 : L2.length = L1.length - wA (rd l k) := by rw [hL2]; simp
  have hb5 : ∀ x ∈ L2, 0 ≤ x ∧ x ≤ 255 := fun x hx => hb4 x (by rw [hL2] at hx; exact List.mem_of_mem_drop hx)
  have hlc2 : L2.length ≤ C2 := by omega
  have hle2 : wB (rd l k) ≤ L2.length := by omega
  have hle1 : wA (rd l k) ≤ L1.length := by omega
  have hl2 : L2.length ≤ 140737488355328 := by omega
  have HW := Lib.hid hrow1
  have HB := Lib.hid hb
  have HB4 := Lib.hid hb4
  have HB5 := Lib.hid hb5
  have H1 := Lib.hid hL1
  have H2 := Lib.hid hL2
  have H3 := Lib.hid hlen2.symm
  have H4 := Lib.hid hC2.symm
  clear hr hb hs hrow hrow1 hcut hb4 hb5 hL1 hL2 hC1 hC2 hlen1 hlen2 hsz
  go_enter Try.func25, Try.ntmps25
  go_wp2_with (first
    | (go_at_call 13; refine (size_any _ (by omega) (by omega) _).mono ?_; rintro e w1 ⟨rfl, ⟨⟨n1, rfl⟩⟩⟩)
    | (go_at_call 40; refine (widths_any _ (by omega) (by omega) _).mono ?_; rintro e w1 ⟨rfl, ⟨⟨n3, rfl⟩⟩⟩))
  refine (take_any (w.heap.size + 1 + 1 + 1) A1 C1 L1 (wA (rd l k)) _ ?r1 hlc hl1 HB4.out (wA_le _) hle1 ?c1 ?f1).mono ?_
  case c1 => go_simp
  case f1 => go_simp
  case r1 => exact Kd.C_drewN (Kd.C_alloc (Kd.C_alloc (Kd.C_alloc (Kd.C_alloc HW.out _) _) _) _) _
  rintro e w2 ⟨A2, rfl, rfl, hrow2⟩
  rw [H3.out, H4.out]
  have HR2 := Lib.hid hrow2
  clear hrow2
  go_wp2_with fail
  refine (take_any (w.heap.size + 1 + 1 + 1) A2 C2 L2 (wB (rd l k)) _ ?r2 hlc2 hl2 HB5.out (by have := wB_le (rd l k); omega) hle2 ?c2 ?f2).mono ?_
  case c2 => go_simp
  case f2 => go_simp
  case r2 =>
    rw [H2.out]
    exact HR2.out _ (Kd.C_drewN (Kd.C_alloc (Kd.C_alloc (Kd.C_alloc (Kd.C_alloc HW.out _) _) _) _) _)
  rintro e w3 ⟨A3, rfl, rfl, hrow3⟩
  clear hrow3 HR2
  go_wp2_with fail
  · have t1 : rd l (k : Int) = 2 := by assumption
    have t2 : 1 < takeV L1 (wA 2) := by assumption
    have e1 : r = ((0, 0, 0, 0), 5) := by
      rw [hres.out, if_pos]
      rw [← H1.out, t1]
      exact ⟨rfl, t2⟩
    subst e1
    exact bodyPost_ret (v := .tuple #[.agg #[.int .i64 0, .int .u8 0, .int .i64 0, .int .i64 0], .int .i64 5]) (by simp [results, Try.results25, go_sem]) rfl ⟨rfl, (by repeat (first | exact Below.refl _ _ | apply below_alloc | apply pw_below_drewN | apply below_drew | refine below_set ?_ (by simp; omega)))⟩
  · have t1 : rd l (k : Int) = 2 := by assumption
    have t2 : takeV L1 (wA 2) ≤ 1 := by assumption
    have e1 : r = (((k : Int), 2, takeV L1 (wA 2), takeV L2 (wB 2)), 0) := by
      rw [hres.out, (show l.drop (k + 1 + wA (rd l k)) = L2 by rw [H2.out, H1.out, List.drop_drop]), ← H1.out, t1, if_neg]
      rintro ⟨_, h⟩
      omega
    subst e1
    exact bodyPost_ret (v := .tuple #[.agg #[.int .i64 (k : Int), .int .u8 2, .int .i64 (takeV L1 (wA 2)), .int .i64 (takeV L2 (wB 2))], .int .i64 0]) (by simp [results, Try.results25, go_sem]) rfl ⟨rfl, (by repeat (first | exact Below.refl _ _ | apply below_alloc | apply pw_below_drewN | apply below_drew | refine below_set ?_ (by simp; omega)))⟩
  · have t1 : ¬ rd l (k : Int) = 2 := by assumption
    have e1 : r = (((k : Int), rd l k, takeV L1 (wA (rd l k)), takeV L2 (wB (rd l k))), 0) := by
      rw [hres.out, (show l.drop (k + 1 + wA (rd l k)) = L2 by rw [H2.out, H1.out, List.drop_drop]), ← H1.out, if_neg]
      rintro ⟨h, _⟩
      exact t1 h
    subst e1
    exact bodyPost_ret (v := .tuple #[.agg #[.int .i64 (k : Int), .int .u8 (rd l k), .int .i64 (takeV L1 (wA (rd l k))), .int .i64 (takeV L2 (wB (rd l k)))], .int .i64 0]) (by simp [results, Try.results25, go_sem]) rfl ⟨rfl, (by repeat (first | exact Below.refl _ _ | apply below_alloc | apply pw_below_drewN | apply below_drew | refine below_set ?_ (by simp; omega)))⟩

/-- code.Decode, at every row of bytes and every place. -/
theorem decode_any (A : Option Addr) (c : Nat) (l : List Int) (a : Int) (w : World) (hl : l.length ≤ 140737488355328) (hc : l.length ≤ c) (hr : Kd.C (Kd.int .u8) w A l.length l) (hb : ∀ x ∈ l, 0 ≤ x ∧ x ≤ 255) :
    Calls Try.prog 25 #[.slice A l.length c, .int .i64 a] w (DecPost (decodeS l a) w) := by
  by_cases h : a < 0 ∨ a > l.length
  · have e : decodeS l a = ((0, 0, 0, 0), 1) := by unfold decodeS; rw [if_pos h]
    rw [e]
    exact decode_out A c l a w hl h
  · by_cases h2 : a = l.length
    · have e : decodeS l a = ((0, 0, 0, 0), 2) := by unfold decodeS; rw [if_neg h, if_pos h2]
      rw [e, h2]
      exact decode_end A c l w hl
    · obtain ⟨k, rfl⟩ : ∃ k : Nat, a = (k : Int) := ⟨a.toNat, by omega⟩
      have hk : k < l.length := by omega
      have hrd : l.getD k 0 = rd l (k : Int) := by simp [rd]
      have e : decodeS l (k : Int) = if sizeS (rd l k) = 0 then ((0, 0, 0, 0), 40) else if (l.length : Int) - k < sizeS (rd l k) then ((0, 0, 0, 0), 2)
          else if rd l k = 2 ∧ takeV (l.drop (k + 1)) (wA (rd l k)) > 1 then ((0, 0, 0, 0), 5) else (((k : Int), rd l k, takeV (l.drop (k + 1)) (wA (rd l k)), takeV (l.drop (k + 1 + wA (rd l k))) (wB (rd l k))), 0) := by
        unfold decodeS
        rw [if_neg h, if_neg h2, Int.toNat_natCast, hrd]
      rw [e]
      by_cases h3 : sizeS (rd l k) = 0
      · rw [if_pos h3]; exact decode_none A c l k w hl hr hb hk h3
      · rw [if_neg h3]
        by_cases h4 : (l.length : Int) - k < sizeS (rd l k)
        · rw [if_pos h4]; exact decode_short A c l k w hl hr hb hk h3 h4
        · rw [if_neg h4]
          exact decode_full A c l k w hl hc hr hb hk h3 h4 _ (Lib.hid rfl)
end Go.Proofs.Ytcfpiamdkdedlaa.DecodeC
