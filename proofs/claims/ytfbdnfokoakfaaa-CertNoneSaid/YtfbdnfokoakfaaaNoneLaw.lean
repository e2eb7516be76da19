/- provisolaw06.CertNone: its walk. -/
import Derived.Test.YtfbdnfokoakfaaaSmallR
namespace Go.Proofs.Ytfbdnfokoakfaaa.Ct
open Go.RowKit Go.Proofs.YtfbdnfokoakfaaaW.PrintWords Go.Proofs.YtfbdnfokoakfaaaW.PrintLast Go.Proofs.YtfbdnfokoakfaaaW.PrintMore
set_option linter.unusedVariables false
set_option linter.unusedSimpArgs false

theorem byR_block {W : World} {g : Nat} {t : TypeId} (b : List Int) (h : W.heap[g]? = some (.cells (nums .u8 b).toArray t (0, 0))) (hy : ∀ x, x ∈ b → 0 ≤ x ∧ x ≤ 255) (hl : b.length ≤ 140737488351232) : ByR W (some ⟨g, 0, none⟩) b.length b := by
  refine ⟨⟨rfl, by omega, fun _ => ⟨_, rfl, fun j p hj => ?_⟩⟩, Nat.le_refl _, hy, hl⟩
  refine ⟨[.int .u8 p], rfl, rfl, fun i u hu => ?_⟩
  match i, hu with
  | 0, hu =>
    cases hu
    have h1 := blk_cell h j
    have h2 : (nums .u8 b).toArray[j]? = some (.int .u8 p) := by simp [nums, hj]
    have e : (⟨g, 0, none⟩ : Addr).add (j * (Kd.int .u8).sz + 0) = ⟨g, j, none⟩ := by
      rw [Addr.add_mid]
      show (⟨g, 0 + (j * 1 + 0), none⟩ : Addr) = _
      simp
    rw [e, h1]
    exact h2
  | i + 1, hu => cases hu
/-- A reader that no call made. -/
def NoR (g : Nat) (W : World) (v : Value) : Prop := W.heap[g]? = some (.cells zrC 37 (0, 0)) ∧ (v = .pointer none ∨ v = .pointer (some ⟨g, 0, none⟩))
theorem next_no {g : Nat} {W : World} {v : Value} (h : NoR g W v) : Calls Try.prog 20 #[v] W fun e w' => e = .returned (.tuple #[.agg (enC en0).toArray, .bool false, .int .i64 8]) ∧ Below W.heap.size W w' := by
  obtain ⟨h0, rfl | rfl⟩ := h
  · exact next_nil W
  · exact next_zero g W h0
theorem locals_no {g : Nat} {W : World} {v : Value} (h : NoR g W v) : Calls Try.prog 21 #[v] W fun e w' => e = .returned (.int .i64 0) ∧ Below W.heap.size W w' := by
  obtain ⟨h0, rfl | rfl⟩ := h
  · exact locals_nil W
  · exact locals_zero g W h0
theorem count_no {g : Nat} {W : World} {v : Value} (h : NoR g W v) : Calls Try.prog 22 #[v] W fun e w' => e = .returned (.int .i64 0) ∧ Below W.heap.size W w' := by
  obtain ⟨h0, rfl | rfl⟩ := h
  · exact count_nil W
  · exact count_zero g W h0
theorem at_no {g : Nat} {W : World} {v : Value} (h : NoR g W v) : Calls Try.prog 23 #[v] W fun e w' => e = .returned (.int .i64 0) ∧ Below W.heap.size W w' := by
  obtain ⟨h0, rfl | rfl⟩ := h
  · exact at_nil W
  · exact at_zero g W h0
theorem NoR.next {g : Nat} {W W1 : World} {v : Value} (h : NoR g W v) (hb : Below W.heap.size W W1) : NoR g W1 v := ⟨blk_below h.1 hb, h.2⟩
theorem below_only {B k : Nat} {w W W1 : World} (h : Below B w W) (ho : Only k W W1) (hk : B ≤ k) : Below B w W1 :=
  ⟨ho.os.trans h.os, ho.tape.trans h.tape, ho.output.trans h.output, by rw [ho.size]; exact h.size, fun i hi => (ho.block i (by omega)).trans (h.block i hi)⟩
structure NoSt (w W : World) : Prop where
  z : W.heap[w.heap.size]? = some (.cells zrC 37 (0, 0))
  r : W.heap[w.heap.size + 1]? = some (.cells #[.pointer none, .pointer (some ⟨w.heap.size, 0, none⟩)] 35 (0, 0))
  below : Below w.heap.size w W
theorem NoSt.next {w W W1 : World} (h : NoSt w W) (hb : Below W.heap.size W W1) : NoSt w W1 := ⟨blk_below h.z hb, blk_below h.r hb, below_then h.below h.below.size hb⟩
theorem NoSt.only {w W W1 : World} {k : Nat} (h : NoSt w W) (ho : Only k W W1) (hk : w.heap.size + 1 < k) : NoSt w W1 := ⟨(ho.block _ (by omega)).trans h.z, (ho.block _ (by omega)).trans h.r, below_only h.below ho (by omega)⟩
def hd6 : List Int := [112, 118, 1, 3, 0, 0]

set_option maxHeartbeats 2000000 in
set_option maxRecDepth 100000 in
theorem none_law (v : Value) (w : World) : Calls Try.prog 5 #[v] w fun e w' => e = .returned (.bool true) ∧ Below w.heap.size w w' := by
  go_enter Try.func5, Try.ntmps5
  go_wp2
  go_loopg [15] 3 (fun k v15 W => ∃ i : Nat, v15 = .int .i64 (i : Int) ∧ i + k = 3 ∧ i ≤ 2 ∧ NoSt w W)
  case atStart =>
    have h1 := blk_new w (.cells zrC 37)
    refine ⟨0, rfl, by omega, by omega, blk_alloc h1 _, ?_, below_alloc (below_alloc (Below.refl _ _) _) _⟩
    have h2 := blk_new (w.alloc (.cells zrC 37)) (.cells #[.pointer none, .pointer (some ⟨w.heap.size, 0, none⟩)] 35)
    rw [World.size_alloc] at h2
    exact h2
  case round =>
    obtain ⟨i, rfl, hi, hil, St⟩ := hrel
    by_cases hlt : i < 2
    · have e1 : decide ((i : Int) < 2) = true := decide_eq_true (by omega)
      obtain ⟨p, hp, hkp⟩ : ∃ p, NoR w.heap.size wr p ∧ wr.cell? ⟨w.heap.size + 1, i, none⟩ = some p := by
        obtain rfl | rfl : i = 0 ∨ i = 1 := by omega
        · exact ⟨_, ⟨St.z, .inl rfl⟩, blk_cell St.r 0⟩
        · exact ⟨_, ⟨St.z, .inr rfl⟩, blk_cell St.r 1⟩
      have HP := Lib.hid hp
      have HSt := Lib.hid St
      have HNx := Lib.hid (next_no hp)
      clear hp St
      obtain ⟨k, rfl⟩ : ∃ k, gk = k + 1 := ⟨gk - 1, by omega⟩
      go_upto_region 7 with (first | (go_at_call 20; refine HNx.out.mono ?_; rintro e w5 ⟨rfl, hb5⟩) | ((with_reducible refine gate_dst (N := 7) rfl ?_); refine wpList_alloc_box rfl rfl ?_; intro W6 hW6 hbe6 hs6) | ((with_reducible refine gate_store (t := 44) (p := 7) rfl ?_); refine wpList_store_box rfl (.tmp 7) (.tmp 22) rfl w5.heap.size hW6 fr0_wf en0 fr0_wf rfl rfl ?_; intro W7 hW7 ho7))
      have hs5 := hb5.size
      have hz1 : w.heap.size + 1 < wr.heap.size := blk_lt HSt.out.r
      have St7 : NoSt w W7 := ((HSt.out.next hb5).next hbe6).only ho7 (by omega)
      have HP7 : Hid (NoR w.heap.size W7 p) := Lib.hid ⟨St7.z, HP.out.2⟩
      have HS7 := Lib.hid St7
      have HL := Lib.hid (locals_no HP7.out)
      have HC := Lib.hid (fun W (hb : Below W7.heap.size W7 W) => count_no (HP7.out.next hb))
      have HA := Lib.hid (fun W (hb : Below W7.heap.size W7 W) => at_no (HP7.out.next hb))
      have HB7 := Lib.hid hW7
      clear hb5 hs5 hW6 hbe6 hs6 ho7 hW7 St7 hz1 hkp
      go_wp2_with (first | ((with_reducible refine gate_dst (N := 25) rfl ?_); refine wpList_load_any rfl 44 (.tmp 7) rfl ⟨w5.heap.size, 0, none⟩ rfl (enC en0) _ (rng_of (range_blk HB7.out)) Try.underlying44 rfl (by rw [enC_len fr0_wf]; kernel_rfl) ?_) | ((with_reducible refine gate_dst (N := 27) rfl ?_); refine Kd.event_run rfl (run_neq44 (f := en0) (g := en0) rfl rfl rfl fr0_wf fr0_wf _) ?_; rw [show eqE en0 en0 = true by kernel_rfl]) | (go_at_call 21; refine HL.out.mono ?_; rintro e w8 ⟨rfl, hb8⟩) | (go_at_call 22; refine (HC.out _ hb8).mono ?_; rintro e w9 ⟨rfl, hb9⟩) | (go_at_call 23; refine (HA.out _ (hb8.trans (hb9.mono hb8.size))).mono ?_; rintro e wa ⟨rfl, hba⟩))
      go_roundg k
      case measure => omega
      case rel => exact ⟨i + 1, by simp, by omega, by omega, ((HS7.out.next hb8).next hb9).next hba⟩
    · have e1 : decide ((i : Int) < 2) = false := decide_eq_false (by omega)
      have hY : ByR (wr.alloc (.cells (nums .u8 hd6).toArray 5)) (some ⟨wr.heap.size, 0, none⟩) 6 hd6 := byR_block hd6 (blk_new _ _) (by decide) (by decide)
      have HY := Lib.hid hY
      have HOp : Hid (Calls Try.prog 24 #[.slice (some ⟨wr.heap.size, 0, none⟩) 6 6] (wr.alloc (.cells (nums .u8 hd6).toArray 5)) (OpPost2 hd6 (some ⟨wr.heap.size, 0, none⟩) 6 (wr.alloc (.cells (nums .u8 hd6).toArray 5)))) := Lib.hid (openP_c (some ⟨wr.heap.size, 0, none⟩) 6 hd6 _ hY)
      have HE : Hid (∀ e w', OpPost2 hd6 (some ⟨wr.heap.size, 0, none⟩) 6 (wr.alloc (.cells (nums .u8 hd6).toArray 5)) e w' → ∃ g, e = .returned (.tuple #[.pointer (some ⟨g, 0, none⟩), .int .i64 0]) ∧ (wr.alloc (.cells (nums .u8 hd6).toArray 5)).heap.size ≤ g ∧
        w'.heap[g]? = some (.cells (rdC (some ⟨wr.heap.size, 0, none⟩) 6 hd6 0 ⟨6, -1, 0, 0, 0⟩) 37 (0, 0)) ∧ Below (wr.alloc (.cells (nums .u8 hd6).toArray 5)).heap.size (wr.alloc (.cells (nums .u8 hd6).toArray 5)) w') := Lib.hid (fun e w' he => by
          unfold OpPost2 at he
          rw [show headS hd6 = .inr (3, 0) by rfl] at he
          exact he)
      have HB := Lib.hid (below_alloc St.below (.cells (nums .u8 hd6).toArray 5))
      clear hY St
      go_upto_region 11 with (first | (go_at_call 24; refine HOp.out.mono ?_; intro e w5 he; obtain ⟨g, rfl, _, hg, hb5⟩ := HE.out e w5 he; clear he))
      have HR : Hid (RdB w5 g (some ⟨wr.heap.size, 0, none⟩) 6 hd6 0 ⟨6, -1, 0, 0, 0⟩) := Lib.hid ⟨hg, HY.out.next hb5, by decide, by decide, by decide⟩
      have HL := Lib.hid (locals_c g _ 6 hd6 0 _ w5 HR.out)
      have HB5 := Lib.hid (below_then HB.out HB.out.size hb5)
      clear hg hb5
      go_wp2_with (first | (go_at_call 21; refine HL.out.mono ?_; rintro e w8 ⟨rfl, hb8⟩; rw [show gB hd6 3 = 3 from rfl]))
      go_ret
      exact ⟨rfl, below_then HB5.out HB5.out.size hb8⟩
end Go.Proofs.Ytfbdnfokoakfaaa.Ct
