/- The law CodeDecodes, walked. -/
import Derived.Test.YtcfpiamdkdedlaaCloneC
import Derived.Test.YtcfpiamdkdedlaaDecodeE
import Derived.Test.YtcfpiamdkdedlaaRefDec
namespace Go.Proofs.Ytcfpiamdkdedlaa.DecodeC
open Go.RowKit Go.Proofs.YtcfpiamdkdedlaaW.PrintWords Go.Proofs.YtcfpiamdkdedlaaW.PrintLast Go.Proofs.YtcfpiamdkdedlaaW.PrintMore Go.Proofs.Ytcfpiamdkdedlaa.PCodePatches Go.Proofs.Ytcfpiamdkdedlaa.Spec Go.Proofs.Ytcfpiamdkdedlaa.CloneC
set_option linter.unusedVariables false
attribute [local go_sem] drewN_set drewN_new

/-- The first bytes of a row with marks behind. -/
theorem front {W : World} {base : Nat} {ok : Nat → Prop} {g : Addr} {cap n : Nat} {l m : List Int} (h : Kd.R (Kd.int .u8) 5 W base ok (.slice (some g) n cap) (l ++ m)) : Kd.C (Kd.int .u8) W (some g) l.length l := by
  have h1 := (Kd.R_reads' h).2.2
  have h2 := Kd.C_take (m := l.length) h1 (by simp)
  rwa [List.take_left] at h2

set_option maxHeartbeats 2000000 in
set_option maxRecDepth 100000 in
theorem law_any (A : Option Addr) (c : Nat) (l : List Int) (a : Int) (w : World) (hl : l.length ≤ 140737488351232) (hc : l.length ≤ c) (hr : Kd.C (Kd.int .u8) w A l.length l) (hb : ∀ x ∈ l, 0 ≤ x ∧ x ≤ 255) :
    Calls Try.prog 5 #[.slice A l.length c, .int .i64 a] w fun e w' => e = .returned (.bool true) ∧ Below w.heap.size w w' := by
  have HR := Lib.hid hr
  have HB := Lib.hid hb
  have hl5 : l.length ≤ 140737488355328 := by omega
  clear hr hb
  go_enter Try.func5, Try.ntmps5
  go_wp2_with fail
  refine (roomy_any A c l _ HR.out hc hl).mono ?_
  rintro e w1 ⟨g, cap, rfl, ho, hcap, hb1⟩
  have H1 := Lib.hid ho
  have B1 := Lib.hid hb1
  have hcap2 : l.length ≤ cap := by omega
  clear ho hb1 hcap
  go_wp2_with fail
  refine (decode_any (some g) cap l a _ hl5 hcap2 (front H1.out) HB.out).mono ?_
  rintro e w2 ⟨rfl, hb2⟩
  have H2 := Lib.hid (Kd.R_below H1.out hb2)
  have B2 := Lib.hid (B1.out.trans (hb2.mono B1.out.size))
  clear hb2
  go_wp2_with fail
  refine (provisoref04_Decode.calls 10 A c l a _ _ _ _ _ _ (Kd.C_alloc (Kd.C_below HR.out B2.out) _) hc (rdecode_is l a hl5 HB.out 10 (by omega))).mono ?_
  rintro e w3 ⟨rfl, hb3⟩
  have H3 := Lib.hid (Kd.R_below (Kd.R_alloc H2.out _) hb3)
  have B3a := Lib.hid (below_alloc B2.out (.cells #[Value.int IntKind.i64 (decodeS l a).1.1, Value.int IntKind.u8 (decodeS l a).1.2.1, Value.int IntKind.i64 (decodeS l a).1.2.2.1, Value.int IntKind.i64 (decodeS l a).1.2.2.2] 29))
  have B3 := Lib.hid (B3a.out.trans (hb3.mono B3a.out.size))
  have hq0 : w3.cell? ⟨w2.heap.size, 0, none⟩ = some (Value.int IntKind.i64 (decodeS l a).1.1) := by rw [hb3.cell (p := ⟨w2.heap.size, 0, none⟩) (by simp)]; simp
  have hq1 : w3.cell? ⟨w2.heap.size, 1, none⟩ = some (Value.int IntKind.u8 (decodeS l a).1.2.1) := by rw [hb3.cell (p := ⟨w2.heap.size, 1, none⟩) (by simp)]; simp
  have hq2 : w3.cell? ⟨w2.heap.size, 2, none⟩ = some (Value.int IntKind.i64 (decodeS l a).1.2.2.1) := by rw [hb3.cell (p := ⟨w2.heap.size, 2, none⟩) (by simp)]; simp
  have hq3 : w3.cell? ⟨w2.heap.size, 3, none⟩ = some (Value.int IntKind.i64 (decodeS l a).1.2.2.2) := by rw [hb3.cell (p := ⟨w2.heap.size, 3, none⟩) (by simp)]; simp
  have hz : w2.heap.size < w3.heap.size := by have := hb3.size; simp at this; omega
  clear hb3
  go_wp2_with fail
  have E4 : (l ++ ([165, 90, 195, 60] : List Int)).length = l.length + 4 := by simp
  refine calls_of_args (args' := #[.slice (some g) (l ++ ([165, 90, 195, 60] : List Int)).length cap, .slice A l.length c]) (by rw [E4]) ?_
  refine (provisoplain_Untouched.calls (l.length + 1) (some g) cap (l ++ [165, 90, 195, 60]) A c l true _ (Kd.C_alloc (Kd.R_reads' H3.out).2.2 _) (by rw [E4]; exact (Kd.R_reads' H3.out).2.1) (Kd.C_alloc (Kd.C_below HR.out B3.out) _) hc (untouched_is l hl)).mono ?_
  rintro e w4 ⟨rfl, ⟨⟨n4, rfl⟩⟩⟩
  clear E4
  go_wp2_with fail
  go_ret
  exact ⟨by simp, pw_below_drewN (below_alloc B3.out _) _⟩

theorem u8_rows {l : List Int} (h : ∀ x ∈ l, (Lit.int .u8 x).wf = true) : ∀ x ∈ l, 0 ≤ x ∧ x ≤ 255 := by
  intro x hx
  have := h x hx
  simp [Lit.wf, IntKind.min, IntKind.max, IntKind.signed, IntKind.bits] at this
  omega

theorem CodeDecodes (A : Option Addr) (c : Nat) (l : List Int) (a : Int) (w : World) (hl : l.length * 1 ≤ 140737488351232) (hc : l.length ≤ c) (hr : Kd.C (Kd.int .u8) w A l.length l) (hb : ∀ x ∈ l, (Lit.int .u8 x).wf = true) (wa : (Lit.int .i64 a).wf = true) :
    Calls Try.prog 5 #[.slice A l.length c, .int .i64 a] w fun e w' => e = .returned (.bool true) ∧ Below w.heap.size w w' :=
  law_any A c l a w (by omega) hc hr (u8_rows hb)
end Go.Proofs.Ytcfpiamdkdedlaa.DecodeC
