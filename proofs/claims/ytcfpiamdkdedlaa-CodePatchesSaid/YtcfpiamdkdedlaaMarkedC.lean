/- provisoplain.Shelf.marked: its walk, over two rows. -/
import Derived.Test.YtcfpiamdkdedlaaShelfP
namespace Go.Proofs.Ytcfpiamdkdedlaa.DecodeC
open Go.RowKit Go.Proofs.YtcfpiamdkdedlaaW.PrintWords Go.Proofs.YtcfpiamdkdedlaaW.PrintLast Go.Proofs.YtcfpiamdkdedlaaW.PrintMore Go.Proofs.Ytcfpiamdkdedlaa.PCodePatches Go.Proofs.Ytcfpiamdkdedlaa.CloneC
set_option linter.unusedVariables false
set_option linter.unusedSimpArgs false

def mkI (j : Nat) : Int := (j : Int) + 1
theorem mark_c (j : Nat) (hj : j < 2) (w : World) : Calls Try.prog 48 #[.int .i64 (j : Int)] w fun e w' => e = .returned (.int .i64 (mkI j)) ∧ Drawn0 w w' := by
  refine provisoplain_mark.calls (j : Int) _ w ?_
  unfold provisoplain_mark.f mkI
  have e : ((j : Nat) : Int).tmod 250 = (j : Int) := Int.tmod_eq_of_lt (by omega) (by omega)
  have e2 : wrap64 ((j : Int) + 1) = (j : Int) + 1 := by unfold wrap64; omega
  rw [e, e2]
theorem C_rep {W : World} {A : Option Addr} {n : Nat} {m : Int} (h : Kd.C (Kd.int .u8) W A n (List.replicate n m)) (k : Nat) (hk : k < n) : ∃ ad, A = some ad ∧ W.cell? (ad.add k) = some (.int .u8 m) := by
  obtain ⟨ad, cs, e, _, hK, hc⟩ := Kd.C_get h (0 : Int) (k : Int) (by omega) (by omega)
  simp only [Int.toNat_natCast] at hK hc
  have hK' : cs = [.int .u8 ((List.replicate n m).getD k 0)] := hK
  subst hK'
  have hc0 := hc 0 _ rfl
  have hs : k * (Kd.int .u8).sz + 0 = k := Nat.mul_one k
  rw [hs, List.getD_eq_getElem?_getD, List.getElem?_replicate, if_pos hk] at hc0
  exact ⟨ad, e, hc0⟩
structure MkSt (W : World) (gs gb gm cb cm : Nat) (Av Ag : Nat → Option Addr) (nv cv cg : Nat → Nat) : Prop where
  b0 : W.cell? ⟨gs, 0, none⟩ = some (.slice (some ⟨gb, 0, none⟩) 2 cb)
  b1 : W.cell? ⟨gs, 1, none⟩ = some (.slice none 0 0)
  vb : ∀ j, j < 2 → W.cell? ⟨gb, j, none⟩ = some (.slice (Av j) (nv j) (cv j))
  vm : ∀ j, j < 2 → W.cell? ⟨gm, j, none⟩ = some (.slice (Ag j) (nv j + 80) (cg j))
  rv : ∀ j, j < 2 → Kd.C (Kd.int .u8) W (Av j) (nv j) (List.replicate (nv j) (mkI j))
  rg : ∀ j, j < 2 → Kd.C (Kd.int .u8) W (Ag j) (nv j + 80) (List.replicate (nv j + 80) (mkI j))
theorem MkSt.drewN {W : World} {gs gb gm cb cm : Nat} {Av Ag : Nat → Option Addr} {nv cv cg : Nat → Nat} (h : MkSt W gs gb gm cb cm Av Ag nv cv cg) (n : Nat) : MkSt (W.drewN n) gs gb gm cb cm Av Ag nv cv cg :=
  ⟨h.b0, h.b1, h.vb, h.vm, fun j hj => Kd.C_below (h.rv j hj) (pw_below_drewN (Below.refl _ _) n), fun j hj => Kd.C_below (h.rg j hj) (pw_below_drewN (Below.refl _ _) n)⟩

set_option maxHeartbeats 8000000 in
set_option maxRecDepth 100000 in
theorem marked_c (gs gb gm cb cm : Nat) (Av Ag : Nat → Option Addr) (nv cv cg : Nat → Nat) (hn : ∀ j, nv j ≤ 4096) (w : World) (h : MkSt w gs gb gm cb cm Av Ag nv cv cg) :
    Calls Try.prog 49 #[.pointer (some ⟨gs, 0, none⟩), .slice (some ⟨gm, 0, none⟩) 2 cm, .slice none 0 0] w fun e w' => e = .returned (.bool true) ∧ Below w.heap.size w w' := by
  have St0 := Lib.hid h
  have HN := Lib.hid hn
  have b0 := h.b0
  clear h hn
  go_enter Try.func49, Try.ntmps49
  go_wp2
  clear b0
  go_loopg [24] 3 (fun k v24 W => ∃ i : Nat, v24 = .int .i64 (i : Int) ∧ i + k = 3 ∧ i ≤ 2 ∧ Hid (MkSt W gs gb gm cb cm Av Ag nv cv cg) ∧ Hid (Below w.heap.size w W))
  case atStart => exact ⟨0, rfl, by omega, by omega, St0, Lib.hid (Below.refl _ _)⟩
  case round =>
    obtain ⟨i, rfl, hi, hil, St, HBw⟩ := hrel
    by_cases hlt : i < 2
    · have d1 : decide ((i : Int) < 2) = true := decide_eq_true (by omega)
      have vb := St.out.vb i hlt
      obtain ⟨n, hnn⟩ : ∃ n, n = nv i := ⟨_, rfl⟩
      have hn4 : n ≤ 4096 := by rw [hnn]; exact HN.out i
      obtain ⟨m, hm⟩ : ∃ m, m = mkI i := ⟨_, rfl⟩
      have hm1 : 0 ≤ m ∧ m ≤ 255 := by rw [hm]; unfold mkI; omega
      have HM := Lib.hid (fun W => mark_c i hlt W)
      rw [← hm] at HM
      have vm := St.out.vm i hlt
      rw [← hnn] at vb vm
      obtain ⟨A0, hA0⟩ : ∃ A0, A0 = Av i := ⟨_, rfl⟩
      obtain ⟨c0, hc0⟩ : ∃ c0, c0 = cv i := ⟨_, rfl⟩
      obtain ⟨A1, hA1⟩ : ∃ A1, A1 = Ag i := ⟨_, rfl⟩
      obtain ⟨c1, hc1⟩ : ∃ c1, c1 = cg i := ⟨_, rfl⟩
      rw [← hA0, ← hc0] at vb
      rw [← hA1, ← hc1] at vm
      have HV : Hid (∀ W, MkSt W gs gb gm cb cm Av Ag nv cv cg → Kd.C (Kd.int .u8) W A0 n (List.replicate n m) ∧ Kd.C (Kd.int .u8) W A1 (n + 80) (List.replicate (n + 80) m) ∧ W.cell? ⟨gm, i, none⟩ = some (.slice A1 (n + 80) c1)) := Lib.hid (fun W hW => by
        have h1 := hW.rv i hlt
        have h2 := hW.rg i hlt
        have h3 := hW.vm i hlt
        rw [← hA0, ← hnn, ← hm] at h1
        rw [← hA1, ← hnn, ← hm] at h2
        rw [← hA1, ← hc1, ← hnn] at h3
        exact ⟨h1, h2, h3⟩)
      obtain ⟨K1, rfl⟩ : ∃ k, gk = k + 1 := ⟨gk - 1, by omega⟩
      obtain ⟨wo, hwo⟩ : ∃ wo : World, wo = wr := ⟨_, rfl⟩
      clear hnn hm St0 hA0 hc0 hA1 hc1 vm
      go_wp2
      subst hwo
      clear vb
      go_loopg [31] (n + 1) (fun k v31 W => ∃ q : Nat, v31 = .int .i64 (q : Int) ∧ q + k = n + 1 ∧ q ≤ n ∧ Hid (MkSt W gs gb gm cb cm Av Ag nv cv cg) ∧ Hid (Below w.heap.size w W))
      case atStart => exact ⟨0, rfl, by omega, by omega, St, HBw⟩
      case round =>
        obtain ⟨q, rfl, hq, hqn, St1, HB1⟩ := hrel
        by_cases hqlt : q < n
        · have d2 : decide ((q : Int) < (n : Int)) = true := decide_eq_true (by omega)
          obtain ⟨ad, rfl, hcell⟩ := C_rep (HV.out _ St1.out).1 q hqlt
          obtain ⟨K2, rfl⟩ : ∃ k, gk = k + 1 := ⟨gk - 1, by omega⟩
          go_wp2_with (go_at_call 48; refine (HM.out _).mono ?_; rintro e w2 ⟨rfl, ⟨⟨n2, rfl⟩⟩⟩)
          go_roundg K2
          case measure => omega
          case rel => exact ⟨q + 1, by simp, by omega, by omega, Lib.hid (St1.out.drewN n2), Lib.hid (pw_below_drewN HB1.out n2)⟩
        · have d2 : decide ((q : Int) < (n : Int)) = false := decide_eq_false (by omega)
          have vm := (HV.out _ St1.out).2.2
          obtain ⟨w3, hw3⟩ : ∃ w3 : World, w3 = wr := ⟨_, rfl⟩
          go_wp2
          subst hw3
          clear vm
          go_loopg [46] (n + 81) (fun k v46 W => ∃ q : Nat, v46 = .int .i64 (q : Int) ∧ q + k = n + 81 ∧ q ≤ n + 80 ∧ Hid (MkSt W gs gb gm cb cm Av Ag nv cv cg) ∧ Hid (Below w.heap.size w W))
          case atStart => exact ⟨0, rfl, by omega, by omega, St1, HB1⟩
          case round =>
            obtain ⟨q2, rfl, hq2, hqn2, St2, HB2⟩ := hrel
            by_cases hqlt2 : q2 < n + 80
            · have d3 : decide ((q2 : Int) < ((n : Int) + 80)) = true := decide_eq_true (by omega)
              obtain ⟨ad, rfl, hcell⟩ := C_rep (HV.out _ St2.out).2.1 q2 hqlt2
              obtain ⟨K3, rfl⟩ : ∃ k, gk = k + 1 := ⟨gk - 1, by omega⟩
              go_wp2_with (go_at_call 48; refine (HM.out _).mono ?_; rintro e w2 ⟨rfl, ⟨⟨n2, rfl⟩⟩⟩)
              go_roundg K3
              case measure => omega
              case rel => exact ⟨q2 + 1, by simp, by omega, by omega, Lib.hid (St2.out.drewN n2), Lib.hid (pw_below_drewN HB2.out n2)⟩
            · have d3 : decide ((q2 : Int) < ((n : Int) + 80)) = false := decide_eq_false (by omega)
              go_wp2
              go_roundg K1
              case measure => omega
              case rel => exact ⟨i + 1, by simp, by omega, by omega, St2, HB2⟩
    · have d1 : decide ((i : Int) < 2) = false := decide_eq_false (by omega)
      have b1 := St.out.b1
      obtain ⟨wo, hwo⟩ : ∃ wo : World, wo = wr := ⟨_, rfl⟩
      go_wp2
      subst hwo
      clear b1
      go_loopg [62] 1 (fun k v62 W => v62 = .int .i64 0 ∧ k = 1 ∧ W = wo)
      case atStart => exact ⟨rfl, rfl, rfl⟩
      case round =>
        obtain ⟨rfl, _, rfl⟩ := hrel
        go_wp2
        go_ret
        exact ⟨rfl, HBw.out⟩
end Go.Proofs.Ytcfpiamdkdedlaa.DecodeC
