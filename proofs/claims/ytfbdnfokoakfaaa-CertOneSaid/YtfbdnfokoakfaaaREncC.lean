/- cert.Encode. The reference's Check. The reference's Encode. -/
import Derived.Test.YtfbdnfokoakfaaaCheckC
namespace Go.Proofs.Ytfbdnfokoakfaaa.Ct
open Go.RowKit Go.Proofs.YtfbdnfokoakfaaaW.PrintWords Go.Proofs.YtfbdnfokoakfaaaW.PrintLast Go.Proofs.YtfbdnfokoakfaaaW.PrintMore
set_option linter.unusedVariables false
set_option linter.unusedSimpArgs false

theorem info5 : (Try.prog.info? 5).map (fun i => (i.zero, i.size, i.bytes)) = some (some (.int .u8 0), 1, 1) := by kernel_rfl

/-- Bytes under way: the blocks B stay, v is a row of the call's own that holds out. -/
structure EncSt (w W : World) (B : List (Nat × Array Value × TypeId)) (v : Value) (out : List Int) : Prop where
  bl : ∀ b, b ∈ B → W.heap[b.1]? = some (.cells b.2.1 b.2.2 (0, 0)) ∧ b.2.2 ≠ 5
  r : Kd.R (Kd.int .u8) 5 W w.heap.size (fun _ => True) v out
  below : Below w.heap.size w W
theorem EncSt.drewN {w W : World} {B : List (Nat × Array Value × TypeId)} {v : Value} {out : List Int} (h : EncSt w W B v out) (n : Nat) : EncSt w (W.drewN n) B v out := ⟨h.bl, Kd.R_below h.r (pw_below_drewN (Below.refl _ _) n), pw_below_drewN h.below n⟩
theorem EncSt.alloc {w W : World} {B : List (Nat × Array Value × TypeId)} {v : Value} {out : List Int} (h : EncSt w W B v out) (cs : Array Value) (t : TypeId) (ht : t ≠ 5) : EncSt w (W.alloc (.cells cs t)) ((W.heap.size, cs, t) :: B) v out :=
  ⟨fun b hb => by
    rcases List.mem_cons.1 hb with rfl | hb
    · exact ⟨blk_new W _, ht⟩
    · exact ⟨blk_alloc (h.bl b hb).1 _, (h.bl b hb).2⟩, Kd.R_alloc h.r _, below_alloc h.below _⟩
theorem EncSt.less {w W : World} {b : Nat × Array Value × TypeId} {B : List (Nat × Array Value × TypeId)} {v : Value} {out : List Int} (h : EncSt w W (b :: B) v out) : EncSt w W B v out :=
  ⟨fun c hc => h.bl c (List.mem_cons_of_mem _ hc), h.r, h.below⟩
theorem EncSt.same {w W : World} {B : List (Nat × Array Value × TypeId)} {v : Value} {out out' : List Int} (h : EncSt w W B v out) (e : out = out') : EncSt w W B v out' := e ▸ h

theorem lit_R (W : World) (l : List Int) (hl : l.length ≤ 1000) : Kd.R (Kd.int .u8) 5 (W.alloc (.cells (nums .u8 l).toArray 5)) W.heap.size (fun _ => True) (.slice (some ⟨W.heap.size, 0, none⟩) l.length l.length) l := by
  refine ⟨fun _ _ => trivial, nums .u8 l, ?_, ?_⟩
  · have h2 := World.ownsRow_lit (base := W.heap.size) (e := 5) (size := 1) W (nums .u8 l).toArray l.length (Nat.le_refl _) (by simp only [maxLen]; omega) (by simp [nums])
    have h3 : (W.alloc (.cells (nums .u8 l).toArray 5)).ownsRow W.heap.size 5 1 (.slice (some ⟨W.heap.size, 0, none⟩) l.length l.length) l.length (nums .u8 l) := by simpa using h2
    exact h3
  · exact Kd.reps_scalar l

theorem app_arm {ops : Array Oper} {rest : List Oper} {op : Oper} {a : Act} {Q : Exit → Act → World → Prop} (hgd : op.guard = none) (s x : Operand) (ho : op.op = .call { callee := .builtin .append, args := #[s, x], argTypes := #[31, 31] })
    {w W : World} {B : List (Nat × Array Value × TypeId)} {v : Value} {out : List Int} (ys : List Int) (hs : a.eval s = v) (hx : a.eval x = .slice (some ⟨W.heap.size, 0, none⟩) ys.length ys.length) (St : EncSt w W B v out) (hl : out.length ≤ 200000) (hy : ys.length ≤ 1000)
    (h : ∀ v1 w1, EncSt w w1 B v1 (out ++ ys) → wpList Try.prog ops Q rest (a.put op.dst v1) w1) : wpList Try.prog ops Q (op :: rest) a (W.alloc (.cells (nums .u8 ys).toArray 5)) := by
  refine Kd.R_append_rows (Kd.int .u8) (w0 := w) w.heap.size hgd s x 31 5 (.int .u8 0) 1 ho Try.underlying31 info5 rfl (by decide) (by omega) v out ys (some ⟨W.heap.size, 0, none⟩) ys.length ys.length (fun _ => True) (fun k => some k ≠ v.ownBlock) hs hx (Kd.R_alloc St.r _) (Kd.R_reads' (lit_R W ys hy)).2.2 (fun _ _ h => h) (fun k h => ⟨trivial, h⟩) (fun _ _ => trivial) (below_alloc St.below _) (by have := St.below.size; rw [World.size_alloc]; omega) (by omega) ?_
  intro v1 w1 ho1 hb1 hg1 _
  refine h v1 w1 ⟨fun b hb => ?_, ho1, hb1⟩
  obtain ⟨h1, h2⟩ := St.bl b hb
  have h3 := blk_alloc h1 (.cells (nums .u8 ys).toArray 5)
  refine ⟨(hg1.block b.1 (blk_lt h3) (Kd.R_ne (Kd.R_alloc St.r _) h3 (fun e => h2 e.symm))).trans h3, h2⟩

/-- What may be read while bytes are under way. -/
theorem EncSt.facts {w W : World} {g b0 : Nat} {x : En} {L : Int} {u v : Value} {out : List Int} (h : EncSt w W [(g, (enC x).toArray, 44), (b0, #[.int .i64 L, u], 24)] v out) :
    W.cell? ⟨g, 0, none⟩ = some (.int .i64 x.at_) ∧ W.cell? ⟨g, 1, none⟩ = some (.bool x.dead) ∧ W.cell? ⟨g, 2, none⟩ = some (.int .i64 x.fr.l) ∧ W.cell? ⟨g, 3, none⟩ = some (.int .i64 x.fr.h) ∧ W.cell? ⟨b0, 0, none⟩ = some (.int .i64 L) ∧ g < W.heap.size ∧ b0 < W.heap.size ∧
      ∀ j (hj : j < x.fr.s.length), W.cell? ⟨g, 4 + j, none⟩ = some (.int .u8 x.fr.s[j]) := by
  have hx := (h.bl _ List.mem_cons_self).1
  have hc := (h.bl _ (List.mem_cons_of_mem _ List.mem_cons_self)).1
  have hr := range_blk hx
  have hf := range_fr hr
  exact ⟨cell_at hr, cell_dead hr, cell_l hf, cell_h hf, blk_cell hc 0, blk_lt hx, blk_lt hc, fun j hj => range_slot hf j hj⟩

def EncPost (L : Int) (l : List En) (w : World) (e : Ending) (w' : World) : Prop :=
  if (checkS L l).2 = 0 then ∃ v, e = .returned (.tuple #[v, .int .i64 0]) ∧ Kd.R (Kd.int .u8) 5 w' w.heap.size (fun _ => True) v (encS L l) ∧ Below w.heap.size w w'
  else e = .returned (.tuple #[.slice none 0 0, .int .i64 (checkS L l).2]) ∧ Below w.heap.size w w'

theorem cut_toO (g o n : Nat) (hn : n ≤ 24) : ∀ W, (Instr.sliceAt 40 (.pointer (some ⟨g, o, none⟩)) none (some (.int .i64 (n : Int))) none).run Try.prog W = .ok (.slice (some ⟨g, o, none⟩) n 24) W := by
  intro W
  have ha : Try.prog.arrayLen 40 = 24 := by kernel_rfl
  have he : Try.prog.elem 40 = 39 := by kernel_rfl
  have h := run_sliceAt_array_h (P := Try.prog) W 40 ⟨g, o, none⟩ (by rw [ha, he]; exact Try.underlying40) .i64 (n : Int) (by omega) (by rw [ha]; omega)
  rw [h, ha, he, size39]
  simp [slicedAt, Result.andThen, Addr.add]

set_option maxHeartbeats 4000000 in
set_option maxRecDepth 100000 in
theorem encode_c (L : Int) (A : Option Addr) (c : Nat) (l : List En) (w : World) (hr : Kd.C kEn w A l.length l) : Calls Try.prog 17 #[.agg #[.int .i64 L, .slice A l.length c]] w (EncPost L l w) := by
  have HK := Lib.hid (fun W h => check_c L A c l W h)
  have HR := Lib.hid hr
  have hgood := check_good L l
  unfold EncPost
  obtain ⟨⟨n, e⟩, hne⟩ : ∃ x, x = checkS L l := ⟨_, rfl⟩
  rw [← hne] at HK hgood ⊢
  simp only at hgood ⊢
  clear hr hne
  by_cases he : e = 0
  · subst he
    obtain ⟨g0, g1, g2, g3⟩ := hgood.1 rfl
    simp only [if_true]
    have HG := Lib.hid g3
    clear hgood g3
    go_enter Try.func17, Try.ntmps17
    go_wp2_with fail
    refine (HK.out _ (Kd.C_alloc HR.out _)).mono ?_
    rintro e1 w1 ⟨rfl, b1⟩
    have hb0 := blk_below (blk_new w (.cells #[.int .i64 L, .slice A l.length c] 24)) b1
    have k0 := blk_cell hb0 0
    have k1 := blk_cell hb0 1
    simp only [List.getElem?_toArray, List.getElem?_cons_zero, List.getElem?_cons_succ] at k0 k1
    have HB0 := Lib.hid hb0
    have HB1 := Lib.hid ((below_alloc (Below.refl w.heap.size w) (.cells #[.int .i64 L, .slice A l.length c] 24)).trans (b1.mono (by rw [World.size_alloc]; omega)))
    clear hb0 b1
    have hz := blk_lt HB0.out
    go_wp2
    have E0 : EncSt w (w1.alloc (.cells (nums .u8 [112, 118, 1, L, (l.length : Int) / 256, (l.length : Int) % 256]).toArray 5)) [(w.heap.size, #[.int .i64 L, .slice A l.length c], 24)] (.slice (some ⟨w1.heap.size, 0, none⟩) 6 6) ([112, 118, 1, L, (l.length : Int) / 256, (l.length : Int) % 256] ++ encB L (l.take 0)) :=
      ⟨fun b hb => by simp at hb; subst hb; exact ⟨blk_alloc HB0.out _, show (24 : Nat) ≠ 5 by decide⟩, by simpa [encB] using Kd.R_lower (lit_R w1 [112, 118, 1, L, (l.length : Int) / 256, (l.length : Int) % 256] (by simp)) HB1.out.size, below_alloc HB1.out _⟩
    go_loopg [7, 35] (l.length + 1) (fun k v7 v35 W => ∃ (i : Nat), v35 = .int .i64 (i : Int) ∧ i + k = l.length + 1 ∧ i ≤ l.length ∧ EncSt w W [(w.heap.size, #[.int .i64 L, .slice A l.length c], 24)] v7 ([112, 118, 1, L, (l.length : Int) / 256, (l.length : Int) % 256] ++ encB L (l.take i)))
    case atStart => exact ⟨0, rfl, by omega, Nat.zero_le _, E0⟩
    case round =>
      obtain ⟨i, rfl, hi, hil, St⟩ := hrel
      clear E0 HB0 HB1 k0 k1
      obtain ⟨k, rfl⟩ : ∃ k, gk = k + 1 := ⟨gk - 1, by omega⟩
      by_cases hlt : i < l.length
      · have e1 : decide ((i : Int) < (l.length : Int)) = true := decide_eq_true (by exact_mod_cast hlt)
        obtain ⟨ad, rfl, hwf, hrg⟩ := at_en (Kd.C_below HR.out St.below) i hlt
        have hgx : l.getD i en0 = l[i] := by simp [List.getD_eq_getElem?_getD, hlt]
        obtain ⟨p, hp⟩ := OkL_get L l (-1) i hlt HG.out
        have hlen : ([112, 118, 1, L, (l.length : Int) / 256, (l.length : Int) % 256] ++ encB L (l.take i)).length ≤ 150000 := by
          have := encB_take L l g0 g1 g2 HG.out i
          rw [List.length_append]
          simp
          omega
        have htk : encB L (l.take (i + 1)) = encB L (l.take i) ++ encE L l[i] := by rw [List.take_succ_eq_append_getElem hlt, encB_snoc]
        rw [hgx] at hwf hrg
        obtain ⟨x, hx⟩ : ∃ x, x = l[i] := ⟨_, rfl⟩
        rw [← hx] at hwf hrg hp htk
        obtain ⟨a0, a1, _, hbd⟩ := step_at hp
        obtain ⟨out, hout⟩ : ∃ out, out = [112, 118, 1, L, (l.length : Int) / 256, (l.length : Int) % 256] ++ encB L (l.take i) := ⟨_, rfl⟩
        rw [← hout] at hlen St
        have HN : Hid ([112, 118, 1, L, (l.length : Int) / 256, (l.length : Int) % 256] ++ encB L (l.take (i + 1)) = out ++ encE L x) := Lib.hid (by rw [htk, hout, List.append_assoc])
        have HRg := Lib.hid hrg
        have HW := Lib.hid hwf
        have HBd := Lib.hid hbd
        have HSt := Lib.hid St
        clear hgx hp htk hwf hrg hx hbd hout St
        go_upto_region 9 with (first | ((with_reducible refine gate_dst (N := 38) rfl ?_); refine wpList_load_any rfl 44 (.tmp 37) rfl (ad.add (i * 28)) rfl (enC x) _ HRg.out Try.underlying44 rfl (by rw [enC_len HW.out]; kernel_rfl) ?_) | ((with_reducible refine gate_store (t := 44) (p := 9) rfl ?_); refine wpList_store_new rfl 44 (.tmp 9) (.tmp 38) rfl wr _ (enC x).toArray wr.heap.size rfl rfl rfl (by simp only [List.size_toArray, enC_len HW.out]; kernel_rfl) (by simp [enC_len HW.out]) (all_oneCell_toArray (enC_one x)) ?_))
        have HT := HSt.out.alloc (enC x).toArray 44 (by decide)
        obtain ⟨W2, hW2⟩ : ∃ W2, W2 = wr.alloc (.cells (enC x).toArray 44) := ⟨_, rfl⟩
        rw [← hW2] at HT ⊢
        clear hW2
        obtain ⟨m0, m1, m2, m3, m4, z2, z0, _⟩ := HT.facts
        have HT2 := Lib.hid HT
        clear HT HSt HRg
        go_upto_region 10 with (first | ((with_reducible refine gate_dst (N := 48) rfl ?_); at_builtin; refine app_arm rfl (.tmp 39) (.tmp 47) rfl [x.at_ / 256, x.at_ % 256] rfl rfl HT2.out (by omega) (by simp) ?_; intro v1 w3 HU))
        clear m0 m1 m2 m3 m4 z2 z0 HT2
        obtain ⟨m0, m1, m2, m3, m4, z2, z0, _⟩ := HU.facts
        have HT2 := Lib.hid HU
        clear HU
        have hl1 : (out ++ [x.at_ / 256, x.at_ % 256]).length ≤ 150002 := by rw [List.length_append]; simp; omega
        cases hd : x.dead with
        | true =>
          rw [hd] at m1
          have HE := Lib.hid (show out ++ [x.at_ / 256, x.at_ % 256] ++ [0] = out ++ encE L x by unfold encE; rw [if_pos hd]; simp)
          go_wp2_with (first | ((with_reducible refine gate_dst (N := 53) rfl ?_); at_builtin; refine app_arm rfl (.tmp 51) (.tmp 52) rfl [0] rfl rfl HT2.out (by omega) (by simp) ?_; intro v2 w4 HU2))
          go_roundg k
          case measure => omega
          case rel => exact ⟨i + 1, by simp, by omega, by omega, HU2.less.same (by rw [HN.out]; exact HE.out)⟩
        | false =>
          rw [hd] at m1
          obtain ⟨f0, f1, f2, _, _⟩ := body_live HBd.out hd
          obtain ⟨n24, hn24⟩ : ∃ n24 : Nat, L + x.fr.h = (n24 : Int) := ⟨(L + x.fr.h).toNat, by omega⟩
          have hle : n24 ≤ 24 := by omega
          have HE := Lib.hid (show out ++ [x.at_ / 256, x.at_ % 256] ++ [1, x.fr.h] ++ x.fr.s.take n24 = out ++ encE L x by unfold encE; rw [if_neg (by rw [hd]; decide), hn24, Int.toNat_natCast]; simp)
          have hs24 : x.fr.s.length = 24 := HW.out.1
          have hcut := cut_toO wr.heap.size 4 n24 hle
          go_wp2_with (first | ((with_reducible refine gate_dst (N := 60) rfl ?_); at_builtin; refine app_arm rfl (.tmp 54) (.tmp 59) rfl [1, x.fr.h] rfl rfl HT2.out (by omega) (by simp) ?_; intro v2 w4 HU2; obtain ⟨m0', m1', m2', m3', m4', z2', z0', _⟩ := HU2.facts; have HT3 := Lib.hid HU2; clear HU2 m0 m1 m2 m3 m4 z2 z0 HT2))
          have hl2 : (out ++ [x.at_ / 256, x.at_ % 256] ++ [1, x.fr.h]).length ≤ 150004 := by rw [List.length_append]; simp at hl1 ⊢; omega
          obtain ⟨out2, ho2⟩ : ∃ out2, out2 = out ++ [x.at_ / 256, x.at_ % 256] ++ [1, x.fr.h] := ⟨_, rfl⟩
          rw [← ho2] at hl2 HT3 HE
          clear ho2 hl1
          obtain ⟨gx, hgx⟩ : ∃ gx, gx = wr.heap.size := ⟨_, rfl⟩
          rw [← hgx] at HT3 ⊢
          clear hgx hcut m0' m1' m2' m3' m4' z2' z0'
          go_loopg [7, 71] (n24 + 1) (fun k v7 v71 W => ∃ j : Nat, v71 = .int .i64 (j : Int) ∧ j + k = n24 + 1 ∧ j ≤ n24 ∧ EncSt w W [(gx, (enC x).toArray, 44), (w.heap.size, #[.int .i64 L, .slice (some ad) l.length c], 24)] v7 (out2 ++ x.fr.s.take j))
          case atStart => exact ⟨0, rfl, by omega, Nat.zero_le _, HT3.out.same (by simp)⟩
          case round =>
            obtain ⟨j, rfl, hj, hjn, St⟩ := hrel
            clear HT3
            by_cases hjl : j < n24
            · have e2 : decide ((j : Int) < (n24 : Int)) = true := decide_eq_true (by exact_mod_cast hjl)
              obtain ⟨_, _, _, _, _, _, _, hs⟩ := St.facts
              have hx := hs j (by omega)
              have htk : x.fr.s.take (j + 1) = x.fr.s.take j ++ [x.fr.s[j]] := by rw [List.take_succ_eq_append_getElem (by omega)]
              obtain ⟨t, ht⟩ : ∃ t, t = x.fr.s[j] := ⟨_, rfl⟩
              rw [← ht] at hx htk
              have HTK := Lib.hid htk
              have hl3 : (out2 ++ x.fr.s.take j).length ≤ 150100 := by rw [List.length_append, List.length_take]; omega
              have HSt := Lib.hid St
              clear hs htk ht St
              obtain ⟨gi, rfl⟩ : ∃ q, gk = q + 1 := ⟨gk - 1, by omega⟩
              go_wp2_with (first | ((with_reducible refine gate_dst (N := 78) rfl ?_); at_builtin; refine app_arm rfl (.tmp 75) (.tmp 77) rfl [t] rfl rfl HSt.out (by omega) (by simp) ?_; intro v2 w4 HU2))
              go_roundg gi
              case measure => omega
              case rel => exact ⟨j + 1, by simp, by omega, by omega, HU2.same (by rw [HTK.out, List.append_assoc])⟩
            · have e2 : decide ((j : Int) < (n24 : Int)) = false := decide_eq_false (by omega)
              obtain rfl : j = n24 := by omega
              have HSt := Lib.hid St
              clear St
              go_wp2
              go_roundg k
              case measure => omega
              case rel => exact ⟨i + 1, by simp, by omega, by omega, HSt.out.less.same (by rw [HN.out]; exact HE.out)⟩
      · have e1 : decide ((i : Int) < (l.length : Int)) = false := decide_eq_false (by omega)
        rw [List.take_of_length_le (by omega)] at St
        have HSt := Lib.hid St
        clear St
        go_wp2
        go_ret2
        exact ⟨_, rfl, HSt.out.r, HSt.out.below⟩
  · simp only [if_neg he]
    go_enter Try.func17, Try.ntmps17
    go_wp2_with fail
    refine (HK.out _ (Kd.C_alloc HR.out _)).mono ?_
    rintro e1 w1 ⟨rfl, b1⟩
    have hne : (e != 0) = true := by simp [he]
    go_wp2
    go_ret2
    exact ⟨rfl, (below_alloc (Below.refl w.heap.size w) (.cells #[.int .i64 L, .slice A l.length c] 24)).trans (b1.mono (by rw [World.size_alloc]; omega))⟩
end Go.Proofs.Ytfbdnfokoakfaaa.Ct
namespace Go.Proofs.Ytfbdnfokoakfaaa.Ct
open Go.RowKit Go.Proofs.YtfbdnfokoakfaaaW.PrintWords Go.Proofs.YtfbdnfokoakfaaaW.PrintLast Go.Proofs.YtfbdnfokoakfaaaW.PrintMore
set_option linter.unusedVariables false
set_option linter.unusedSimpArgs false

theorem exec_load_any {P : Program} {op : Oper} {a : Act} {w : World} {ty : TypeId} {x : Operand} {p : Addr} {cs : List Value} {d : TypeDesc} (ho : op.op = .load ty x) (hx : a.eval x = .pointer (some p)) (hc : Rng w p cs)
    (hu : P.underlying ty = some d) (hd : d.isRow = true) (hi : (P.info? ty).map (·.size) = some cs.length) : (execOp a.eval op).run P w = .ok (.value (.agg cs.toArray)) w := by
  have hl : (loadCells p cs.length).run P w = .ok cs.toArray w := run_loadCells_list (P := P) w p cs hc
  have hv : (loadVar ty p).run P w = .ok (.agg cs.toArray) w := by
    cases hq : P.info? ty with
    | none => simp [hq] at hi
    | some i =>
      have hs : i.size = cs.length := by simpa [hq] using hi
      have hagg : (isAgg ty).run P w = .ok true w := by
        unfold isAgg
        rw [Sem.run_bind, run_underlying hu w]
        cases d <;> simp_all
      simp [loadVar, Sem.run_bind, hagg, sizeOf, typeInfo, hq, hs, hl]
  unfold execOp
  simp only [ho, hx, Instr.loadAt, Instr.sureAddr, Sem.run_bind, Sem.run_pure, Result.andThen_ok, hv]
theorem Rng.below {w w1 : World} {a : Addr} {cs : List Value} (h : Rng w a cs) (b : Below w.heap.size w w1) : Rng w1 a cs := fun j v hj =>
  (b.cell (World.block_lt_of_cell? w _ (h j v hj))).trans (h j v hj)

set_option maxHeartbeats 2000000 in
set_option maxRecDepth 100000 in
theorem rcheck_c (L : Int) (A : Option Addr) (c : Nat) (l : List En) (w : World) (hr : Kd.C kEn w A l.length l) : Calls Try.prog 15 #[.agg #[.int .i64 L, .slice A l.length c]] w fun e w' => e = .returned (.tuple #[.int .i64 (checkS L l).1, .int .i64 (checkS L l).2]) ∧ Below w.heap.size w w' := by
  have HR := Lib.hid hr
  clear hr
  obtain ⟨r, hr⟩ : ∃ r, r = checkS L l := ⟨_, rfl⟩
  rw [← hr]
  have HRR := Lib.hid hr
  clear hr
  by_cases c1 : L < 0 ∨ 16 < L
  · have hv : r = (0, 5) := by rw [HRR.out]; unfold checkS; rw [if_pos c1]
    subst hv
    by_cases c2 : L < 0
    · have d1 : decide (L < 0) = true := by simp [c2]
      go_enter Try.func15, Try.ntmps15
      go_wp2
      go_ret2
      exact ⟨rfl, below_alloc (Below.refl _ _) _⟩
    · have d1 : decide (L < 0) = false := by simp; omega
      have d2 : decide (16 < L) = true := by simp; omega
      go_enter Try.func15, Try.ntmps15
      go_wp2
      go_ret2
      exact ⟨rfl, below_alloc (Below.refl _ _) _⟩
  · have d1 : decide (L < 0) = false := by simp; omega
    have d2 : decide (16 < L) = false := by simp; omega
    by_cases c2 : 4096 < l.length
    · have hv : r = (4096, 4) := by rw [HRR.out]; unfold checkS; rw [if_neg c1, if_pos c2]
      subst hv
      have d3 : decide (4096 < (l.length : Int)) = true := by simp; omega
      go_enter Try.func15, Try.ntmps15
      go_wp2
      go_ret2
      exact ⟨rfl, below_alloc (Below.refl _ _) _⟩
    · have HRK := Lib.hid (show checkF L l (l.length + 1) 0 (-1) = r by rw [HRR.out]; unfold checkS; rw [if_neg c1, if_neg c2])
      have d3 : decide (4096 < (l.length : Int)) = false := by simp; omega
      clear HRR
      go_enter Try.func15, Try.ntmps15
      go_wp2
      go_loopg [4, 5] (l.length + 1) (fun k v4 v5 W => ∃ (i : Nat) (last : Int), v4 = .int .i64 last ∧ v5 = .int .i64 (i : Int) ∧ i + k = l.length + 1 ∧ i ≤ l.length ∧ CkSt w W L A c l ∧ Hid (checkF L l k i last = r))
      case atStart => exact ⟨0, -1, rfl, rfl, by omega, Nat.zero_le _, ⟨blk_new w _, below_alloc (Below.refl _ _) _⟩, HRK⟩
      case round =>
        obtain ⟨i, last, rfl, rfl, hi, hil, St, HF⟩ := hrel
        clear HRK
        obtain ⟨k, rfl⟩ : ∃ k, gk = k + 1 := ⟨gk - 1, by omega⟩
        have k1' : wr.cell? ⟨w.heap.size, 1, none⟩ = some (.slice A l.length c) := blk_cell St.a 1
        by_cases hlt : i < l.length
        · have e1 : decide ((i : Int) < (l.length : Int)) = true := decide_eq_true (by exact_mod_cast hlt)
          obtain ⟨ad, rfl, hwf, hrg⟩ := at_en (Kd.C_below HR.out St.below) i hlt
          have hF := HF.out
          rw [checkF, if_pos hlt] at hF
          obtain ⟨x, hx⟩ : ∃ x, x = l.getD i en0 := ⟨_, rfl⟩
          rw [← hx] at hwf hrg hF
          clear hx HF
          have HRg := Lib.hid hrg
          have m0 := hrg.at_
          have HW := Lib.hid hwf
          have HFF := Lib.hid hF
          have HSt := Lib.hid St
          have HRs := Lib.hid (after_c x.at_ last)
          have k0 : wr.cell? ⟨w.heap.size, 0, none⟩ = some (.int .i64 L) := blk_cell St.a 0
          clear hwf hrg hF St
          obtain ⟨e, he⟩ : ∃ e, e = risesS last x.at_ := ⟨_, rfl⟩
          rw [← he] at HRs
          by_cases hz : e = 0
          · subst hz
            obtain ⟨q, hq⟩ : ∃ q, q = bodyS L x := ⟨_, rfl⟩
            have HBd := Lib.hid (fun W => body_c x L HW.out (by omega) (by omega) W)
            unfold enV at HBd
            rw [← hq] at HBd
            have HE0 := Lib.hid he
            have HQ := Lib.hid hq
            clear he hq
            go_wp2_with (first | (go_at_call 38; refine (HRs.out _).mono ?_; rintro e w1 ⟨rfl, ⟨⟨n1, rfl⟩⟩⟩))
            have HSt2 := Lib.hid (HSt.out.drewN n1)
            have HRg2 : Hid (Rng (wr.drewN n1).drew (ad.add (i * 28)) (enC x)) := Lib.hid (show Rng wr _ _ from HRg.out)
            refine start_ (n := 9) (S := fun W => W.cell? ⟨w.heap.size, 0, none⟩ = some (.int .i64 L) ∧ W.cell? ⟨w.heap.size, 1, none⟩ = some (.slice (some ad) l.length c) ∧ Rng W (ad.add (i * 28)) (enC x)) (ds := []) #[false, false, false, false, false, false, false, false, false] (by kernel_rfl) rfl rfl ⟨k0, k1', HRg2.out⟩ (fun hHeld => ?_)
            refine pure_ (i := 0) (N := some 36) (v := ?_) (a' := ?_) #[true, false, false, false, false, false, false, false, false] rfl rfl (by kernel_rfl) (fun _ _ _ h => h) (Or.inl ⟨by rfl, ?_⟩) ?_ ?_
            rotate_left
            · intro w_
              go_simp
              with_reducible rfl
            rotate_left
            · simp only [Act.put, List.setIfInBounds_toArray, List.set_cons_zero, List.set_cons_succ]
              rfl
            refine pure_ (i := 2) (N := some 38) (v := ?_) (a' := ?_) #[true, false, true, false, false, false, false, false, false] rfl rfl (by kernel_rfl) (fun _ _ _ h => h) (Or.inl ⟨by rfl, ?_⟩) ?_ ?_
            rotate_left
            · intro w_
              go_simp
              with_reducible rfl
            rotate_left
            · simp only [Act.put, List.setIfInBounds_toArray, List.set_cons_zero, List.set_cons_succ]
              rfl
            refine pure_ (i := 4) (N := some 40) (v := ?_) (a' := ?_) #[true, false, true, false, true, false, false, false, false] rfl rfl (by kernel_rfl) (fun _ _ _ h => h) (Or.inl ⟨by rfl, ?_⟩) ?_ ?_
            rotate_left
            · intro w_
              go_simp
              with_reducible rfl
            rotate_left
            · simp only [Act.put, List.setIfInBounds_toArray, List.set_cons_zero, List.set_cons_succ]
              rfl
            refine take_ (i := 1) (N := some 37) (v := ?_) (a' := ?_) #[true, true, true, false, true, false, false, false, false] rfl rfl (by kernel_rfl) (fun _ _ _ h => h) (Or.inl ⟨by rfl, ?_⟩) hHeld ?_ ?_
            rotate_left
            · intro w_ hS_
              obtain ⟨s0, s1, s2⟩ := hS_
              go_simp
              with_reducible rfl
            rotate_left
            · simp only [Act.put, List.setIfInBounds_toArray, List.set_cons_zero, List.set_cons_succ]
              rfl
            refine take_ (i := 3) (N := some 39) (v := ?_) (a' := ?_) #[true, true, true, true, true, false, false, false, false] rfl rfl (by kernel_rfl) (fun _ _ _ h => h) (Or.inl ⟨by rfl, ?_⟩) hHeld ?_ ?_
            rotate_left
            · intro w_ hS_
              obtain ⟨s0, s1, s2⟩ := hS_
              go_simp
              with_reducible rfl
            rotate_left
            · simp only [Act.put, List.setIfInBounds_toArray, List.set_cons_zero, List.set_cons_succ]
              rfl
            refine pure_ (i := 5) (N := some 41) (v := ?_) (a' := ?_) #[true, true, true, true, true, true, false, false, false] rfl rfl (by kernel_rfl) (fun _ _ _ h => h) (Or.inl ⟨by rfl, ?_⟩) ?_ ?_
            rotate_left
            · intro w_
              go_simp
              with_reducible rfl
            rotate_left
            · simp only [Act.put, List.setIfInBounds_toArray, List.set_cons_zero, List.set_cons_succ]
              rfl
            refine take_ (i := 6) (N := some 42) (v := ?_) (a' := ?_) #[true, true, true, true, true, true, true, false, false] rfl rfl (by kernel_rfl) (fun _ _ _ h => h) (Or.inl ⟨by rfl, ?_⟩) hHeld ?_ ?_
            rotate_left
            · intro w_ hS_
              obtain ⟨s0, s1, s2⟩ := hS_
              refine exec_load_any (ty := 44) (x := .tmp 41) (p := ad.add (i * 28)) (cs := enC x) ?_ ?_ s2 Try.underlying44 rfl (by rw [enC_len HW.out]; kernel_rfl)
              · rfl
              · rfl
            rotate_left
            · simp only [Act.put, List.setIfInBounds_toArray, List.set_cons_zero, List.set_cons_succ]
              rfl
            refine one_ (i := 7) (N := some 43) #[true, true, true, true, true, true, true, true, false] rfl rfl (by kernel_rfl) (by decide) (fun K hK => ?_)
            refine goes_ Try.func39 (by kernel_rfl) rfl #[.int .i64 L, .agg (enC x).toArray] (by rfl) rfl rfl (by simp only [List.map_toArray, List.map_cons, List.map_nil]; rfl) ?_
            refine (HBd.out _).mono ?_
            rintro e3 w3 ⟨rfl, b3⟩
            refine ⟨_, rfl, ?_⟩
            have St3 := (HSt2.out.drewN 1).next b3
            have hrg3 := (HRg2.out.below b3)
            refine hK.out _ _ ⟨blk_cell St3.a 0, blk_cell St3.a 1, hrg3⟩ (fun hHeld => ?_)
            clear hK K
            refine norm_ (a' := ?_) ?_ ?_
            rotate_left
            · show Act.put _ (some 43) _ = _
              simp only [Act.put, List.setIfInBounds_toArray, List.set_cons_zero, List.set_cons_succ]
              rfl
            refine pure_ (i := 8) (N := some 6) (v := ?_) (a' := ?_) #[true, true, true, true, true, true, true, true, true] rfl rfl (by kernel_rfl) (fun _ _ _ h => h) (Or.inl ⟨by rfl, ?_⟩) ?_ ?_
            rotate_left
            · intro w_
              go_simp
              with_reducible rfl
            rotate_left
            · simp only [Act.put, List.setIfInBounds_toArray, List.set_cons_zero, List.set_cons_succ]
              rfl
            refine done_ (by kernel_rfl) ?_
            have HSt3 := Lib.hid St3
            obtain ⟨j0, j1, j2⟩ := hHeld
            have j3 := j2.at_
            clear j2 St3 hrg3
            by_cases hq0 : q = 0
            · subst hq0
              have HN := Lib.hid (show checkF L l k (i + 1) x.at_ = r by
                have h := HFF.out
                rw [if_neg] at h
                · exact h
                · unfold stepS; rw [← HE0.out, ← HQ.out]; simp)
              clear HFF HQ HE0
              go_wp2
              go_roundg k
              case measure => omega
              case rel => exact ⟨i + 1, x.at_, rfl, by simp, by omega, by omega, HSt3.out, HN⟩
            · have HE := Lib.hid (show r = ((i : Int), q) by
                have h := HFF.out
                rw [if_pos] at h
                · rw [← h]; unfold stepS; rw [← HE0.out, ← HQ.out]; simp
                · unfold stepS; rw [← HE0.out, ← HQ.out]; simp; exact hq0)
              have hqn : (q != 0) = true := by simp [hq0]
              clear HFF HQ HE0
              go_wp2
              go_ret2
              exact ⟨by rw [HE.out]; rfl, HSt3.out.below⟩
          · have HE := Lib.hid (show r = ((i : Int), e) by
              have h := HFF.out
              rw [if_pos] at h
              · rw [← h]; unfold stepS; rw [← he, if_pos hz]
              · unfold stepS; rw [← he, if_pos hz]; exact hz)
            have hen : (e != 0) = true := by simp [hz]
            have hen2 : (e == 0) = false := by simp [hz]
            clear he HFF
            go_wp2_with (first | (go_at_call 38; refine (HRs.out _).mono ?_; rintro e w1 ⟨rfl, ⟨⟨n1, rfl⟩⟩⟩))
            go_ret2
            exact ⟨by rw [HE.out]; rfl, (HSt.out.drewN _).below⟩
        · have e1 : decide ((i : Int) < (l.length : Int)) = false := decide_eq_false (by omega)
          have HE := Lib.hid (show r = (0, 0) by
            have h := HF.out
            rw [checkF, if_neg hlt] at h
            exact h.symm)
          have HSt := Lib.hid St
          clear HF St
          go_wp2
          go_ret2
          exact ⟨by rw [HE.out]; rfl, HSt.out.below⟩
end Go.Proofs.Ytfbdnfokoakfaaa.Ct
namespace Go.Proofs.Ytfbdnfokoakfaaa.Ct
open Go.RowKit Go.Proofs.YtfbdnfokoakfaaaW.PrintWords Go.Proofs.YtfbdnfokoakfaaaW.PrintLast Go.Proofs.YtfbdnfokoakfaaaW.PrintMore
set_option linter.unusedVariables false
set_option linter.unusedSimpArgs false

theorem ixO (g o i : Nat) (hi : i < 24) (W : World) : (Instr.indexAt 40 (.pointer (some ⟨g, o, none⟩)) (.int .i64 (i : Int))).run Try.prog W = .ok (.pointer (some ⟨g, o + i, none⟩)) W := by
  simp only [Instr.indexAt, asIntOf, Sem.run_bind, Sem.run_pure, Result.andThen_ok, run_underlying Try.underlying40, Instr.sureAddr]
  rw [if_pos (by omega)]
  simp only [size39, Sem.run_bind, Sem.run_pure, Result.andThen_ok, Int.toNat_natCast, Nat.mul_one, Addr.add_mid]

set_option maxHeartbeats 4000000 in
set_option maxRecDepth 100000 in
theorem rencode_c (L : Int) (A : Option Addr) (c : Nat) (l : List En) (w : World) (hr : Kd.C kEn w A l.length l) : Calls Try.prog 18 #[.agg #[.int .i64 L, .slice A l.length c]] w (EncPost L l w) := by
  have HK := Lib.hid (fun W h => rcheck_c L A c l W h)
  have HR := Lib.hid hr
  have hgood := check_good L l
  unfold EncPost
  obtain ⟨⟨n, e⟩, hne⟩ : ∃ x, x = checkS L l := ⟨_, rfl⟩
  rw [← hne] at HK hgood ⊢
  simp only at hgood ⊢
  clear hr hne
  by_cases he : e = 0
  · subst he
    obtain ⟨g0, g1, g2, g3⟩ := hgood.1 rfl
    simp only [if_true]
    have HG := Lib.hid g3
    clear hgood g3
    go_enter Try.func18, Try.ntmps18
    go_wp2_with fail
    refine (HK.out _ (Kd.C_alloc HR.out _)).mono ?_
    rintro e1 w1 ⟨rfl, b1⟩
    have hb0 := blk_below (blk_new w (.cells #[.int .i64 L, .slice A l.length c] 24)) b1
    have k0 := blk_cell hb0 0
    have k1 := blk_cell hb0 1
    simp only [List.getElem?_toArray, List.getElem?_cons_zero, List.getElem?_cons_succ] at k0 k1
    have HB0 := Lib.hid hb0
    have HB1 := Lib.hid ((below_alloc (Below.refl w.heap.size w) (.cells #[.int .i64 L, .slice A l.length c] 24)).trans (b1.mono (by rw [World.size_alloc]; omega)))
    clear hb0 b1
    have hz := blk_lt HB0.out
    go_wp2
    have E0 : EncSt w (w1.alloc (.cells (nums .u8 [112, 118, 1, L, (l.length : Int) / 256, (l.length : Int) % 256]).toArray 5)) [(w.heap.size, #[.int .i64 L, .slice A l.length c], 24)] (.slice (some ⟨w1.heap.size, 0, none⟩) 6 6) ([112, 118, 1, L, (l.length : Int) / 256, (l.length : Int) % 256] ++ encB L (l.take 0)) :=
      ⟨fun b hb => by simp at hb; subst hb; exact ⟨blk_alloc HB0.out _, show (24 : Nat) ≠ 5 by decide⟩, by simpa [encB] using Kd.R_lower (lit_R w1 [112, 118, 1, L, (l.length : Int) / 256, (l.length : Int) % 256] (by simp)) HB1.out.size, below_alloc HB1.out _⟩
    go_loopg [7, 8] (l.length + 1) (fun k v7 v8 W => ∃ (i : Nat), v8 = .int .i64 (i : Int) ∧ i + k = l.length + 1 ∧ i ≤ l.length ∧ EncSt w W [(w.heap.size, #[.int .i64 L, .slice A l.length c], 24)] v7 ([112, 118, 1, L, (l.length : Int) / 256, (l.length : Int) % 256] ++ encB L (l.take i)))
    case atStart => exact ⟨0, rfl, by omega, Nat.zero_le _, E0⟩
    case round =>
      obtain ⟨i, rfl, hi, hil, St⟩ := hrel
      clear E0 HB0 HB1 k0 k1
      obtain ⟨k, rfl⟩ : ∃ k, gk = k + 1 := ⟨gk - 1, by omega⟩
      by_cases hlt : i < l.length
      · have e1 : decide ((i : Int) < (l.length : Int)) = true := decide_eq_true (by exact_mod_cast hlt)
        obtain ⟨ad, rfl, hwf, hrg⟩ := at_en (Kd.C_below HR.out St.below) i hlt
        have hgx : l.getD i en0 = l[i] := by simp [List.getD_eq_getElem?_getD, hlt]
        obtain ⟨p, hp⟩ := OkL_get L l (-1) i hlt HG.out
        have hlen : ([112, 118, 1, L, (l.length : Int) / 256, (l.length : Int) % 256] ++ encB L (l.take i)).length ≤ 150000 := by
          have := encB_take L l g0 g1 g2 HG.out i
          rw [List.length_append]
          simp
          omega
        have htk : encB L (l.take (i + 1)) = encB L (l.take i) ++ encE L l[i] := by rw [List.take_succ_eq_append_getElem hlt, encB_snoc]
        rw [hgx] at hwf hrg
        obtain ⟨x, hx⟩ : ∃ x, x = l[i] := ⟨_, rfl⟩
        rw [← hx] at hwf hrg hp htk
        obtain ⟨a0, a1, _, hbd⟩ := step_at hp
        obtain ⟨out, hout⟩ : ∃ out, out = [112, 118, 1, L, (l.length : Int) / 256, (l.length : Int) % 256] ++ encB L (l.take i) := ⟨_, rfl⟩
        rw [← hout] at hlen St
        have HN : Hid ([112, 118, 1, L, (l.length : Int) / 256, (l.length : Int) % 256] ++ encB L (l.take (i + 1)) = out ++ encE L x) := Lib.hid (by rw [htk, hout, List.append_assoc])
        have j1 : wr.cell? ⟨w.heap.size, 1, none⟩ = some (.slice (some ad) l.length c) := blk_cell (St.bl _ List.mem_cons_self).1 1
        have HRg := Lib.hid hrg
        have HW := Lib.hid hwf
        have HBd := Lib.hid hbd
        have HSt := Lib.hid St
        clear hgx hp htk hwf hrg hx hbd hout St
        go_upto_region 10 with (first | ((with_reducible refine gate_dst (N := 41) rfl ?_); refine wpList_load_any rfl 44 (.tmp 40) rfl (ad.add (i * 28)) rfl (enC x) _ HRg.out Try.underlying44 rfl (by rw [enC_len HW.out]; kernel_rfl) ?_) | ((with_reducible refine gate_store (t := 44) (p := 9) rfl ?_); refine wpList_store_new rfl 44 (.tmp 9) (.tmp 41) rfl wr _ (enC x).toArray wr.heap.size rfl rfl rfl (by simp only [List.size_toArray, enC_len HW.out]; kernel_rfl) (by simp [enC_len HW.out]) (all_oneCell_toArray (enC_one x)) ?_))
        have HT := HSt.out.alloc (enC x).toArray 44 (by decide)
        obtain ⟨W2, hW2⟩ : ∃ W2, W2 = wr.alloc (.cells (enC x).toArray 44) := ⟨_, rfl⟩
        rw [← hW2] at HT ⊢
        clear hW2
        obtain ⟨m0, m1, m2, m3, m4, z2, z0, _⟩ := HT.facts
        have HT2 := Lib.hid HT
        clear HT HSt HRg j1
        go_upto_region 11 with (first | ((with_reducible refine gate_dst (N := 52) rfl ?_); at_builtin; refine app_arm rfl (.tmp 42) (.tmp 51) rfl [x.at_ / 256, x.at_ % 256] rfl rfl HT2.out (by omega) (by simp) ?_; intro v1 w3 HU))
        clear m0 m1 m2 m3 m4 z2 z0 HT2
        obtain ⟨m0, m1, m2, m3, m4, z2, z0, _⟩ := HU.facts
        have HT2 := Lib.hid HU
        clear HU
        have hl1 : (out ++ [x.at_ / 256, x.at_ % 256]).length ≤ 150002 := by rw [List.length_append]; simp; omega
        cases hd : x.dead with
        | true =>
          rw [hd] at m1
          have HE := Lib.hid (show out ++ [x.at_ / 256, x.at_ % 256] ++ [0] = out ++ encE L x by unfold encE; rw [if_pos hd]; simp)
          go_wp2_with (first | ((with_reducible refine gate_dst (N := 57) rfl ?_); at_builtin; refine app_arm rfl (.tmp 55) (.tmp 56) rfl [0] rfl rfl HT2.out (by omega) (by simp) ?_; intro v2 w4 HU2))
          go_roundg k
          case measure => omega
          case rel => exact ⟨i + 1, by simp, by omega, by omega, HU2.less.same (by rw [HN.out]; exact HE.out)⟩
        | false =>
          rw [hd] at m1
          obtain ⟨f0, f1, f2, _, _⟩ := body_live HBd.out hd
          obtain ⟨n24, hn24⟩ : ∃ n24 : Nat, L + x.fr.h = (n24 : Int) := ⟨(L + x.fr.h).toNat, by omega⟩
          have hle : n24 ≤ 24 := by omega
          have HE := Lib.hid (show out ++ [x.at_ / 256, x.at_ % 256] ++ [1, x.fr.h] ++ x.fr.s.take n24 = out ++ encE L x by unfold encE; rw [if_neg (by rw [hd]; decide), hn24, Int.toNat_natCast]; simp)
          have hs24 : x.fr.s.length = 24 := HW.out.1
          go_wp2_with (first | ((with_reducible refine gate_dst (N := 64) rfl ?_); at_builtin; refine app_arm rfl (.tmp 58) (.tmp 63) rfl [1, x.fr.h] rfl rfl HT2.out (by omega) (by simp) ?_; intro v2 w4 HU2; obtain ⟨m0', m1', m2', m3', m4', z2', z0', _⟩ := HU2.facts; have HT3 := Lib.hid HU2; clear HU2 m0 m1 m2 m3 m4 z2 z0 HT2))
          have hl2 : (out ++ [x.at_ / 256, x.at_ % 256] ++ [1, x.fr.h]).length ≤ 150004 := by rw [List.length_append]; simp at hl1 ⊢; omega
          obtain ⟨out2, ho2⟩ : ∃ out2, out2 = out ++ [x.at_ / 256, x.at_ % 256] ++ [1, x.fr.h] := ⟨_, rfl⟩
          rw [← ho2] at hl2 HT3 HE
          clear ho2 hl1
          obtain ⟨gx, hgx⟩ : ∃ gx, gx = wr.heap.size := ⟨_, rfl⟩
          rw [← hgx] at HT3 ⊢
          clear hgx m0' m1' m2' m3' m4' z2' z0'
          go_loopg [7, 10] (n24 + 1) (fun k v7 v10 W => ∃ j : Nat, v10 = .int .i64 (j : Int) ∧ j + k = n24 + 1 ∧ j ≤ n24 ∧ EncSt w W [(gx, (enC x).toArray, 44), (w.heap.size, #[.int .i64 L, .slice (some ad) l.length c], 24)] v7 (out2 ++ x.fr.s.take j))
          case atStart => exact ⟨0, rfl, by omega, Nat.zero_le _, HT3.out.same (by simp)⟩
          case round =>
            obtain ⟨j, rfl, hj, hjn, St⟩ := hrel
            clear HT3
            by_cases hjl : j < n24
            · have e2 : decide ((j : Int) < (n24 : Int)) = true := decide_eq_true (by exact_mod_cast hjl)
              obtain ⟨_, _, p2, p3, _, _, _, hs⟩ := St.facts
              have hx := hs j (by omega)
              rw [f0] at p2
              have hix := ixO gx 4 j (by omega)
              have htk : x.fr.s.take (j + 1) = x.fr.s.take j ++ [x.fr.s[j]] := by rw [List.take_succ_eq_append_getElem (by omega)]
              obtain ⟨t, ht⟩ : ∃ t, t = x.fr.s[j] := ⟨_, rfl⟩
              rw [← ht] at hx htk
              have HTK := Lib.hid htk
              have hl3 : (out2 ++ x.fr.s.take j).length ≤ 150100 := by rw [List.length_append, List.length_take]; omega
              have HSt := Lib.hid St
              clear hs htk ht St
              obtain ⟨gi, rfl⟩ : ∃ q, gk = q + 1 := ⟨gk - 1, by omega⟩
              go_wp2_with (first | ((with_reducible refine gate_dst (N := 83) rfl ?_); at_builtin; refine app_arm rfl (.tmp 76) (.tmp 82) rfl [t] rfl rfl HSt.out (by omega) (by simp) ?_; intro v2 w4 HU2))
              go_roundg gi
              case measure => omega
              case rel => exact ⟨j + 1, by simp, by omega, by omega, HU2.same (by rw [HTK.out, List.append_assoc])⟩
            · have e2 : decide ((j : Int) < (n24 : Int)) = false := decide_eq_false (by omega)
              obtain rfl : j = n24 := by omega
              obtain ⟨_, _, p2, p3, _, _, _, _⟩ := St.facts
              rw [f0] at p2
              have HSt := Lib.hid St
              clear St
              go_wp2
              go_roundg k
              case measure => omega
              case rel => exact ⟨i + 1, by simp, by omega, by omega, HSt.out.less.same (by rw [HN.out]; exact HE.out)⟩
      · have e1 : decide ((i : Int) < (l.length : Int)) = false := decide_eq_false (by omega)
        rw [List.take_of_length_le (by omega)] at St
        have HSt := Lib.hid St
        clear St
        go_wp2
        go_ret2
        exact ⟨_, rfl, HSt.out.r, HSt.out.below⟩
  · simp only [if_neg he]
    go_enter Try.func18, Try.ntmps18
    go_wp2_with fail
    refine (HK.out _ (Kd.C_alloc HR.out _)).mono ?_
    rintro e1 w1 ⟨rfl, b1⟩
    have hne : (e != 0) = true := by simp [he]
    go_wp2
    go_ret2
    exact ⟨rfl, (below_alloc (Below.refl w.heap.size w) (.cells #[.int .i64 L, .slice A l.length c] 24)).trans (b1.mono (by rw [World.size_alloc]; omega))⟩
end Go.Proofs.Ytfbdnfokoakfaaa.Ct
