/- cert.Encode. -/
import Derived.Test.YtfbdnfokoakfaaaCertS
namespace Go.Proofs.Ytfbdnfokoakfaaa.Ct
open Go.RowKit Go.Proofs.YtfbdnfokoakfaaaW.PrintWords Go.Proofs.YtfbdnfokoakfaaaW.PrintLast Go.Proofs.YtfbdnfokoakfaaaW.PrintMore
set_option linter.unusedVariables false
set_option linter.unusedSimpArgs false

theorem info5 : (Try.prog.info? 5).map (fun i => (i.zero, i.size, i.bytes)) = some (some (.int .u8 0), 1, 1) := by kernel_rfl

/-- Bytes under way: the blocks B stay, v is a row of the call's own that holds out. -/
structure EncSt (w W : World) (B : List (Nat × Array Value × TypeId)) (v : Value) (out : List Int) : Prop where
  bl : ∀ b, b ∈ B → W.heap[b.1]? = some (.cells b.2.1 b.2.2 (0, 0)) ∧ b.2.2 ≠ 5
  r : Kd.R (Kd.int .u8) 5 W w.heap.size (fun _ => True) v out
  below : Below w.heap.size w W
theorem EncSt.drewN {w W : World} {B : List (Nat × Array Value × TypeId)} {v : Value} {out : List Int} (h : EncSt w W B v out) (n : Nat) : EncSt w (W.drewN n) B v out := ⟨h.bl, Kd.R_below h.r (pw_below_drewN (Below.refl _ _) n), pw_below_drewN h.below n⟩
theorem EncSt.alloc {w W : World} {B : List (Nat × Array Value × TypeId)} {v : Value} {out : List Int} (h : EncSt w W B v out) (cs : Array Value) (t : TypeId) (ht : t ≠ 5) : EncSt w (W.alloc (.cells cs t)) ((W.heap.size, cs, t) :: B) v out :=
  ⟨fun b hb => by
    rcases List.mem_cons.1 hb with rfl | hb
    · exact ⟨blk_new W _, ht⟩
    · exact ⟨blk_alloc (h.bl b hb).1 _, (h.bl b hb).2⟩, Kd.R_alloc h.r _, below_alloc h.below _⟩
theorem EncSt.less {w W : World} {b : Nat × Array Value × TypeId} {B : List (Nat × Array Value × TypeId)} {v : Value} {out : List Int} (h : EncSt w W (b :: B) v out) : EncSt w W B v out :=
  ⟨fun c hc => h.bl c (List.mem_cons_of_mem _ hc), h.r, h.below⟩
theorem EncSt.same {w W : World} {B : List (Nat × Array Value × TypeId)} {v : Value} {out out' : List Int} (h : EncSt w W B v out) (e : out = out') : EncSt w W B v out' := e ▸ h

theorem lit_R (W : World) (l : List Int) (hl : l.length ≤ 1000) : Kd.R (Kd.int .u8) 5 (W.alloc (.cells (nums .u8 l).toArray 5)) W.heap.size (fun _ => True) (.slice (some ⟨W.heap.size, 0, none⟩) l.length l.length) l := by
  refine ⟨fun _ _ => trivial, nums .u8 l, ?_, ?_⟩
  · have h2 := World.ownsRow_lit (base := W.heap.size) (e := 5) (size := 1) W (nums .u8 l).toArray l.length (Nat.le_refl _) (by simp only [maxLen]; omega) (by simp [nums])
    have h3 : (W.alloc (.cells (nums .u8 l).toArray 5)).ownsRow W.heap.size 5 1 (.slice (some ⟨W.heap.size, 0, none⟩) l.length l.length) l.length (nums .u8 l) := by simpa using h2
    exact h3
  · exact Kd.reps_scalar l

theorem app_arm {ops : Array Oper} {rest : List Oper} {op : Oper} {a : Act} {Q : Exit → Act → World → Prop} (hgd : op.guard = none) (s x : Operand) (ho : op.op = .call { callee := .builtin .append, args := #[s, x], argTypes := #[31, 31] })
    {w W : World} {B : List (Nat × Array Value × TypeId)} {v : Value} {out : List Int} (ys : List Int) (hs : a.eval s = v) (hx : a.eval x = .slice (some ⟨W.heap.size, 0, none⟩) ys.length ys.length) (St : EncSt w W B v out) (hl : out.length ≤ 200000) (hy : ys.length ≤ 1000)
    (h : ∀ v1 w1, EncSt w w1 B v1 (out ++ ys) → wpList Try.prog ops Q rest (a.put op.dst v1) w1) : wpList Try.prog ops Q (op :: rest) a (W.alloc (.cells (nums .u8 ys).toArray 5)) := by
  refine Kd.R_append_rows (Kd.int .u8) (w0 := w) w.heap.size hgd s x 31 5 (.int .u8 0) 1 ho Try.underlying31 info5 rfl (by decide) (by omega) v out ys (some ⟨W.heap.size, 0, none⟩) ys.length ys.length (fun _ => True) (fun k => some k ≠ v.ownBlock) hs hx (Kd.R_alloc St.r _) (Kd.R_reads' (lit_R W ys hy)).2.2 (fun _ _ h => h) (fun k h => ⟨trivial, h⟩) (fun _ _ => trivial) (below_alloc St.below _) (by have := St.below.size; rw [World.size_alloc]; omega) (by omega) ?_
  intro v1 w1 ho1 hb1 hg1 _
  refine h v1 w1 ⟨fun b hb => ?_, ho1, hb1⟩
  obtain ⟨h1, h2⟩ := St.bl b hb
  have h3 := blk_alloc h1 (.cells (nums .u8 ys).toArray 5)
  refine ⟨(hg1.block b.1 (blk_lt h3) (Kd.R_ne (Kd.R_alloc St.r _) h3 (fun e => h2 e.symm))).trans h3, h2⟩

/-- What may be read while bytes are under way. -/
theorem EncSt.facts {w W : World} {g b0 : Nat} {x : En} {L : Int} {u v : Value} {out : List Int} (h : EncSt w W [(g, (enC x).toArray, 44), (b0, #[.int .i64 L, u], 24)] v out) :
    W.cell? ⟨g, 0, none⟩ = some (.int .i64 x.at_) ∧ W.cell? ⟨g, 1, none⟩ = some (.bool x.dead) ∧ W.cell? ⟨g, 2, none⟩ = some (.int .i64 x.fr.l) ∧ W.cell? ⟨g, 3, none⟩ = some (.int .i64 x.fr.h) ∧ W.cell? ⟨b0, 0, none⟩ = some (.int .i64 L) ∧ g < W.heap.size ∧ b0 < W.heap.size ∧
      ∀ j (hj : j < x.fr.s.length), W.cell? ⟨g, 4 + j, none⟩ = some (.int .u8 x.fr.s[j]) := by
  have hx := (h.bl _ List.mem_cons_self).1
  have hc := (h.bl _ (List.mem_cons_of_mem _ List.mem_cons_self)).1
  have hr := range_blk hx
  have hf := range_fr hr
  exact ⟨cell_at hr, cell_dead hr, cell_l hf, cell_h hf, blk_cell hc 0, blk_lt hx, blk_lt hc, fun j hj => range_slot hf j hj⟩

def EncPost (L : Int) (l : List En) (w : World) (e : Ending) (w' : World) : Prop :=
  if (checkS L l).2 = 0 then ∃ v, e = .returned (.tuple #[v, .int .i64 0]) ∧ Kd.R (Kd.int .u8) 5 w' w.heap.size (fun _ => True) v (encS L l) ∧ Below w.heap.size w w'
  else e = .returned (.tuple #[.slice none 0 0, .int .i64 (checkS L l).2]) ∧ Below w.heap.size w w'

theorem cut_toO (g o n : Nat) (hn : n ≤ 24) : ∀ W, (Instr.sliceAt 40 (.pointer (some ⟨g, o, none⟩)) none (some (.int .i64 (n : Int))) none).run Try.prog W = .ok (.slice (some ⟨g, o, none⟩) n 24) W := by
  intro W
  have ha : Try.prog.arrayLen 40 = 24 := by kernel_rfl
  have he : Try.prog.elem 40 = 39 := by kernel_rfl
  have h := run_sliceAt_array_h (P := Try.prog) W 40 ⟨g, o, none⟩ (by rw [ha, he]; exact Try.underlying40) .i64 (n : Int) (by omega) (by rw [ha]; omega)
  rw [h, ha, he, size39]
  simp [slicedAt, Result.andThen, Addr.add]

set_option maxHeartbeats 4000000 in
set_option maxRecDepth 100000 in
theorem encode_c (L : Int) (A : Option Addr) (c : Nat) (l : List En) (w : World) (hr : Kd.C kEn w A l.length l) : Calls Try.prog 17 #[.agg #[.int .i64 L, .slice A l.length c]] w (EncPost L l w) := by
  have HK := Lib.hid (fun W h => check_c L A c l W h)
  have HR := Lib.hid hr
  have hgood := check_good L l
  unfold EncPost
  obtain ⟨⟨n, e⟩, hne⟩ : ∃ x, x = checkS L l := ⟨_, rfl⟩
  rw [← hne] at HK hgood ⊢
  simp only at hgood ⊢
  clear hr hne
  by_cases he : e = 0
  · subst he
    obtain ⟨g0, g1, g2, g3⟩ := hgood.1 rfl
    simp only [if_true]
    have HG := Lib.hid g3
    clear hgood g3
    go_enter Try.func17, Try.ntmps17
    go_wp2_with fail
    refine (HK.out _ (Kd.C_alloc HR.out _)).mono ?_
    rintro e1 w1 ⟨rfl, b1⟩
    have hb0 := blk_below (blk_new w (.cells #[.int .i64 L, .slice A l.length c] 24)) b1
    have k0 := blk_cell hb0 0
    have k1 := blk_cell hb0 1
    simp only [List.getElem?_toArray, List.getElem?_cons_zero, List.getElem?_cons_succ] at k0 k1
    have HB0 := Lib.hid hb0
    have HB1 := Lib.hid ((below_alloc (Below.refl w.heap.size w) (.cells #[.int .i64 L, .slice A l.length c] 24)).trans (b1.mono (by rw [World.size_alloc]; omega)))
    clear hb0 b1
    have hz := blk_lt HB0.out
    go_wp2
    have E0 : EncSt w (w1.alloc (.cells (nums .u8 [112, 118, 1, L, (l.length : Int) / 256, (l.length : Int) % 256]).toArray 5)) [(w.heap.size, #[.int .i64 L, .slice A l.length c], 24)] (.slice (some ⟨w1.heap.size, 0, none⟩) 6 6) ([112, 118, 1, L, (l.length : Int) / 256, (l.length : Int) % 256] ++ encB L (l.take 0)) :=
      ⟨fun b hb => by simp at hb; subst hb; exact ⟨blk_alloc HB0.out _, show (24 : Nat) ≠ 5 by decide⟩, by simpa [encB] using Kd.R_lower (lit_R w1 [112, 118, 1, L, (l.length : Int) / 256, (l.length : Int) % 256] (by simp)) HB1.out.size, below_alloc HB1.out _⟩
    go_loopg [7, 35] (l.length + 1) (fun k v7 v35 W => ∃ (i : Nat), v35 = .int .i64 (i : Int) ∧ i + k = l.length + 1 ∧ i ≤ l.length ∧ EncSt w W [(w.heap.size, #[.int .i64 L, .slice A l.length c], 24)] v7 ([112, 118, 1, L, (l.length : Int) / 256, (l.length : Int) % 256] ++ encB L (l.take i)))
    case atStart => exact ⟨0, rfl, by omega, Nat.zero_le _, E0⟩
    case round =>
      obtain ⟨i, rfl, hi, hil, St⟩ := hrel
      clear E0 HB0 HB1 k0 k1
      obtain ⟨k, rfl⟩ : ∃ k, gk = k + 1 := ⟨gk - 1, by omega⟩
      by_cases hlt : i < l.length
      · have e1 : decide ((i : Int) < (l.length : Int)) = true := decide_eq_true (by exact_mod_cast hlt)
        obtain ⟨ad, rfl, hwf, hrg⟩ := at_en (Kd.C_below HR.out St.below) i hlt
        have hgx : l.getD i en0 = l[i] := by simp [List.getD_eq_getElem?_getD, hlt]
        obtain ⟨p, hp⟩ := OkL_get L l (-1) i hlt HG.out
        have hlen : ([112, 118, 1, L, (l.length : Int) / 256, (l.length : Int) % 256] ++ encB L (l.take i)).length ≤ 150000 := by
          have := encB_take L l g0 g1 g2 HG.out i
          rw [List.length_append]
          simp
          omega
        have htk : encB L (l.take (i + 1)) = encB L (l.take i) ++ encE L l[i] := by rw [List.take_succ_eq_append_getElem hlt, encB_snoc]
        rw [hgx] at hwf hrg
        obtain ⟨x, hx⟩ : ∃ x, x = l[i] := ⟨_, rfl⟩
        rw [← hx] at hwf hrg hp htk
        obtain ⟨a0, a1, _, hbd⟩ := step_at hp
        obtain ⟨out, hout⟩ : ∃ out, out = [112, 118, 1, L, (l.length : Int) / 256, (l.length : Int) % 256] ++ encB L (l.take i) := ⟨_, rfl⟩
        rw [← hout] at hlen St
        have HN : Hid ([112, 118, 1, L, (l.length : Int) / 256, (l.length : Int) % 256] ++ encB L (l.take (i + 1)) = out ++ encE L x) := Lib.hid (by rw [htk, hout, List.append_assoc])
        have HRg := Lib.hid hrg
        have HW := Lib.hid hwf
        have HBd := Lib.hid hbd
        have HSt := Lib.hid St
        clear hgx hp htk hwf hrg hx hbd hout St
        go_upto_region 9 with (first | ((with_reducible refine gate_dst (N := 38) rfl ?_); refine wpList_load_any rfl 44 (.tmp 37) rfl (ad.add (i * 28)) rfl (enC x) _ HRg.out Try.underlying44 rfl (by rw [enC_len HW.out]; kernel_rfl) ?_) | ((with_reducible refine gate_store (t := 44) (p := 9) rfl ?_); refine wpList_store_new rfl 44 (.tmp 9) (.tmp 38) rfl wr _ (enC x).toArray wr.heap.size rfl rfl rfl (by simp only [List.size_toArray, enC_len HW.out]; kernel_rfl) (by simp [enC_len HW.out]) (all_oneCell_toArray (enC_one x)) ?_))
        have HT := HSt.out.alloc (enC x).toArray 44 (by decide)
        obtain ⟨W2, hW2⟩ : ∃ W2, W2 = wr.alloc (.cells (enC x).toArray 44) := ⟨_, rfl⟩
        rw [← hW2] at HT ⊢
        clear hW2
        obtain ⟨m0, m1, m2, m3, m4, z2, z0, _⟩ := HT.facts
        have HT2 := Lib.hid HT
        clear HT HSt HRg
        go_upto_region 10 with (first | ((with_reducible refine gate_dst (N := 48) rfl ?_); at_builtin; refine app_arm rfl (.tmp 39) (.tmp 47) rfl [x.at_ / 256, x.at_ % 256] rfl rfl HT2.out (by omega) (by simp) ?_; intro v1 w3 HU))
        clear m0 m1 m2 m3 m4 z2 z0 HT2
        obtain ⟨m0, m1, m2, m3, m4, z2, z0, _⟩ := HU.facts
        have HT2 := Lib.hid HU
        clear HU
        have hl1 : (out ++ [x.at_ / 256, x.at_ % 256]).length ≤ 150002 := by rw [List.length_append]; simp; omega
        cases hd : x.dead with
        | true =>
          rw [hd] at m1
          have HE := Lib.hid (show out ++ [x.at_ / 256, x.at_ % 256] ++ [0] = out ++ encE L x by unfold encE; rw [if_pos hd]; simp)
          go_wp2_with (first | ((with_reducible refine gate_dst (N := 53) rfl ?_); at_builtin; refine app_arm rfl (.tmp 51) (.tmp 52) rfl [0] rfl rfl HT2.out (by omega) (by simp) ?_; intro v2 w4 HU2))
          go_roundg k
          case measure => omega
          case rel => exact ⟨i + 1, by simp, by omega, by omega, HU2.less.same (by rw [HN.out]; exact HE.out)⟩
        | false =>
          rw [hd] at m1
          obtain ⟨f0, f1, f2, _, _⟩ := body_live HBd.out hd
          obtain ⟨n24, hn24⟩ : ∃ n24 : Nat, L + x.fr.h = (n24 : Int) := ⟨(L + x.fr.h).toNat, by omega⟩
          have hle : n24 ≤ 24 := by omega
          have HE := Lib.hid (show out ++ [x.at_ / 256, x.at_ % 256] ++ [1, x.fr.h] ++ x.fr.s.take n24 = out ++ encE L x by unfold encE; rw [if_neg (by rw [hd]; decide), hn24, Int.toNat_natCast]; simp)
          have hs24 : x.fr.s.length = 24 := HW.out.1
          have hcut := cut_toO wr.heap.size 4 n24 hle
          go_wp2_with (first | ((with_reducible refine gate_dst (N := 60) rfl ?_); at_builtin; refine app_arm rfl (.tmp 54) (.tmp 59) rfl [1, x.fr.h] rfl rfl HT2.out (by omega) (by simp) ?_; intro v2 w4 HU2; obtain ⟨m0', m1', m2', m3', m4', z2', z0', _⟩ := HU2.facts; have HT3 := Lib.hid HU2; clear HU2 m0 m1 m2 m3 m4 z2 z0 HT2))
          have hl2 : (out ++ [x.at_ / 256, x.at_ % 256] ++ [1, x.fr.h]).length ≤ 150004 := by rw [List.length_append]; simp at hl1 ⊢; omega
          obtain ⟨out2, ho2⟩ : ∃ out2, out2 = out ++ [x.at_ / 256, x.at_ % 256] ++ [1, x.fr.h] := ⟨_, rfl⟩
          rw [← ho2] at hl2 HT3 HE
          clear ho2 hl1
          obtain ⟨gx, hgx⟩ : ∃ gx, gx = wr.heap.size := ⟨_, rfl⟩
          rw [← hgx] at HT3 ⊢
          clear hgx hcut m0' m1' m2' m3' m4' z2' z0'
          go_loopg [7, 71] (n24 + 1) (fun k v7 v71 W => ∃ j : Nat, v71 = .int .i64 (j : Int) ∧ j + k = n24 + 1 ∧ j ≤ n24 ∧ EncSt w W [(gx, (enC x).toArray, 44), (w.heap.size, #[.int .i64 L, .slice (some ad) l.length c], 24)] v7 (out2 ++ x.fr.s.take j))
          case atStart => exact ⟨0, rfl, by omega, Nat.zero_le _, HT3.out.same (by simp)⟩
          case round =>
            obtain ⟨j, rfl, hj, hjn, St⟩ := hrel
            clear HT3
            by_cases hjl : j < n24
            · have e2 : decide ((j : Int) < (n24 : Int)) = true := decide_eq_true (by exact_mod_cast hjl)
              obtain ⟨_, _, _, _, _, _, _, hs⟩ := St.facts
              have hx := hs j (by omega)
              have htk : x.fr.s.take (j + 1) = x.fr.s.take j ++ [x.fr.s[j]] := by rw [List.take_succ_eq_append_getElem (by omega)]
              obtain ⟨t, ht⟩ : ∃ t, t = x.fr.s[j] := ⟨_, rfl⟩
              rw [← ht] at hx htk
              have HTK := Lib.hid htk
              have hl3 : (out2 ++ x.fr.s.take j).length ≤ 150100 := by rw [List.length_append, List.length_take]; omega
              have HSt := Lib.hid St
              clear hs htk ht St
              obtain ⟨gi, rfl⟩ : ∃ q, gk = q + 1 := ⟨gk - 1, by omega⟩
              go_wp2_with (first | ((with_reducible refine gate_dst (N := 78) rfl ?_); at_builtin; refine app_arm rfl (.tmp 75) (.tmp 77) rfl [t] rfl rfl HSt.out (by omega) (by simp) ?_; intro v2 w4 HU2))
              go_roundg gi
              case measure => omega
              case rel => exact ⟨j + 1, by simp, by omega, by omega, HU2.same (by rw [HTK.out, List.append_assoc])⟩
            · have e2 : decide ((j : Int) < (n24 : Int)) = false := decide_eq_false (by omega)
              obtain rfl : j = n24 := by omega
              have HSt := Lib.hid St
              clear St
              go_wp2
              go_roundg k
              case measure => omega
              case rel => exact ⟨i + 1, by simp, by omega, by omega, HSt.out.less.same (by rw [HN.out]; exact HE.out)⟩
      · have e1 : decide ((i : Int) < (l.length : Int)) = false := decide_eq_false (by omega)
        rw [List.take_of_length_le (by omega)] at St
        have HSt := Lib.hid St
        clear St
        go_wp2
        go_ret2
        exact ⟨_, rfl, HSt.out.r, HSt.out.below⟩
  · simp only [if_neg he]
    go_enter Try.func17, Try.ntmps17
    go_wp2_with fail
    refine (HK.out _ (Kd.C_alloc HR.out _)).mono ?_
    rintro e1 w1 ⟨rfl, b1⟩
    have hne : (e != 0) = true := by simp [he]
    go_wp2
    go_ret2
    exact ⟨rfl, (below_alloc (Below.refl w.heap.size w) (.cells #[.int .i64 L, .slice A l.length c] 24)).trans (b1.mono (by rw [World.size_alloc]; omega))⟩
end Go.Proofs.Ytfbdnfokoakfaaa.Ct
