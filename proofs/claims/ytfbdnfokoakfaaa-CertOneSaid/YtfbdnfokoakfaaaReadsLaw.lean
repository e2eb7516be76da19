/- provisolaw06.CertReads: its walk. -/
import Derived.Test.YtfbdnfokoakfaaaReadsP
import Derived.Test.YtfbdnfokoakfaaaNoneLaw
namespace Go.Proofs.Ytfbdnfokoakfaaa.Ct
open Go.RowKit Go.Proofs.YtfbdnfokoakfaaaW.PrintWords Go.Proofs.YtfbdnfokoakfaaaW.PrintLast Go.Proofs.YtfbdnfokoakfaaaW.PrintMore Go.Proofs.Ytfbdnfokoakfaaa.CloneC
set_option linter.unusedVariables false
set_option linter.unusedSimpArgs false

/-- The reader's block was written: a row of the call's own, of another type, stays. -/
theorem R_nx {α : Type} {d : Kd α} {e : Nat} {w W W1 : World} {base g : Nat} {v : Value} {xs : List α} {cs cs' : Array Value} (h : d.R e W base (fun _ => True) v xs) (hg : W.heap[g]? = some (.cells cs 37 (0, 0))) (hn : Nx W g W1 cs') (hE : 37 ∉ e :: d.E) : d.R e W1 base (fun _ => True) v xs := by
  refine Kd.R_mono (Kd.R_grown (Kd.R_bound h) hn.but (fun k hk e1 => ?_)) (fun _ _ => trivial)
  obtain ⟨_, _, _, q, hq, cells, hc⟩ := hk
  injection e1 with e1
  subst e1
  rw [hg] at hc
  injection hc with h1
  injection h1 with _ h2
  exact hE (h2 ▸ hq)
structure RsSt (w W : World) (g : Nat) (A : Option Addr) (c : Nat) (b : List Int) (n : Nat) (r : RdS) (va v10 v11 : Value) (l : List En) (ends : List Int) : Prop where
  rd : RdB W g A c b n r
  all : Kd.R (Kd.int .u8) 5 W w.heap.size (fun _ => True) va (b ++ [165, 90, 195, 60])
  r10 : Kd.R kEn 44 W w.heap.size (fun _ => True) v10 l
  r11 : Kd.R (Kd.int .i64) 3 W w.heap.size (fun _ => True) v11 ends
  below : Below w.heap.size w W
theorem RsSt.next {w W W1 : World} {g : Nat} {A : Option Addr} {c : Nat} {b : List Int} {n : Nat} {r : RdS} {va v10 v11 : Value} {l : List En} {ends : List Int} (h : RsSt w W g A c b n r va v10 v11 l ends) (hb : Below W.heap.size W W1) : RsSt w W1 g A c b n r va v10 v11 l ends :=
  ⟨h.rd.next hb, Kd.R_below h.all hb, Kd.R_below h.r10 hb, Kd.R_below h.r11 hb, below_then h.below h.below.size hb⟩
theorem RsSt.after {w W W1 : World} {g : Nat} {A : Option Addr} {c : Nat} {b : List Int} {n : Nat} {r r' : RdS} {va v10 v11 : Value} {l : List En} {ends : List Int} (h : RsSt w W g A c b n r va v10 v11 l ends) (hg : w.heap.size ≤ g) (hn : Nx W g W1 (rdC A c b n r')) (hp : r'.at_ ≤ b.length) : RsSt w W1 g A c b n r' va v10 v11 l ends :=
  ⟨h.rd.after hn hp, R_nx (w := w) h.all h.rd.a hn (by show ¬ (37 : Nat) ∈ ([5] : List Nat); decide), R_nx (w := w) h.r10 h.rd.a hn (by show ¬ (37 : Nat) ∈ ([44] : List Nat); decide), R_nx (w := w) h.r11 h.rd.a hn (by show ¬ (37 : Nat) ∈ ([3] : List Nat); decide), h.below.grown hn.but h.below.size (fun k e => by injection e with e; omega)⟩

set_option maxHeartbeats 4000000 in
set_option maxRecDepth 100000 in
theorem reads_law (A : Option Addr) (c : Nat) (b : List Int) (more : Int) (w : World) (h : ByR w A c b) (hl48 : b.length ≤ 140737488351232) (hm0 : 0 ≤ more) (hm1 : more ≤ 18446744073709551615) : Calls Try.prog 7 #[.slice A b.length c, .int .u64 more] w fun e w' => e = .returned (.bool true) ∧ Below w.heap.size w w' := by
  have HB := Lib.hid h
  have HRo := Lib.hid (roomy_any A c b w h.r h.c hl48)
  clear h
  go_enter Try.func7, Try.ntmps7
  go_upto_region 2 with (first | (go_at_call 26; refine HRo.out.mono ?_; rintro e w1 ⟨g0, cap, rfl, ho, hcap, hb1⟩))
  have hY : ByR w1 (some g0) cap b := ⟨front ho, by omega, HB.out.y, HB.out.l⟩
  have HY := Lib.hid hY
  have HAll := Lib.hid ho
  have HB1 := Lib.hid hb1
  have HOp := Lib.hid (openP_c (some g0) cap b w1 hY)
  have HCap := Lib.hid hcap
  clear ho hb1 hY hcap HRo
  cases hh : headS b with
  | inl x =>
    have HE : Hid (∀ e w', OpPost2 b (some g0) cap w1 e w' → e = .returned (.tuple #[.pointer none, .int .i64 (x.2 : Int)]) ∧ Below w1.heap.size w1 w') := Lib.hid (fun e w' he => by
      unfold OpPost2 at he
      rw [hh] at he
      exact he)
    have ht : headT b = (0, 0, x.1, (x.2 : Int)) := by unfold headT; rw [hh]
    have HH := Lib.hid (fun W (hW : Below w1.heap.size w1 W) => head_c A c b W ((HB.out.next HB1.out).next hW))
    rw [ht] at HH
    have hx : (x.2 : Int) ≠ 0 := headS_err b x hh
    have d0 : ((x.2 : Int) != 0) = true := by simpa using hx
    clear hh ht hx
    go_wp2_with (first | (go_at_call 24; refine HOp.out.mono ?_; intro e w5 he; obtain ⟨rfl, hb5⟩ := HE.out e w5 he; clear he; have HB5 := Lib.hid hb5) | (go_at_call 27; refine (HH.out _ HB5.out).mono ?_; rintro e w6 ⟨rfl, hb6⟩))
    go_ret
    exact ⟨by first | rfl | simp, below_then (below_then HB1.out HB1.out.size HB5.out) (Nat.le_trans HB1.out.size HB5.out.size) hb6⟩
  | inr x =>
    obtain ⟨L, n⟩ := x
    have hg := headS_ok b HB.out.y (L, n) hh
    have hL : 0 ≤ L ∧ L ≤ 16 := hg.2.1
    have hLg : L = gB b 3 := hg.2.2.1
    have hn : n ≤ 4096 := hg.2.2.2
    have h6 : 6 ≤ b.length := hg.1
    have HE : Hid (∀ e w', OpPost2 b (some g0) cap w1 e w' → ∃ g, e = .returned (.tuple #[.pointer (some ⟨g, 0, none⟩), .int .i64 0]) ∧ w1.heap.size ≤ g ∧
      w'.heap[g]? = some (.cells (rdC (some g0) cap b n ⟨6, -1, n, 0, 0⟩) 37 (0, 0)) ∧ Below w1.heap.size w1 w') := Lib.hid (fun e w' he => by
      unfold OpPost2 at he
      rw [hh] at he
      exact he)
    have ht : headT b = (L, (n : Int), 0, 0) := by unfold headT; rw [hh]
    have HTo := Lib.hid (show toldS b = toldF b L n 6 (-1) by unfold toldS; rw [hh])
    have HH := Lib.hid (fun W (hW : Below w1.heap.size w1 W) => head_c A c b W ((HB.out.next HB1.out).next hW))
    rw [ht] at HH
    have HLg := Lib.hid hLg
    clear hh ht hg hLg
    go_upto_region 3 with (first | (go_at_call 24; refine HOp.out.mono ?_; intro e w5 he; obtain ⟨g2, rfl, hg2, hg2a, hb5⟩ := HE.out e w5 he; clear he))
    have HR : Hid (RdB w5 g2 (some g0) cap b n ⟨6, -1, n, 0, 0⟩) := Lib.hid ⟨hg2a, HY.out.next hb5, h6, h6, by rw [← HLg.out]; exact hL.2⟩
    have HAll5 := Lib.hid (Kd.R_below HAll.out hb5)
    have HB5 := Lib.hid (below_then HB1.out HB1.out.size hb5)
    have HG2 : Hid (w.heap.size ≤ g2) := Lib.hid (Nat.le_trans HB1.out.size hg2)
    have HH5 := Lib.hid (HH.out w5 hb5)
    clear hg2 hg2a hb5 HOp HE HH HAll HY
    go_upto_region 8 with (first | (go_at_call 27; refine HH5.out.mono ?_; rintro e w6 ⟨rfl, hb6⟩))
    have HR6 := Lib.hid (HR.out.next hb6)
    have HAll6 := Lib.hid (Kd.R_below HAll5.out hb6)
    have HB6 := Lib.hid (below_then HB5.out HB5.out.size hb6)
    have HTd := Lib.hid (told_c A c b w6 (HB.out.next HB6.out))
    clear hb6 HAll5 HB5 HR HH5
    go_upto_region 10 with (first | (go_at_call 28; refine HTd.out.mono ?_; rintro e w7 ⟨v10, v11, rfl, hr10, hr11, hb7⟩))
    obtain ⟨l, ends, px, er, hto⟩ : ∃ l ends px er, toldS b = (l, ends, (px, er)) := ⟨_, _, _, _, rfl⟩
    rw [hto] at hr10 hr11
    have hlen := told_len b L n 6 (-1)
    rw [← HTo.out, hto] at hlen
    obtain ⟨hle, hln⟩ : l.length = ends.length ∧ l.length ≤ n := hlen
    have h10 : Kd.R kEn 44 w7 w.heap.size (fun _ => True) v10 l := Kd.R_lower hr10 HB6.out.size
    have h11 : Kd.R (Kd.int .i64) 3 w7 w.heap.size (fun _ => True) v11 ends := Kd.R_lower hr11 HB6.out.size
    obtain ⟨A10, c10, rfl, hc10, _⟩ := Kd.R_reads h10
    obtain ⟨A11, c11, rfl, hc11, _⟩ := Kd.R_reads h11
    have St0 : Hid (RsSt w w7 g2 (some g0) cap b n ⟨6, -1, n, 0, 0⟩ (.slice (some g0) (b.length + 4) cap) (.slice A10 l.length c10) (.slice A11 ends.length c11) l ends) :=
      Lib.hid ⟨HR6.out.next hb7, Kd.R_below HAll6.out hb7, h10, h11, below_then HB6.out HB6.out.size hb7⟩
    have HT0 : Hid (toldF b L n 6 (-1) = (l, ends, (px, er))) := Lib.hid (by rw [← HTo.out, hto])
    rw [hto]
    obtain ⟨m4, hm4⟩ : ∃ m4 : Nat, m4 = (more % 4).toNat := ⟨_, rfl⟩
    have em : more % 4 = (m4 : Int) := by omega
    have hm4b : m4 < 4 := by omega
    clear hr10 hr11 h10 h11 hb7 HB6 HTd HR6 HAll6 hto HTo hm4
    obtain ⟨s4, hs4⟩ : ∃ s4 : Nat, s4 = l.length + m4 := ⟨_, rfl⟩
    have ea : (l.length : Int) + (m4 : Int) = (s4 : Int) := by omega
    obtain ⟨T, hT⟩ : ∃ T : Nat, T = s4 + 1 := ⟨_, rfl⟩
    have eb : (s4 : Int) + 1 = (T : Int) := by omega
    have hTb : T ≤ 4200 ∧ l.length < T := by omega
    have hsb : s4 ≤ 4200 := by omega
    have HLE := Lib.hid hle
    clear hs4 hT hle
    go_wp2
    go_loopg [17, 18] (T + 1) (fun k v17 v18 W => ∃ (i : Nat) (r : RdS), v17 = .int .i64 (r.at_ : Int) ∧ v18 = .int .i64 (i : Int) ∧ i + k = T + 1 ∧ i ≤ T ∧ Hid (RsSt w W g2 (some g0) cap b n r (.slice (some g0) (b.length + 4) cap) (.slice A10 l.length c10) (.slice A11 ends.length c11) l ends) ∧ r.at_ ≤ b.length ∧ r.left ≤ n ∧ Hid ((i ≤ l.length ∧ r.e = 0 ∧ toldF b L r.left r.at_ r.last = (l.drop i, ends.drop i, (px, er))) ∨ (l.length < i ∧ nextS b L r = ((en0, false, er), r))))
    case atStart => exact ⟨0, ⟨6, -1, n, 0, 0⟩, rfl, rfl, by omega, Nat.zero_le _, St0, h6, Nat.le_refl _, Lib.hid (.inl ⟨Nat.zero_le _, rfl, HT0.out⟩)⟩
    case round =>
      obtain ⟨i, r, rfl, rfl, hi, hil, St, hat, hlf, HT⟩ := hrel
      obtain ⟨at_, hatv⟩ : ∃ at_, at_ = r.at_ := ⟨_, rfl⟩
      rw [← hatv] at hat ⊢
      have HAT := Lib.hid hatv
      clear hatv St0 HT0
      by_cases hlt : i < T
      · have g1 : decide ((i : Int) < (T : Int)) = true := decide_eq_true (by exact_mod_cast hlt)
        have HLo := Lib.hid (locals_c g2 (some g0) cap b n r wr St.out.rd)
        have HCo := Lib.hid (fun W (hb : Below wr.heap.size wr W) => count_c g2 (some g0) cap b n r W (St.out.rd.next hb))
        have HA := Lib.hid (fun W (hb : Below wr.heap.size wr W) => at_c g2 (some g0) cap b n r W (St.out.rd.next hb))
        have HNx := Lib.hid (fun W (hb : Below wr.heap.size wr W) => next_c g2 (some g0) cap b n r W (St.out.rd.next hb) (by omega))
        rw [← HLg.out] at HLo
        rw [← HAT.out] at HA
        obtain ⟨k, rfl⟩ : ∃ k, gk = k + 1 := ⟨gk - 1, by omega⟩
        go_upto_region 15 with (first | (go_at_call 21; refine HLo.out.mono ?_; rintro e w8 ⟨rfl, hb8⟩) | (go_at_call 22; refine (HCo.out _ hb8).mono ?_; rintro e w9 ⟨rfl, hb9⟩) | (go_at_call 23; refine (HA.out _ (below_then hb8 hb8.size hb9)).mono ?_; rintro e wa ⟨rfl, hba⟩))
        have hba' := below_then (below_then hb8 hb8.size hb9) (Nat.le_trans hb8.size hb9.size) hba
        have StA := Lib.hid (St.out.next hba')
        have HN := Lib.hid (HNx.out wa hba')
        clear hb8 hb9 hba hba' HLo HCo HA HNx St
        by_cases hi2 : i < l.length
        · have g2' : decide ((i : Int) < (l.length : Int)) = true := decide_eq_true (by omega)
          have g3' : decide ((i : Int) < (ends.length : Int)) = true := decide_eq_true (by have := HLE.out; omega)
          have hi3 : i < ends.length := by have := HLE.out; omega
          have htl := HT.out
          rcases htl with ⟨_, he, htf⟩ | ⟨h1, _⟩
          case inr => omega
          rw [List.drop_eq_getElem_cons hi2] at htf
          obtain ⟨q, es', hes, hone, hnx1, htl⟩ := told_more b L r _ _ _ _ he htf
          rw [List.drop_eq_getElem_cons hi3] at hes
          obtain ⟨hq1, hes1⟩ := List.cons.inj hes
          have hnext := oneS_next b L r.at_ r.last _ q hL.1 HB.out.y hone
          have hqb := hnext.2.1
          have hwf := hnext.2.2
          have hgx : l.getD i en0 = l[i] := by rw [List.getD_eq_getElem?_getD, List.getElem?_eq_getElem hi2]; rfl
          obtain ⟨x, hx⟩ : ∃ x, x = l[i] := ⟨_, rfl⟩
          rw [← hx] at hnx1 htl hwf hgx
          have HE : Hid (∀ e w', NxPost wa g2 (some g0) cap b n r e w' → e = .returned (.tuple #[.agg (enC x).toArray, .bool true, .int .i64 0]) ∧ Nx wa g2 w' (rdC (some g0) cap b n { r with at_ := q, last := x.at_, left := r.left - 1 })) := Lib.hid (fun e w' he => by
            unfold NxPost at he
            rw [← HLg.out, hnx1] at he
            exact he)
          have HW := Lib.hid hwf
          have HTn : Hid (toldF b L (r.left - 1) q x.at_ = (l.drop (i + 1), ends.drop (i + 1), (px, er))) := Lib.hid (by rw [htl, ← hes1])
          have HQ1 := Lib.hid hq1
          have HGX := Lib.hid hgx
          have HE0 := Lib.hid he
          clear hes hq1 hes1 hone hnext hnx1 htl htf he hwf hx hgx HT
          go_upto_region 17 with (first | (go_at_call 20; refine HN.out.mono ?_; intro e w8 he; obtain ⟨rfl, hnx⟩ := HE.out e w8 he; clear he; have HNX := Lib.hid hnx; clear hnx) | ((with_reducible refine gate_dst (N := 19) rfl ?_); refine wpList_alloc_box rfl rfl ?_; intro W6 hW6 hbe6 hs6) | ((with_reducible refine gate_store (t := 44) (p := 19) rfl ?_); refine wpList_store_box rfl (.tmp 19) (.tmp 88) rfl w8.heap.size hW6 fr0_wf x HW.out rfl rfl ?_; intro W7 hW7 ho7))
          have St7 : RsSt w W7 g2 (some g0) cap b n { r with at_ := q, last := x.at_, left := r.left - 1 } (.slice (some g0) (b.length + 4) cap) (.slice A10 l.length c10) (.slice A11 ends.length c11) l ends := (StA.out.after HG2.out HNX.out hqb).next (below_only hbe6 ho7 (Nat.le_refl _))
          obtain ⟨k19, hk19⟩ : ∃ k19, k19 = w8.heap.size := ⟨_, rfl⟩
          rw [← hk19] at hW7 ⊢
          have hb19 : Rng W7.drew ⟨k19, 0, none⟩ (enC x) := rng_of (range_blk hW7)
          obtain ⟨ad10, rfl, _, hr10⟩ := at_en (Kd.R_reads' St7.r10).2.2 i hi2
          rw [HGX.out] at hr10
          have hr10' : Rng W7.drew (ad10.add (i * 28)) (enC x) := hr10
          obtain ⟨ad11, cs11, rfl, _, hK11, hc11'⟩ := Kd.C_get (Kd.R_reads' St7.r11).2.2 (0 : Int) (i : Int) (by omega) (by omega)
          have hx11 : W7.cell? (ad11.add i) = some (.int .i64 (q : Int)) := by
            simp only [Int.toNat_natCast] at hK11 hc11'
            have hK' : cs11 = [.int .i64 (ends.getD i 0)] := hK11
            subst hK'
            have h0 := hc11' 0 _ rfl
            have hs : i * (Kd.int .i64).sz + 0 = i := Nat.mul_one i
            rw [hs, List.getD_eq_getElem?_getD, List.getElem?_eq_getElem hi3, Option.getD_some, HQ1.out] at h0
            exact h0
          have HS7 := Lib.hid St7
          clear hc11' hK11 hk19 hW7 ho7 hW6 hbe6 hs6 hr10 St7
          refine start_ (n := 14) (S := fun W => Rng W ⟨k19, 0, none⟩ (enC x) ∧ Rng W (ad10.add (i * 28)) (enC x)) (ds := []) #[false, false, false, false, false, false, false, false, false, false, false, false, false, false] (by kernel_rfl) rfl rfl ⟨hb19, hr10'⟩ (fun hHeld => ?_)
          refine pure_ (i := 1) (N := some 96) (v := ?_) (a' := ?_) #[false, true, false, false, false, false, false, false, false, false, false, false, false, false] rfl rfl (by kernel_rfl) (fun _ _ _ h => h) (Or.inl ⟨by rfl, ?_⟩) ?_ ?_
          rotate_left
          · intro w_
            go_simp
            with_reducible rfl
          rotate_left
          · simp only [Act.put, List.setIfInBounds_toArray, List.set_cons_zero, List.set_cons_succ]
            rfl
          refine pure_ (i := 2) (N := some 97) (v := ?_) (a' := ?_) #[false, true, true, false, false, false, false, false, false, false, false, false, false, false] rfl rfl (by kernel_rfl) (fun _ _ _ h => h) (Or.inl ⟨by rfl, ?_⟩) ?_ ?_
          rotate_left
          · intro w_
            go_simp
            with_reducible rfl
          rotate_left
          · simp only [Act.put, List.setIfInBounds_toArray, List.set_cons_zero, List.set_cons_succ]
            rfl
          refine pure_ (i := 3) (N := some 98) (v := ?_) (a' := ?_) #[false, true, true, true, false, false, false, false, false, false, false, false, false, false] rfl rfl (by kernel_rfl) (fun _ _ _ h => h) (Or.inl ⟨by rfl, ?_⟩) ?_ ?_
          rotate_left
          · intro w_
            go_simp
            with_reducible rfl
          rotate_left
          · simp only [Act.put, List.setIfInBounds_toArray, List.set_cons_zero, List.set_cons_succ]
            rfl
          refine take_ (i := 0) (N := some 95) (v := ?_) (a' := ?_) #[true, true, true, true, false, false, false, false, false, false, false, false, false, false] rfl rfl (by kernel_rfl) (fun _ _ _ h => h) (Or.inl ⟨by rfl, ?_⟩) hHeld ?_ ?_
          rotate_left
          · intro w_ hS_
            refine exec_load_any (ty := 44) (x := .tmp 19) (p := ⟨k19, 0, none⟩) (cs := enC x) ?_ ?_ hS_.1 Try.underlying44 rfl (by rw [enC_len HW.out]; kernel_rfl)
            · rfl
            · rfl
          rotate_left
          · simp only [Act.put, List.setIfInBounds_toArray, List.set_cons_zero, List.set_cons_succ]
            rfl
          refine take_ (i := 4) (N := some 99) (v := ?_) (a' := ?_) #[true, true, true, true, true, false, false, false, false, false, false, false, false, false] rfl rfl (by kernel_rfl) (fun _ _ _ h => h) (Or.inl ⟨by rfl, ?_⟩) hHeld ?_ ?_
          rotate_left
          · intro w_ hS_
            refine exec_load_any (ty := 44) (x := .tmp 98) (p := ad10.add (i * 28)) (cs := enC x) ?_ ?_ hS_.2 Try.underlying44 rfl (by rw [enC_len HW.out]; kernel_rfl)
            · rfl
            · rfl
          rotate_left
          · simp only [Act.put, List.setIfInBounds_toArray, List.set_cons_zero, List.set_cons_succ]
            rfl
          refine pure_ (i := 5) (N := some 100) (v := ?_) (a' := ?_) #[true, true, true, true, true, true, false, false, false, false, false, false, false, false] rfl rfl (by kernel_rfl) (fun _ _ _ h => h) (Or.inl ⟨by rfl, ?_⟩) ?_ ?_
          rotate_left
          · intro w_
            refine (run_neq44 (x := .tmp 95) (y := .tmp 99) (f := x) (g := x) ?_ ?_ ?_ HW.out HW.out w_).trans ?_
            · rfl
            · rfl
            · rfl
            · rw [eqE_self]
          rotate_left
          · simp only [Act.put, List.setIfInBounds_toArray, List.set_cons_zero, List.set_cons_succ]
            rfl
          refine pure_ (i := 6) (N := some 101) (v := ?_) (a' := ?_) #[true, true, true, true, true, true, true, false, false, false, false, false, false, false] rfl rfl (by kernel_rfl) (fun _ _ _ h => h) (Or.inl ⟨by rfl, ?_⟩) ?_ ?_
          rotate_left
          · intro w_
            go_simp
            with_reducible rfl
          rotate_left
          · simp only [Act.put, List.setIfInBounds_toArray, List.set_cons_zero, List.set_cons_succ]
            rfl
          refine pure_ (i := 7) (N := some 102) (v := ?_) (a' := ?_) #[true, true, true, true, true, true, true, true, false, false, false, false, false, false] rfl rfl (by kernel_rfl) (fun _ _ _ h => h) (Or.inl ⟨by rfl, ?_⟩) ?_ ?_
          rotate_left
          · intro w_
            go_simp
            with_reducible rfl
          rotate_left
          · simp only [Act.put, List.setIfInBounds_toArray, List.set_cons_zero, List.set_cons_succ]
            rfl
          refine pure_ (i := 8) (N := some 103) (v := ?_) (a' := ?_) #[true, true, true, true, true, true, true, true, true, false, false, false, false, false] rfl rfl (by kernel_rfl) (fun _ _ _ h => h) (Or.inl ⟨by rfl, ?_⟩) ?_ ?_
          rotate_left
          · intro w_
            go_simp
            with_reducible rfl
          rotate_left
          · simp only [Act.put, List.setIfInBounds_toArray, List.set_cons_zero, List.set_cons_succ]
            rfl
          refine pure_ (i := 9) (N := some 104) (v := ?_) (a' := ?_) #[true, true, true, true, true, true, true, true, true, true, false, false, false, false] rfl rfl (by kernel_rfl) (fun _ _ _ h => h) (Or.inl ⟨by rfl, ?_⟩) ?_ ?_
          rotate_left
          · intro w_
            go_simp
            with_reducible rfl
          rotate_left
          · simp only [Act.put, List.setIfInBounds_toArray, List.set_cons_zero, List.set_cons_succ]
            rfl
          refine pure_ (i := 10) (N := some 105) (v := ?_) (a' := ?_) #[true, true, true, true, true, true, true, true, true, true, true, false, false, false] rfl rfl (by kernel_rfl) (fun _ _ _ h => h) (Or.inl ⟨by rfl, ?_⟩) ?_ ?_
          rotate_left
          · intro w_
            go_simp
            with_reducible rfl
          rotate_left
          · simp only [Act.put, List.setIfInBounds_toArray, List.set_cons_zero, List.set_cons_succ]
            rfl
          refine pure_ (i := 11) (N := some 106) (v := ?_) (a' := ?_) #[true, true, true, true, true, true, true, true, true, true, true, true, false, false] rfl rfl (by kernel_rfl) (fun _ _ _ h => h) (Or.inl ⟨by rfl, ?_⟩) ?_ ?_
          rotate_left
          · intro w_
            go_simp
            with_reducible rfl
          rotate_left
          · simp only [Act.put, List.setIfInBounds_toArray, List.set_cons_zero, List.set_cons_succ]
            rfl
          refine pure_ (i := 12) (N := some 107) (v := ?_) (a' := ?_) #[true, true, true, true, true, true, true, true, true, true, true, true, true, false] rfl rfl (by kernel_rfl) (fun _ _ _ h => h) (Or.inl ⟨by rfl, ?_⟩) ?_ ?_
          rotate_left
          · intro w_
            go_simp
            with_reducible rfl
          rotate_left
          · simp only [Act.put, List.setIfInBounds_toArray, List.set_cons_zero, List.set_cons_succ]
            rfl
          refine pure_ (i := 13) (N := some 108) (v := ?_) (a' := ?_) #[true, true, true, true, true, true, true, true, true, true, true, true, true, true] rfl rfl (by kernel_rfl) (fun _ _ _ h => h) (Or.inl ⟨by rfl, ?_⟩) ?_ ?_
          rotate_left
          · intro w_
            go_simp
            with_reducible rfl
          rotate_left
          · simp only [Act.put, List.setIfInBounds_toArray, List.set_cons_zero, List.set_cons_succ]
            rfl
          refine done_ (by kernel_rfl) ?_
          clear hHeld hb19 hr10'
          go_wp2
          go_roundg k
          case measure => omega
          case rel => exact ⟨i + 1, { r with at_ := q, last := x.at_, left := r.left - 1 }, rfl, by simp, by omega, by omega, Lib.hid (HS7.out.next (pw_below_drewN (Below.refl _ _) 1)), hqb, Nat.le_trans (Nat.sub_le _ _) hlf, Lib.hid (.inl ⟨by omega, HE0.out, HTn.out⟩)⟩
        · have g2' : decide ((i : Int) < (l.length : Int)) = false := decide_eq_false (by omega)
          obtain ⟨r', hn1, hn2, hn3, hn4⟩ : ∃ r', nextS b L r = ((en0, false, er), r') ∧ r'.at_ = r.at_ ∧ r'.left = r.left ∧ nextS b L r' = ((en0, false, er), r') := by
            rcases HT.out with ⟨h1, h2, h3⟩ | ⟨h1, h2⟩
            · have : i = l.length := by omega
              subst this
              rw [List.drop_length] at h3
              exact told_end b L r _ _ h2 h3
            · exact ⟨r, h2, rfl, rfl, h2⟩
          have HE : Hid (∀ e w', NxPost wa g2 (some g0) cap b n r e w' → e = .returned (.tuple #[.agg (enC en0).toArray, .bool false, .int .i64 er]) ∧ Nx wa g2 w' (rdC (some g0) cap b n r')) := Lib.hid (fun e w' he => by
            unfold NxPost at he
            rw [← HLg.out, hn1] at he
            exact he)
          have HN2 := Lib.hid (And.intro hn2 (And.intro hn3 hn4))
          clear hn1 hn2 hn3 hn4 HT
          go_wp2_with (first | (go_at_call 20; refine HN.out.mono ?_; intro e w8 he; obtain ⟨rfl, hnx⟩ := HE.out e w8 he; clear he; have HNX := Lib.hid hnx; clear hnx) | ((with_reducible refine gate_dst (N := 19) rfl ?_); refine wpList_alloc_box rfl rfl ?_; intro W6 hW6 hbe6 hs6) | ((with_reducible refine gate_store (t := 44) (p := 19) rfl ?_); refine wpList_store_box rfl (.tmp 19) (.tmp 88) rfl w8.heap.size hW6 fr0_wf en0 fr0_wf rfl rfl ?_; intro W7 hW7 ho7; have HB7 := Lib.hid (rng_of (range_blk hW7)); clear hW7 hW6) | ((with_reducible refine gate_dst (N := 113) rfl ?_); refine wpList_load_any rfl 44 (.tmp 19) rfl ⟨w8.heap.size, 0, none⟩ rfl (enC en0) _ HB7.out Try.underlying44 rfl (by rw [enC_len fr0_wf]; kernel_rfl) ?_) | ((with_reducible refine gate_dst (N := 115) rfl ?_); refine Kd.event_run rfl (run_neq44 (f := en0) (g := en0) rfl rfl rfl fr0_wf fr0_wf _) ?_; rw [show eqE en0 en0 = true by kernel_rfl]))
          go_roundg k
          case measure => omega
          case rel =>
            have hr' : r'.at_ = at_ := by rw [HN2.out.1, HAT.out]
            exact ⟨i + 1, r', by rw [hr'], by simp, by omega, by omega, Lib.hid ((StA.out.after HG2.out HNX.out (by rw [hr']; exact hat)).next (below_only hbe6 ho7 (Nat.le_refl _))), by rw [hr']; exact hat, by rw [HN2.out.2.1]; exact hlf, Lib.hid (.inr ⟨by omega, HN2.out.2.2⟩)⟩
      · have g1 : decide ((i : Int) < (T : Int)) = false := decide_eq_false (by omega)
        have HA := Lib.hid (at_c g2 (some g0) cap b n r wr St.out.rd)
        rw [← HAT.out] at HA
        have HU := Lib.hid (fun W (hb : Below wr.heap.size wr W) => PCertReads.provisoplain_Untouched.calls (b.length + 1) (some g0) cap (b ++ [165, 90, 195, 60]) A c b true W (Kd.C_below (Kd.R_reads' St.out.all).2.2 hb) (by simp; exact HCap.out) (Kd.C_below (HB.out.next St.out.below).r hb) HB.out.c (untouched_is b hl48))
        have E4 : Hid ((b ++ ([165, 90, 195, 60] : List Int)).length = b.length + 4) := Lib.hid (by simp)
        rw [E4.out] at HU
        go_wp2_with (first | (go_at_call 23; refine HA.out.mono ?_; rintro e w8 ⟨rfl, hb8⟩) | (go_at_call 29; refine (HU.out _ hb8).mono ?_; rintro e w9 ⟨rfl, ⟨⟨n9, rfl⟩⟩⟩))
        go_ret
        exact ⟨by first | rfl | simp, pw_below_drewN (below_then St.out.below St.out.below.size hb8) _⟩
end Go.Proofs.Ytfbdnfokoakfaaa.Ct
