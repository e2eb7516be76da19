/- All tokens of a text, as a plain function; the reference answers it. -/
import Derived.Test.YthaejpkldpkddaaRefTok
import Derived.Test.YthaejpkldpkddaaPLexScansx8
namespace Go.Proofs.Ythaejpkldpkddaa.Scn
open Go.RowKit Go.Proofs.YthaejpkldpkddaaW.PrintWords Go.Proofs.YthaejpkldpkddaaW.PrintLast Go.Proofs.YthaejpkldpkddaaW.PrintMore
set_option linter.unusedVariables false
set_option linter.unusedSimpArgs false

/-- The tokens from p on (no blank stands there), behind l; or where it gives up, and why. -/
def scanF (s : ByteArray) : Nat → Nat → List Tok → Except (Nat × Int) (List Tok)
  | 0, _, l => .ok l
  | f + 1, p, l => if p < s.size then (if 16384 ≤ l.length then .error (p, 4) else match tokAt s p with
      | .error e => .error (p, e)
      | .ok t => scanF s f (blankV s t.f2.toNat) (l ++ [t])) else .ok l
def scanV (s : ByteArray) : Except (Nat × Int) (List Tok) := if 65536 < s.size then .error (0, 4) else scanF s (s.size + 1) (blankV s 0) []

def scanT (r : Except (Nat × Int) (List Tok)) : List Tok × Int × Int := match r with | .ok l => (l, 0, 0) | .error x => ([], (x.1 : Int), x.2)

theorem tokAt_err (s : ByteArray) (p : Nat) (e : Int) (h : tokAt s p = .error e) : e ≠ 0 := by
  unfold tokAt wordAt numAt markAt at h
  repeat (first | (split at h) | (cases h; decide) | cases h)

theorem ref_scan_loop (s : ByteArray) (hs : s.size ≤ 65536) : ∀ (f p k : Nat) (l : List Tok), p ≤ s.size → s.size < p + f → f + 8 * s.size + 200 < k → l.length ≤ 65536 →
    PLexScans.provisoref10_Scan.l0 k s l (p : Int) = some (scanT (scanF s f p l)) := by
  intro f
  induction f with
  | zero => intro p k l hp hf; omega
  | succ f ih =>
    intro p k l hp hf hk hl
    obtain ⟨k, rfl⟩ : ∃ m, k = m + 1 := ⟨k - 1, by omega⟩
    rw [PLexScans.provisoref10_Scan.l0, scanF]
    by_cases h1 : p < s.size
    · rw [if_pos (by omega), if_pos h1]
      by_cases h2 : 16384 ≤ l.length
      · rw [if_pos (by omega), if_pos h2]; rfl
      · rw [if_neg (by omega), if_neg h2, ref_one s hs p h1 k (by omega), Option.bind_some]
        cases ht : tokAt s p with
        | error e =>
          have := tokAt_err s p e ht
          exact (if_neg (show ¬ (oneV (Except.error e)).2.2.2.2.2 = 0 from this)).trans rfl
        | ok t =>
          obtain ⟨e1, q, e2, hq1, hq2⟩ := tokAt_span s p h1 t ht
          obtain ⟨b1, b2⟩ := blankV_le s q hq2
          have hI := ih (blankV s q) k (l ++ [t]) b2 (by omega) (by omega) (by rw [List.length_append, List.length_singleton]; omega)
          refine (if_pos (show (oneV (Except.ok t)).2.2.2.2.2 = 0 from rfl)).trans ?_
          refine (if_pos (show l.length < 2932031007402 by omega)).trans ?_
          have hB := ref_blank_v s hs q k hq2 (by omega)
          rw [← e2] at hB
          rw [show (oneV (Except.ok t)).2.2.1 = t.f2 from rfl, hB, Option.bind_some]
          have e3 : t.f2.toNat = q := by omega
          rw [← e3] at hI ⊢
          exact hI
    · rw [if_neg (by omega), if_neg h1]; rfl

theorem ref_scan (s : ByteArray) : PLexScans.provisoref10_Scan.f (9 * s.size + 1000) s = some (scanT (scanV s)) := by
  unfold PLexScans.provisoref10_Scan.f scanV
  by_cases h : 65536 < s.size
  · rw [if_pos (by omega), if_pos h]; rfl
  · have hb := blankV_le s 0 (by omega)
    have hr := ref_blank_v s (by omega) 0 (9 * s.size + 1000) (by omega) (by omega)
    rw [show ((0 : Nat) : Int) = 0 from rfl] at hr
    rw [if_neg (by omega), if_neg h, hr, Option.bind_some]
    exact ref_scan_loop s (by omega) (s.size + 1) (blankV s 0) _ [] hb.2 (by omega) (by omega) (by simp)

end Go.Proofs.Ythaejpkldpkddaa.Scn
