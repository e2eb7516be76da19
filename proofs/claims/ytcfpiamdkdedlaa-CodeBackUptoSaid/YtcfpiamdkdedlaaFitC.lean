/- provisolaw04.fit: an instruction that may be; nothing that was there turns. -/
import Derived.Test.YtcfpiamdkdedlaaSpecB
import Derived.Test.YtcfpiamdkdedlaaPCodePatchesx0
import Derived.Laws.Bits128
import Derived.Lib.Hide
namespace Go.Proofs.Ytcfpiamdkdedlaa.FitC
open Go.RowKit Go.Proofs.YtcfpiamdkdedlaaW.PrintWords Go.Proofs.YtcfpiamdkdedlaaW.PrintLast Go.Proofs.YtcfpiamdkdedlaaW.PrintMore Go.Proofs.Ytcfpiamdkdedlaa.Spec
set_option linter.unusedVariables false
theorem drewN_set (w : World) (n : Nat) (a : Addr) (v : Value) : (w.drewN n).setCell a v = (w.setCell a v).drewN n := by
  unfold World.drewN World.setCell
  split <;> rfl
theorem drewN_new (w : World) (n : Nat) (o : Obj) : (w.drewN n).alloc o = (w.alloc o).drewN n := rfl
theorem and255 (n : Int) : bits .and .i64 n 255 = n % 256 := by
  have h255 : (BitVec.ofInt 64 255).toNat = 2 ^ 8 - 1 := by decide
  have key : (BitVec.ofInt 64 n &&& BitVec.ofInt 64 255).toNat = (n % ((2 ^ 64 : Nat) : Int)).toNat % 2 ^ 8 := by
    rw [BitVec.toNat_and, BitVec.toNat_ofInt, h255, Nat.and_two_pow_sub_one_eq_mod]
  show IntKind.i64.wrap ((BitVec.ofInt 64 n &&& BitVec.ofInt 64 255).toNat : Nat) = n % 256
  rw [key, IntKind.wrap_i64]
  omega
theorem and1 (n : Int) : bits .and .i64 n 1 = n % 2 := by
  have h1 : (BitVec.ofInt 64 1).toNat = 2 ^ 1 - 1 := by decide
  have key : (BitVec.ofInt 64 n &&& BitVec.ofInt 64 1).toNat = (n % ((2 ^ 64 : Nat) : Int)).toNat % 2 ^ 1 := by
    rw [BitVec.toNat_and, BitVec.toNat_ofInt, h1, Nat.and_two_pow_sub_one_eq_mod]
  show IntKind.i64.wrap ((BitVec.ofInt 64 n &&& BitVec.ofInt 64 1).toNat : Nat) = n % 2
  rw [key, IntKind.wrap_i64]
  omega
attribute [local go_sem] drewN_set drewN_new and255 and1

/-- What fit makes of the operands. -/
def fitX (q A B : Int) : Int :=
  if q = 1 then wrap64 (wrap32 (wrap64 (wrap64 (wrap64 (wrap64 (A % 256 * (A % 256)) * (A % 256)) * (A % 256)) - wrap64 (wrap64 (B % 256 * (B % 256)) * (B % 256)))))
  else if q = 2 then A % 256 % 2
  else if q = 19 ∨ q = 20 then 256 * (A % 256) + B % 256
  else if q = 24 ∨ q = 25 ∨ q = 4 ∨ q = 5 ∨ q = 21 ∨ q = 23 ∨ q = 30 ∨ q = 31 ∨ q = 32 then A % 256 else 0
def fitY (q B : Int) : Int := if q = 24 ∨ q = 25 then B % 256 else 0

def FitPost (q A B : Int) (w : World) (e : Ending) (w' : World) : Prop :=
  e = .returned (.agg #[.int .i64 0, .int .u8 q, .int .i64 (fitX q A B), .int .i64 (fitY q B)]) ∧ Below w.heap.size w w'

theorem fi (X : Int) : fitS 1 (wrap64 (wrap32 X)) (wA 1) = true := by
  have e : wA 1 = 4 := by decide
  rw [e]
  unfold fitS wrap64 wrap32
  simp
  omega
theorem g_1 : fitS 1 0 (wB 1) = true := by decide
theorem f_2 {x : Int} (h0 : 0 ≤ x) (h1 : x ≤ 1) : fitS 2 x (wA 2) = true := by
  have e : wA 2 = 1 := by decide
  rw [e]; simp [fitS]; omega
theorem g_2 : fitS 2 0 (wB 2) = true := by decide
theorem f_19 {x : Int} (h0 : 0 ≤ x) (h1 : x ≤ 65535) : fitS 19 x (wA 19) = true := by
  have e : wA 19 = 2 := by decide
  rw [e]; simp [fitS]; omega
theorem g_19 : fitS 19 0 (wB 19) = true := by decide
theorem f_20 {x : Int} (h0 : 0 ≤ x) (h1 : x ≤ 65535) : fitS 20 x (wA 20) = true := by
  have e : wA 20 = 2 := by decide
  rw [e]; simp [fitS]; omega
theorem g_20 : fitS 20 0 (wB 20) = true := by decide
theorem f_24 {x : Int} (h0 : 0 ≤ x) (h1 : x ≤ 255) : fitS 24 x (wA 24) = true := by
  have e : wA 24 = 1 := by decide
  rw [e]; simp [fitS]; omega
theorem g_24 {x : Int} (h0 : 0 ≤ x) (h1 : x ≤ 255) : fitS 24 x (wB 24) = true := by
  have e : wB 24 = 1 := by decide
  rw [e]; simp [fitS]; omega
theorem f_25 {x : Int} (h0 : 0 ≤ x) (h1 : x ≤ 255) : fitS 25 x (wA 25) = true := by
  have e : wA 25 = 1 := by decide
  rw [e]; simp [fitS]; omega
theorem g_25 {x : Int} (h0 : 0 ≤ x) (h1 : x ≤ 255) : fitS 25 x (wB 25) = true := by
  have e : wB 25 = 1 := by decide
  rw [e]; simp [fitS]; omega
theorem f_4 {x : Int} (h0 : 0 ≤ x) (h1 : x ≤ 255) : fitS 4 x (wA 4) = true := by
  have e : wA 4 = 1 := by decide
  rw [e]; simp [fitS]; omega
theorem g_4 : fitS 4 0 (wB 4) = true := by decide
theorem f_5 {x : Int} (h0 : 0 ≤ x) (h1 : x ≤ 255) : fitS 5 x (wA 5) = true := by
  have e : wA 5 = 1 := by decide
  rw [e]; simp [fitS]; omega
theorem g_5 : fitS 5 0 (wB 5) = true := by decide
theorem f_21 {x : Int} (h0 : 0 ≤ x) (h1 : x ≤ 255) : fitS 21 x (wA 21) = true := by
  have e : wA 21 = 1 := by decide
  rw [e]; simp [fitS]; omega
theorem g_21 : fitS 21 0 (wB 21) = true := by decide
theorem f_23 {x : Int} (h0 : 0 ≤ x) (h1 : x ≤ 255) : fitS 23 x (wA 23) = true := by
  have e : wA 23 = 1 := by decide
  rw [e]; simp [fitS]; omega
theorem g_23 : fitS 23 0 (wB 23) = true := by decide
theorem f_30 {x : Int} (h0 : 0 ≤ x) (h1 : x ≤ 255) : fitS 30 x (wA 30) = true := by
  have e : wA 30 = 1 := by decide
  rw [e]; simp [fitS]; omega
theorem g_30 : fitS 30 0 (wB 30) = true := by decide
theorem f_31 {x : Int} (h0 : 0 ≤ x) (h1 : x ≤ 255) : fitS 31 x (wA 31) = true := by
  have e : wA 31 = 1 := by decide
  rw [e]; simp [fitS]; omega
theorem g_31 : fitS 31 0 (wB 31) = true := by decide
theorem f_32 {x : Int} (h0 : 0 ≤ x) (h1 : x ≤ 255) : fitS 32 x (wA 32) = true := by
  have e : wA 32 = 1 := by decide
  rw [e]; simp [fitS]; omega
theorem g_32 : fitS 32 0 (wB 32) = true := by decide

set_option maxHeartbeats 2000000 in
set_option maxRecDepth 100000 in
theorem fit_1 (a op A B q : Int) (w : World) (h0 : 0 ≤ op) (h1 : op ≤ 255) (hm : op % 34 = q) (x0 : (q == 1) = true) :
    Calls Try.prog 32 #[.agg #[.int .i64 a, .int .u8 op, .int .i64 A, .int .i64 B]] w (FitPost q A B w) := by
  go_enter Try.func32, Try.ntmps32
  go_wp2
  go_quiet (fail)
  go_wp2
  have eq : q = 1 := by simpa using x0
  have eX : fitX q A B = (wrap64 (wrap32 (wrap64 (wrap64 (wrap64 (wrap64 (A % 256 * (A % 256)) * (A % 256)) * (A % 256)) - wrap64 (wrap64 (B % 256 * (B % 256)) * (B % 256)))))) := by rw [eq]; simp [fitX]
  have eY : fitY q B = 0 := by rw [eq]; simp [fitY]
  exact bodyPost_ret (v := .agg #[.int .i64 0, .int .u8 q, .int .i64 (fitX q A B), .int .i64 (fitY q B)]) (by rw [eX, eY]; simp [results, Try.results32, go_sem]) rfl ⟨rfl, (by repeat (first | exact Below.refl _ _ | apply below_alloc | apply pw_below_drewN | apply below_drew | refine below_set ?_ (by simp; omega)))⟩

set_option maxHeartbeats 2000000 in
set_option maxRecDepth 100000 in
theorem fit_2 (a op A B q : Int) (w : World) (h0 : 0 ≤ op) (h1 : op ≤ 255) (hm : op % 34 = q) (x0 : (q == 1) = false) (x1 : (q == 2) = true) :
    Calls Try.prog 32 #[.agg #[.int .i64 a, .int .u8 op, .int .i64 A, .int .i64 B]] w (FitPost q A B w) := by
  go_enter Try.func32, Try.ntmps32
  go_wp2
  go_quiet (fail)
  go_wp2
  have eq : q = 2 := by simpa using x1
  have eX : fitX q A B = (A % 256 % 2) := by rw [eq]; simp [fitX]
  have eY : fitY q B = 0 := by rw [eq]; simp [fitY]
  exact bodyPost_ret (v := .agg #[.int .i64 0, .int .u8 q, .int .i64 (fitX q A B), .int .i64 (fitY q B)]) (by rw [eX, eY]; simp [results, Try.results32, go_sem]) rfl ⟨rfl, (by repeat (first | exact Below.refl _ _ | apply below_alloc | apply pw_below_drewN | apply below_drew | refine below_set ?_ (by simp; omega)))⟩

set_option maxHeartbeats 2000000 in
set_option maxRecDepth 100000 in
theorem fit_19 (a op A B q : Int) (w : World) (h0 : 0 ≤ op) (h1 : op ≤ 255) (hm : op % 34 = q) (x0 : (q == 1) = false) (x1 : (q == 2) = false) (x2 : (q == 19) = true) :
    Calls Try.prog 32 #[.agg #[.int .i64 a, .int .u8 op, .int .i64 A, .int .i64 B]] w (FitPost q A B w) := by
  go_enter Try.func32, Try.ntmps32
  go_wp2
  go_quiet (fail)
  go_wp2
  have eq : q = 19 := by simpa using x2
  have eX : fitX q A B = (256 * (A % 256) + B % 256) := by rw [eq]; simp [fitX]
  have eY : fitY q B = 0 := by rw [eq]; simp [fitY]
  exact bodyPost_ret (v := .agg #[.int .i64 0, .int .u8 q, .int .i64 (fitX q A B), .int .i64 (fitY q B)]) (by rw [eX, eY]; simp [results, Try.results32, go_sem]) rfl ⟨rfl, (by repeat (first | exact Below.refl _ _ | apply below_alloc | apply pw_below_drewN | apply below_drew | refine below_set ?_ (by simp; omega)))⟩

set_option maxHeartbeats 2000000 in
set_option maxRecDepth 100000 in
theorem fit_20 (a op A B q : Int) (w : World) (h0 : 0 ≤ op) (h1 : op ≤ 255) (hm : op % 34 = q) (x0 : (q == 1) = false) (x1 : (q == 2) = false) (x2 : (q == 19) = false) (x3 : (q == 20) = true) :
    Calls Try.prog 32 #[.agg #[.int .i64 a, .int .u8 op, .int .i64 A, .int .i64 B]] w (FitPost q A B w) := by
  go_enter Try.func32, Try.ntmps32
  go_wp2
  go_quiet (fail)
  go_wp2
  have eq : q = 20 := by simpa using x3
  have eX : fitX q A B = (256 * (A % 256) + B % 256) := by rw [eq]; simp [fitX]
  have eY : fitY q B = 0 := by rw [eq]; simp [fitY]
  exact bodyPost_ret (v := .agg #[.int .i64 0, .int .u8 q, .int .i64 (fitX q A B), .int .i64 (fitY q B)]) (by rw [eX, eY]; simp [results, Try.results32, go_sem]) rfl ⟨rfl, (by repeat (first | exact Below.refl _ _ | apply below_alloc | apply pw_below_drewN | apply below_drew | refine below_set ?_ (by simp; omega)))⟩

set_option maxHeartbeats 2000000 in
set_option maxRecDepth 100000 in
theorem fit_24 (a op A B q : Int) (w : World) (h0 : 0 ≤ op) (h1 : op ≤ 255) (hm : op % 34 = q) (x0 : (q == 1) = false) (x1 : (q == 2) = false) (x2 : (q == 19) = false) (x3 : (q == 20) = false) (x4 : (q == 24) = true) :
    Calls Try.prog 32 #[.agg #[.int .i64 a, .int .u8 op, .int .i64 A, .int .i64 B]] w (FitPost q A B w) := by
  go_enter Try.func32, Try.ntmps32
  go_wp2
  go_quiet (fail)
  go_wp2
  have eq : q = 24 := by simpa using x4
  have eX : fitX q A B = (A % 256) := by rw [eq]; simp [fitX]
  have eY : fitY q B = (B % 256) := by rw [eq]; simp [fitY]
  exact bodyPost_ret (v := .agg #[.int .i64 0, .int .u8 q, .int .i64 (fitX q A B), .int .i64 (fitY q B)]) (by rw [eX, eY]; simp [results, Try.results32, go_sem]) rfl ⟨rfl, (by repeat (first | exact Below.refl _ _ | apply below_alloc | apply pw_below_drewN | apply below_drew | refine below_set ?_ (by simp; omega)))⟩

set_option maxHeartbeats 2000000 in
set_option maxRecDepth 100000 in
theorem fit_25 (a op A B q : Int) (w : World) (h0 : 0 ≤ op) (h1 : op ≤ 255) (hm : op % 34 = q) (x0 : (q == 1) = false) (x1 : (q == 2) = false) (x2 : (q == 19) = false) (x3 : (q == 20) = false) (x4 : (q == 24) = false) (x5 : (q == 25) = true) :
    Calls Try.prog 32 #[.agg #[.int .i64 a, .int .u8 op, .int .i64 A, .int .i64 B]] w (FitPost q A B w) := by
  go_enter Try.func32, Try.ntmps32
  go_wp2
  go_quiet (fail)
  go_wp2
  have eq : q = 25 := by simpa using x5
  have eX : fitX q A B = (A % 256) := by rw [eq]; simp [fitX]
  have eY : fitY q B = (B % 256) := by rw [eq]; simp [fitY]
  exact bodyPost_ret (v := .agg #[.int .i64 0, .int .u8 q, .int .i64 (fitX q A B), .int .i64 (fitY q B)]) (by rw [eX, eY]; simp [results, Try.results32, go_sem]) rfl ⟨rfl, (by repeat (first | exact Below.refl _ _ | apply below_alloc | apply pw_below_drewN | apply below_drew | refine below_set ?_ (by simp; omega)))⟩

set_option maxHeartbeats 2000000 in
set_option maxRecDepth 100000 in
theorem fit_4 (a op A B q : Int) (w : World) (h0 : 0 ≤ op) (h1 : op ≤ 255) (hm : op % 34 = q) (x0 : (q == 1) = false) (x1 : (q == 2) = false) (x2 : (q == 19) = false) (x3 : (q == 20) = false) (x4 : (q == 24) = false) (x5 : (q == 25) = false) (x6 : (q == 4) = true) :
    Calls Try.prog 32 #[.agg #[.int .i64 a, .int .u8 op, .int .i64 A, .int .i64 B]] w (FitPost q A B w) := by
  go_enter Try.func32, Try.ntmps32
  go_wp2
  go_quiet (fail)
  go_wp2
  have eq : q = 4 := by simpa using x6
  have eX : fitX q A B = (A % 256) := by rw [eq]; simp [fitX]
  have eY : fitY q B = 0 := by rw [eq]; simp [fitY]
  exact bodyPost_ret (v := .agg #[.int .i64 0, .int .u8 q, .int .i64 (fitX q A B), .int .i64 (fitY q B)]) (by rw [eX, eY]; simp [results, Try.results32, go_sem]) rfl ⟨rfl, (by repeat (first | exact Below.refl _ _ | apply below_alloc | apply pw_below_drewN | apply below_drew | refine below_set ?_ (by simp; omega)))⟩

set_option maxHeartbeats 2000000 in
set_option maxRecDepth 100000 in
theorem fit_5 (a op A B q : Int) (w : World) (h0 : 0 ≤ op) (h1 : op ≤ 255) (hm : op % 34 = q) (x0 : (q == 1) = false) (x1 : (q == 2) = false) (x2 : (q == 19) = false) (x3 : (q == 20) = false) (x4 : (q == 24) = false) (x5 : (q == 25) = false) (x6 : (q == 4) = false) (x7 : (q == 5) = true) :
    Calls Try.prog 32 #[.agg #[.int .i64 a, .int .u8 op, .int .i64 A, .int .i64 B]] w (FitPost q A B w) := by
  go_enter Try.func32, Try.ntmps32
  go_wp2
  go_quiet (fail)
  go_wp2
  have eq : q = 5 := by simpa using x7
  have eX : fitX q A B = (A % 256) := by rw [eq]; simp [fitX]
  have eY : fitY q B = 0 := by rw [eq]; simp [fitY]
  exact bodyPost_ret (v := .agg #[.int .i64 0, .int .u8 q, .int .i64 (fitX q A B), .int .i64 (fitY q B)]) (by rw [eX, eY]; simp [results, Try.results32, go_sem]) rfl ⟨rfl, (by repeat (first | exact Below.refl _ _ | apply below_alloc | apply pw_below_drewN | apply below_drew | refine below_set ?_ (by simp; omega)))⟩

set_option maxHeartbeats 2000000 in
set_option maxRecDepth 100000 in
theorem fit_21 (a op A B q : Int) (w : World) (h0 : 0 ≤ op) (h1 : op ≤ 255) (hm : op % 34 = q) (x0 : (q == 1) = false) (x1 : (q == 2) = false) (x2 : (q == 19) = false) (x3 : (q == 20) = false) (x4 : (q == 24) = false) (x5 : (q == 25) = false) (x6 : (q == 4) = false) (x7 : (q == 5) = false) (x8 : (q == 21) = true) :
    Calls Try.prog 32 #[.agg #[.int .i64 a, .int .u8 op, .int .i64 A, .int .i64 B]] w (FitPost q A B w) := by
  go_enter Try.func32, Try.ntmps32
  go_wp2
  go_quiet (fail)
  go_wp2
  have eq : q = 21 := by simpa using x8
  have eX : fitX q A B = (A % 256) := by rw [eq]; simp [fitX]
  have eY : fitY q B = 0 := by rw [eq]; simp [fitY]
  exact bodyPost_ret (v := .agg #[.int .i64 0, .int .u8 q, .int .i64 (fitX q A B), .int .i64 (fitY q B)]) (by rw [eX, eY]; simp [results, Try.results32, go_sem]) rfl ⟨rfl, (by repeat (first | exact Below.refl _ _ | apply below_alloc | apply pw_below_drewN | apply below_drew | refine below_set ?_ (by simp; omega)))⟩

set_option maxHeartbeats 2000000 in
set_option maxRecDepth 100000 in
theorem fit_23 (a op A B q : Int) (w : World) (h0 : 0 ≤ op) (h1 : op ≤ 255) (hm : op % 34 = q) (x0 : (q == 1) = false) (x1 : (q == 2) = false) (x2 : (q == 19) = false) (x3 : (q == 20) = false) (x4 : (q == 24) = false) (x5 : (q == 25) = false) (x6 : (q == 4) = false) (x7 : (q == 5) = false) (x8 : (q == 21) = false) (x9 : (q == 23) = true) :
    Calls Try.prog 32 #[.agg #[.int .i64 a, .int .u8 op, .int .i64 A, .int .i64 B]] w (FitPost q A B w) := by
  go_enter Try.func32, Try.ntmps32
  go_wp2
  go_quiet (fail)
  go_wp2
  have eq : q = 23 := by simpa using x9
  have eX : fitX q A B = (A % 256) := by rw [eq]; simp [fitX]
  have eY : fitY q B = 0 := by rw [eq]; simp [fitY]
  exact bodyPost_ret (v := .agg #[.int .i64 0, .int .u8 q, .int .i64 (fitX q A B), .int .i64 (fitY q B)]) (by rw [eX, eY]; simp [results, Try.results32, go_sem]) rfl ⟨rfl, (by repeat (first | exact Below.refl _ _ | apply below_alloc | apply pw_below_drewN | apply below_drew | refine below_set ?_ (by simp; omega)))⟩

set_option maxHeartbeats 2000000 in
set_option maxRecDepth 100000 in
theorem fit_30 (a op A B q : Int) (w : World) (h0 : 0 ≤ op) (h1 : op ≤ 255) (hm : op % 34 = q) (x0 : (q == 1) = false) (x1 : (q == 2) = false) (x2 : (q == 19) = false) (x3 : (q == 20) = false) (x4 : (q == 24) = false) (x5 : (q == 25) = false) (x6 : (q == 4) = false) (x7 : (q == 5) = false) (x8 : (q == 21) = false) (x9 : (q == 23) = false) (x10 : (q == 30) = true) :
    Calls Try.prog 32 #[.agg #[.int .i64 a, .int .u8 op, .int .i64 A, .int .i64 B]] w (FitPost q A B w) := by
  go_enter Try.func32, Try.ntmps32
  go_wp2
  go_quiet (fail)
  go_wp2
  have eq : q = 30 := by simpa using x10
  have eX : fitX q A B = (A % 256) := by rw [eq]; simp [fitX]
  have eY : fitY q B = 0 := by rw [eq]; simp [fitY]
  exact bodyPost_ret (v := .agg #[.int .i64 0, .int .u8 q, .int .i64 (fitX q A B), .int .i64 (fitY q B)]) (by rw [eX, eY]; simp [results, Try.results32, go_sem]) rfl ⟨rfl, (by repeat (first | exact Below.refl _ _ | apply below_alloc | apply pw_below_drewN | apply below_drew | refine below_set ?_ (by simp; omega)))⟩

set_option maxHeartbeats 2000000 in
set_option maxRecDepth 100000 in
theorem fit_31 (a op A B q : Int) (w : World) (h0 : 0 ≤ op) (h1 : op ≤ 255) (hm : op % 34 = q) (x0 : (q == 1) = false) (x1 : (q == 2) = false) (x2 : (q == 19) = false) (x3 : (q == 20) = false) (x4 : (q == 24) = false) (x5 : (q == 25) = false) (x6 : (q == 4) = false) (x7 : (q == 5) = false) (x8 : (q == 21) = false) (x9 : (q == 23) = false) (x10 : (q == 30) = false) (x11 : (q == 31) = true) :
    Calls Try.prog 32 #[.agg #[.int .i64 a, .int .u8 op, .int .i64 A, .int .i64 B]] w (FitPost q A B w) := by
  go_enter Try.func32, Try.ntmps32
  go_wp2
  go_quiet (fail)
  go_wp2
  have eq : q = 31 := by simpa using x11
  have eX : fitX q A B = (A % 256) := by rw [eq]; simp [fitX]
  have eY : fitY q B = 0 := by rw [eq]; simp [fitY]
  exact bodyPost_ret (v := .agg #[.int .i64 0, .int .u8 q, .int .i64 (fitX q A B), .int .i64 (fitY q B)]) (by rw [eX, eY]; simp [results, Try.results32, go_sem]) rfl ⟨rfl, (by repeat (first | exact Below.refl _ _ | apply below_alloc | apply pw_below_drewN | apply below_drew | refine below_set ?_ (by simp; omega)))⟩

set_option maxHeartbeats 2000000 in
set_option maxRecDepth 100000 in
theorem fit_32 (a op A B q : Int) (w : World) (h0 : 0 ≤ op) (h1 : op ≤ 255) (hm : op % 34 = q) (x0 : (q == 1) = false) (x1 : (q == 2) = false) (x2 : (q == 19) = false) (x3 : (q == 20) = false) (x4 : (q == 24) = false) (x5 : (q == 25) = false) (x6 : (q == 4) = false) (x7 : (q == 5) = false) (x8 : (q == 21) = false) (x9 : (q == 23) = false) (x10 : (q == 30) = false) (x11 : (q == 31) = false) (x12 : (q == 32) = true) :
    Calls Try.prog 32 #[.agg #[.int .i64 a, .int .u8 op, .int .i64 A, .int .i64 B]] w (FitPost q A B w) := by
  go_enter Try.func32, Try.ntmps32
  go_wp2
  go_quiet (fail)
  go_wp2
  have eq : q = 32 := by simpa using x12
  have eX : fitX q A B = (A % 256) := by rw [eq]; simp [fitX]
  have eY : fitY q B = 0 := by rw [eq]; simp [fitY]
  exact bodyPost_ret (v := .agg #[.int .i64 0, .int .u8 q, .int .i64 (fitX q A B), .int .i64 (fitY q B)]) (by rw [eX, eY]; simp [results, Try.results32, go_sem]) rfl ⟨rfl, (by repeat (first | exact Below.refl _ _ | apply below_alloc | apply pw_below_drewN | apply below_drew | refine below_set ?_ (by simp; omega)))⟩

set_option maxHeartbeats 2000000 in
set_option maxRecDepth 100000 in
theorem fit_none (a op A B q : Int) (w : World) (h0 : 0 ≤ op) (h1 : op ≤ 255) (hm : op % 34 = q) (x0 : (q == 1) = false) (x1 : (q == 2) = false) (x2 : (q == 19) = false) (x3 : (q == 20) = false) (x4 : (q == 24) = false) (x5 : (q == 25) = false) (x6 : (q == 4) = false) (x7 : (q == 5) = false) (x8 : (q == 21) = false) (x9 : (q == 23) = false) (x10 : (q == 30) = false) (x11 : (q == 31) = false) (x12 : (q == 32) = false) (hn : ¬ (q = 19 ∨ q = 20) ∧ ¬ (q = 24 ∨ q = 25 ∨ q = 4 ∨ q = 5 ∨ q = 21 ∨ q = 23 ∨ q = 30 ∨ q = 31 ∨ q = 32)) :
    Calls Try.prog 32 #[.agg #[.int .i64 a, .int .u8 op, .int .i64 A, .int .i64 B]] w (FitPost q A B w) := by
  have HN := Lib.hid hn
  clear hn
  go_enter Try.func32, Try.ntmps32
  go_wp2
  go_quiet (fail)
  go_wp2
  have eX : fitX q A B = 0 := by unfold fitX; rw [if_neg (beq_eq_false_iff_ne.1 x0), if_neg (beq_eq_false_iff_ne.1 x1), if_neg HN.out.1, if_neg HN.out.2]
  have eY : fitY q B = 0 := by unfold fitY; rw [if_neg (fun h => HN.out.2 (h.elim (fun h => Or.inl h) (fun h => Or.inr (Or.inl h))))]
  exact bodyPost_ret (v := .agg #[.int .i64 0, .int .u8 q, .int .i64 (fitX q A B), .int .i64 (fitY q B)]) (by rw [eX, eY]; simp [results, Try.results32, go_sem]) rfl ⟨rfl, (by repeat (first | exact Below.refl _ _ | apply below_alloc | apply pw_below_drewN | apply below_drew | refine below_set ?_ (by simp; omega)))⟩

/-- fit, at every instruction. -/
theorem fit_any (a op A B : Int) (w : World) (h0 : 0 ≤ op) (h1 : op ≤ 255) :
    Calls Try.prog 32 #[.agg #[.int .i64 a, .int .u8 op, .int .i64 A, .int .i64 B]] w (FitPost (op % 34) A B w) := by
  obtain ⟨q, hq⟩ : ∃ q, op % 34 = q := ⟨_, rfl⟩
  rw [hq]
  by_cases y0 : q = 1
  · exact fit_1 a op A B q w h0 h1 hq  (beq_iff_eq.2 y0)
  by_cases y1 : q = 2
  · exact fit_2 a op A B q w h0 h1 hq (beq_eq_false_iff_ne.2 y0) (beq_iff_eq.2 y1)
  by_cases y2 : q = 19
  · exact fit_19 a op A B q w h0 h1 hq (beq_eq_false_iff_ne.2 y0) (beq_eq_false_iff_ne.2 y1) (beq_iff_eq.2 y2)
  by_cases y3 : q = 20
  · exact fit_20 a op A B q w h0 h1 hq (beq_eq_false_iff_ne.2 y0) (beq_eq_false_iff_ne.2 y1) (beq_eq_false_iff_ne.2 y2) (beq_iff_eq.2 y3)
  by_cases y4 : q = 24
  · exact fit_24 a op A B q w h0 h1 hq (beq_eq_false_iff_ne.2 y0) (beq_eq_false_iff_ne.2 y1) (beq_eq_false_iff_ne.2 y2) (beq_eq_false_iff_ne.2 y3) (beq_iff_eq.2 y4)
  by_cases y5 : q = 25
  · exact fit_25 a op A B q w h0 h1 hq (beq_eq_false_iff_ne.2 y0) (beq_eq_false_iff_ne.2 y1) (beq_eq_false_iff_ne.2 y2) (beq_eq_false_iff_ne.2 y3) (beq_eq_false_iff_ne.2 y4) (beq_iff_eq.2 y5)
  by_cases y6 : q = 4
  · exact fit_4 a op A B q w h0 h1 hq (beq_eq_false_iff_ne.2 y0) (beq_eq_false_iff_ne.2 y1) (beq_eq_false_iff_ne.2 y2) (beq_eq_false_iff_ne.2 y3) (beq_eq_false_iff_ne.2 y4) (beq_eq_false_iff_ne.2 y5) (beq_iff_eq.2 y6)
  by_cases y7 : q = 5
  · exact fit_5 a op A B q w h0 h1 hq (beq_eq_false_iff_ne.2 y0) (beq_eq_false_iff_ne.2 y1) (beq_eq_false_iff_ne.2 y2) (beq_eq_false_iff_ne.2 y3) (beq_eq_false_iff_ne.2 y4) (beq_eq_false_iff_ne.2 y5) (beq_eq_false_iff_ne.2 y6) (beq_iff_eq.2 y7)
  by_cases y8 : q = 21
  · exact fit_21 a op A B q w h0 h1 hq (beq_eq_false_iff_ne.2 y0) (beq_eq_false_iff_ne.2 y1) (beq_eq_false_iff_ne.2 y2) (beq_eq_false_iff_ne.2 y3) (beq_eq_false_iff_ne.2 y4) (beq_eq_false_iff_ne.2 y5) (beq_eq_false_iff_ne.2 y6) (beq_eq_false_iff_ne.2 y7) (beq_iff_eq.2 y8)
  by_cases y9 : q = 23
  · exact fit_23 a op A B q w h0 h1 hq (beq_eq_false_iff_ne.2 y0) (beq_eq_false_iff_ne.2 y1) (beq_eq_false_iff_ne.2 y2) (beq_eq_false_iff_ne.2 y3) (beq_eq_false_iff_ne.2 y4) (beq_eq_false_iff_ne.2 y5) (beq_eq_false_iff_ne.2 y6) (beq_eq_false_iff_ne.2 y7) (beq_eq_false_iff_ne.2 y8) (beq_iff_eq.2 y9)
  by_cases y10 : q = 30
  · exact fit_30 a op A B q w h0 h1 hq (beq_eq_false_iff_ne.2 y0) (beq_eq_false_iff_ne.2 y1) (beq_eq_false_iff_ne.2 y2) (beq_eq_false_iff_ne.2 y3) (beq_eq_false_iff_ne.2 y4) (beq_eq_false_iff_ne.2 y5) (beq_eq_false_iff_ne.2 y6) (beq_eq_false_iff_ne.2 y7) (beq_eq_false_iff_ne.2 y8) (beq_eq_false_iff_ne.2 y9) (beq_iff_eq.2 y10)
  by_cases y11 : q = 31
  · exact fit_31 a op A B q w h0 h1 hq (beq_eq_false_iff_ne.2 y0) (beq_eq_false_iff_ne.2 y1) (beq_eq_false_iff_ne.2 y2) (beq_eq_false_iff_ne.2 y3) (beq_eq_false_iff_ne.2 y4) (beq_eq_false_iff_ne.2 y5) (beq_eq_false_iff_ne.2 y6) (beq_eq_false_iff_ne.2 y7) (beq_eq_false_iff_ne.2 y8) (beq_eq_false_iff_ne.2 y9) (beq_eq_false_iff_ne.2 y10) (beq_iff_eq.2 y11)
  by_cases y12 : q = 32
  · exact fit_32 a op A B q w h0 h1 hq (beq_eq_false_iff_ne.2 y0) (beq_eq_false_iff_ne.2 y1) (beq_eq_false_iff_ne.2 y2) (beq_eq_false_iff_ne.2 y3) (beq_eq_false_iff_ne.2 y4) (beq_eq_false_iff_ne.2 y5) (beq_eq_false_iff_ne.2 y6) (beq_eq_false_iff_ne.2 y7) (beq_eq_false_iff_ne.2 y8) (beq_eq_false_iff_ne.2 y9) (beq_eq_false_iff_ne.2 y10) (beq_eq_false_iff_ne.2 y11) (beq_iff_eq.2 y12)
  refine fit_none a op A B q w h0 h1 hq (beq_eq_false_iff_ne.2 y0) (beq_eq_false_iff_ne.2 y1) (beq_eq_false_iff_ne.2 y2) (beq_eq_false_iff_ne.2 y3) (beq_eq_false_iff_ne.2 y4) (beq_eq_false_iff_ne.2 y5) (beq_eq_false_iff_ne.2 y6) (beq_eq_false_iff_ne.2 y7) (beq_eq_false_iff_ne.2 y8) (beq_eq_false_iff_ne.2 y9) (beq_eq_false_iff_ne.2 y10) (beq_eq_false_iff_ne.2 y11) (beq_eq_false_iff_ne.2 y12) ?_
  exact ⟨by omega, by omega⟩

theorem fit_X (q A B : Int) : fitS q (fitX q A B) (wA q) = true := by
  unfold fitX
  split
  · rename_i h; rw [h]; exact fi _
  · split
    · rename_i h; rw [h]; exact f_2 (by omega) (by omega)
    · split
      · rename_i h
        rcases h with h | h
        · rw [h]; exact f_19 (by omega) (by omega)
        · rw [h]; exact f_20 (by omega) (by omega)
      · split
        · rename_i h
          rcases h with h | h | h | h | h | h | h | h | h
          · rw [h]; exact f_24 (by omega) (by omega)
          · rw [h]; exact f_25 (by omega) (by omega)
          · rw [h]; exact f_4 (by omega) (by omega)
          · rw [h]; exact f_5 (by omega) (by omega)
          · rw [h]; exact f_21 (by omega) (by omega)
          · rw [h]; exact f_23 (by omega) (by omega)
          · rw [h]; exact f_30 (by omega) (by omega)
          · rw [h]; exact f_31 (by omega) (by omega)
          · rw [h]; exact f_32 (by omega) (by omega)
        · have e : wA q = 0 := by unfold wA; rw [if_neg (by assumption), if_neg (by assumption), if_neg (by omega)]
          rw [e]; rfl
theorem fit_Y (q B : Int) : fitS q (fitY q B) (wB q) = true := by
  unfold fitY
  split
  · rename_i h
    rcases h with h | h
    · rw [h]; exact g_24 (by omega) (by omega)
    · rw [h]; exact g_25 (by omega) (by omega)
  · have e : wB q = 0 := by unfold wB; rw [if_neg (by assumption)]
    rw [e]; rfl

end Go.Proofs.Ytcfpiamdkdedlaa.FitC
