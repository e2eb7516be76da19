/- code.Encode: what it answers at every instruction, as a plain function; nothing that was there turns. -/
import Derived.Test.YtcfpiamdkdedlaaPureCodeEncodes
namespace Go.Proofs.Ytcfpiamdkdedlaa.EncC
open Go.RowKit Go.Proofs.YtcfpiamdkdedlaaW.PrintWords Go.Proofs.YtcfpiamdkdedlaaW.PrintLast Go.Proofs.YtcfpiamdkdedlaaW.PrintMore Go.Proofs.Ytcfpiamdkdedlaa.Spec

def EncPost (op A B : Int) (w : World) (e : Ending) (w' : World) : Prop :=
  ∃ v0 : Value, e = .returned (.tuple #[v0, .int .i64 (encodeS op A B).2]) ∧ Kd.R (Kd.int .u8) 5 w' w.heap.size (fun _ => True) v0 (encodeS op A B).1 ∧ Below w.heap.size w w'

theorem encode_any (a op A B : Int) (h0 : 0 ≤ op) (h1 : op ≤ 255) (w : World) :
    Calls Try.prog 21 #[.agg #[.int .i64 a, .int .u8 op, .int .i64 A, .int .i64 B]] w (EncPost op A B w) :=
  PCodeEncodes.code_Encode.calls 21 a op A B (encodeS op A B).1 (encodeS op A B).2 w (Pure.encode_is a op A B h0 h1 21 (by omega))
end Go.Proofs.Ytcfpiamdkdedlaa.EncC
