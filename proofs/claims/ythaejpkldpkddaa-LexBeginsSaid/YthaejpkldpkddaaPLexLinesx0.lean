-- PRINTED BY print.sh 35421559b90ae4d0a3588c463048766b98c2df88dd9212a6774a882060cdf62d: not written by this session
import Derived.Test.YthaejpkldpkddaaProg
import Derived.Below
import Derived.Deep.Draws
import Derived.Deep.AppendLies
import Derived.Maps.AppendAt
import Derived.OwnWalk
import Derived.Laws.BytesArg
import Derived.Laws.MakeOwn
import Derived.Laws.OwnMore
import Derived.Deep.OwnRows
import Derived.Tactics
import Derived.Lib.ConvBytes
import Derived.Laws.Slices
import Derived.WalkKit
import Derived.KernelRfl
import Derived.RowKit3
import Derived.Deep.LoopGhost
import Derived.Deep.QuietTactic
import Derived.BigQuiet
import Derived.WideLaws
import Derived.Deep.DeepCutAuto
import Derived.Deep.CutBlock
import Derived.Deep.RegionHeld3
import Derived.Laws.Rows
import Derived.Lib.AppendStr
import Derived.ArgAppend
import Derived.Laws.IdiomCopy
import Derived.OrdersHeld
import Derived.Laws.BitsLemmas
import Derived.RowKit
import Derived.Test.YthaejpkldpkddaaWWords
import Derived.Test.YthaejpkldpkddaaWLast
import Derived.Test.YthaejpkldpkddaaWTab
import Derived.Test.YthaejpkldpkddaaWFour
import Derived.Test.YthaejpkldpkddaaWQPut
import Derived.Test.YthaejpkldpkddaaWApart
import Derived.Test.YthaejpkldpkddaaWArr
import Derived.Test.YthaejpkldpkddaaWZeros
import Derived.Test.YthaejpkldpkddaaWFoot
import Derived.Test.YthaejpkldpkddaaWKept
import Derived.Test.YthaejpkldpkddaaWShare
import Derived.Test.YthaejpkldpkddaaWN
import Derived.Test.YthaejpkldpkddaaWFootNe
import Derived.Test.YthaejpkldpkddaaWAt
import Derived.Test.YthaejpkldpkddaaWEqStruct
import Derived.Test.YthaejpkldpkddaaWRepsOne
import Derived.Test.YthaejpkldpkddaaWInv
import Derived.Test.YthaejpkldpkddaaWInvWords
import Derived.Test.YthaejpkldpkddaaWGuard
import Derived.Test.YthaejpkldpkddaaWNEv
import Derived.Test.YthaejpkldpkddaaWMore
namespace Go.Proofs.Ythaejpkldpkddaa.PLexLines
open Go.RowKit Go.Proofs.YthaejpkldpkddaaW.PrintWords Go.Proofs.YthaejpkldpkddaaW.PrintLast Go.Proofs.YthaejpkldpkddaaW.PrintMore
attribute [local go_sem] max2_int min2_int max_two min_two max_three min_three max_four min_four   -- for this text's walks alone
set_option linter.unusedVariables false
set_option linter.unusedSimpArgs false



def errW : Option Int → Value
  | none => .nilIface
  | some c => .iface 0 (.int .i64 c)
theorem errW_none : errW none = .nilIface := rfl
theorem errW_some (c : Int) : errW (some c) = .iface 0 (.int .i64 c) := rfl

-- the values' own types

end Go.Proofs.Ythaejpkldpkddaa.PLexLines
