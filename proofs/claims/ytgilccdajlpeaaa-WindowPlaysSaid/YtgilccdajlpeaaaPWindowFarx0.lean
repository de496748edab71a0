-- PRINTED BY print.sh 35421559b90ae4d0a3588c463048766b98c2df88dd9212a6774a882060cdf62d: not written by this session
import Derived.Test.YtgilccdajlpeaaaProg
import Derived.Below
import Derived.Deep.Draws
import Derived.Deep.AppendLies
import Derived.Maps.AppendAt
import Derived.OwnWalk
import Derived.Laws.BytesArg
import Derived.Laws.MakeOwn
import Derived.Laws.OwnMore
import Derived.Deep.OwnRows
import Derived.Tactics
import Derived.Lib.ConvBytes
import Derived.Laws.Slices
import Derived.WalkKit
import Derived.KernelRfl
import Derived.RowKit3
import Derived.Deep.LoopGhost
import Derived.Deep.QuietTactic
import Derived.BigQuiet
import Derived.WideLaws
import Derived.Deep.DeepCutAuto
import Derived.Deep.CutBlock
import Derived.Deep.RegionHeld3
import Derived.Laws.Rows
import Derived.Lib.AppendStr
import Derived.ArgAppend
import Derived.Laws.IdiomCopy
import Derived.OrdersHeld
import Derived.Laws.BitsLemmas
import Derived.RowKit
import Derived.Test.YtgilccdajlpeaaaWWords
import Derived.Test.YtgilccdajlpeaaaWLast
import Derived.Test.YtgilccdajlpeaaaWTab
import Derived.Test.YtgilccdajlpeaaaWFour
import Derived.Test.YtgilccdajlpeaaaWQPut
import Derived.Test.YtgilccdajlpeaaaWApart
import Derived.Test.YtgilccdajlpeaaaWArr
import Derived.Test.YtgilccdajlpeaaaWZeros
import Derived.Test.YtgilccdajlpeaaaWFoot
import Derived.Test.YtgilccdajlpeaaaWKept
import Derived.Test.YtgilccdajlpeaaaWShare
import Derived.Test.YtgilccdajlpeaaaWN
import Derived.Test.YtgilccdajlpeaaaWFootNe
import Derived.Test.YtgilccdajlpeaaaWAt
import Derived.Test.YtgilccdajlpeaaaWEqStruct
import Derived.Test.YtgilccdajlpeaaaWRepsOne
import Derived.Test.YtgilccdajlpeaaaWInv
import Derived.Test.YtgilccdajlpeaaaWInvWords
import Derived.Test.YtgilccdajlpeaaaWGuard
import Derived.Test.YtgilccdajlpeaaaWNEv
import Derived.Test.YtgilccdajlpeaaaWMore
namespace Go.Proofs.Ytgilccdajlpeaaa.PWindowFar
open Go.RowKit Go.Proofs.YtgilccdajlpeaaaW.PrintWords Go.Proofs.YtgilccdajlpeaaaW.PrintLast Go.Proofs.YtgilccdajlpeaaaW.PrintMore
attribute [local go_sem] max2_int min2_int max_two min_two max_three min_three max_four min_four   -- for this text's walks alone
set_option linter.unusedVariables false
set_option linter.unusedSimpArgs false



def errW : Option Int → Value
  | none => .nilIface
  | some c => .iface 0 (.int .i64 c)
theorem errW_none : errW none = .nilIface := rfl
theorem errW_some (c : Int) : errW (some c) = .iface 0 (.int .i64 c) := rfl

-- the values' own types

end Go.Proofs.Ytgilccdajlpeaaa.PWindowFar
