-- PRINTED by print.py (a twelfth state) out of the translation. Not trusted: Lean checks it.
import Derived.Test.YtkabmbaghgfffaaProg
import Derived.Below
import Derived.Deep.Draws
import Derived.Deep.AppendLies
import Derived.Maps.AppendAt
import Derived.OwnWalk
import Derived.Laws.BytesArg
import Derived.Laws.MakeOwn
import Derived.Laws.OwnMore
import Derived.Deep.OwnRows
import Derived.Tactics
import Derived.Lib.ConvBytes
import Derived.Laws.Slices
import Derived.WalkKit
import Derived.KernelRfl
import Derived.RowKit3
import Derived.Deep.LoopGhost
import Derived.Deep.QuietTactic
import Derived.BigQuiet
import Derived.WideLaws
import Derived.Deep.DeepCutAuto
import Derived.Deep.CutBlock
import Derived.Deep.RegionHeld3
import Derived.Laws.Rows
import Derived.Lib.AppendStr
import Derived.ArgAppend
import Derived.Laws.IdiomCopy
import Derived.OrdersHeld
import Derived.Laws.BitsLemmas
import Derived.RowKit
import Derived.Test.YtkabmbaghgfffaaWWords
import Derived.Test.YtkabmbaghgfffaaWLast
import Derived.Test.YtkabmbaghgfffaaWTab
import Derived.Test.YtkabmbaghgfffaaWFour
import Derived.Test.YtkabmbaghgfffaaWQPut
import Derived.Test.YtkabmbaghgfffaaWApart
import Derived.Test.YtkabmbaghgfffaaWArr
import Derived.Test.YtkabmbaghgfffaaWZeros
import Derived.Test.YtkabmbaghgfffaaWFoot
import Derived.Test.YtkabmbaghgfffaaWKept
import Derived.Test.YtkabmbaghgfffaaWShare
import Derived.Test.YtkabmbaghgfffaaWN
import Derived.Test.YtkabmbaghgfffaaWFootNe
import Derived.Test.YtkabmbaghgfffaaWAt
import Derived.Test.YtkabmbaghgfffaaWEqStruct
import Derived.Test.YtkabmbaghgfffaaWRepsOne
import Derived.Test.YtkabmbaghgfffaaWInv
import Derived.Test.YtkabmbaghgfffaaWInvWords
import Derived.Test.YtkabmbaghgfffaaWGuard
import Derived.Test.YtkabmbaghgfffaaWNEv
import Derived.Test.YtkabmbaghgfffaaWMore
namespace Go.Proofs.Ytkabmbaghgfffaa.PWord
open Go.RowKit Go.Proofs.YtkabmbaghgfffaaW.PrintWords Go.Proofs.YtkabmbaghgfffaaW.PrintLast Go.Proofs.YtkabmbaghgfffaaW.PrintMore
attribute [local go_sem] max2_int min2_int max_two min_two max_three min_three max_four min_four   -- for this text's walks alone
set_option linter.unusedVariables false
set_option linter.unusedSimpArgs false



def errW : Option Int → Value
  | none => .nilIface
  | some c => .iface 0 (.int .i64 c)
theorem errW_none : errW none = .nilIface := rfl
theorem errW_some (c : Int) : errW (some c) = .iface 0 (.int .i64 c) := rfl

theorem info3 : (Try.prog.info? 3).map (fun i => (i.zero, i.size, i.bytes)) = some (some (.int .i64 0), 1, 8) := by kernel_rfl
-- the values' own types

end Go.Proofs.Ytkabmbaghgfffaa.PWord
