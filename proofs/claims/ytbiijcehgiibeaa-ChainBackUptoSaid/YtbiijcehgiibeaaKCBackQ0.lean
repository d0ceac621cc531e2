/- A text that a program of this session wrote (wip/qprint.py, over the kit's printer): Lean functions with the same answers as Go functions of the program, and proofs that the calls come to these answers; where a function is named in wip/ext, its definition and proof were written by hand. -/
import Derived.Test.YtbiijcehgiibeaaProg
import Derived.Test.YtbiijcehgiibeaaKCBackSealw
import Derived.Test.YtbiijcehgiibeaaKCBackMake
import Derived.Below
import Derived.Deep.Draws
import Derived.Deep.AppendLies
import Derived.Maps.AppendAt
import Derived.OwnWalk
import Derived.Laws.BytesArg
import Derived.Laws.MakeOwn
import Derived.Laws.OwnMore
import Derived.Deep.OwnRows
import Derived.Tactics
import Derived.Lib.ConvBytes
import Derived.Laws.Slices
import Derived.WalkKit
import Derived.KernelRfl
import Derived.RowKit3
import Derived.Deep.LoopGhost
import Derived.Deep.QuietTactic
import Derived.BigQuiet
import Derived.WideLaws
import Derived.Deep.DeepCutAuto
import Derived.Deep.CutBlock
import Derived.Deep.RegionHeld3
import Derived.Laws.Rows
import Derived.Lib.AppendStr
import Derived.ArgAppend
import Derived.Laws.IdiomCopy
import Derived.OrdersHeld
import Derived.Laws.BitsLemmas
import Derived.RowKit
import Derived.Test.YtbiijcehgiibeaaKCBackWWords
import Derived.Test.YtbiijcehgiibeaaKCBackWLast
import Derived.Test.YtbiijcehgiibeaaKCBackWTab
import Derived.Test.YtbiijcehgiibeaaKCBackWApart
import Derived.Test.YtbiijcehgiibeaaKCBackWFoot
import Derived.Test.YtbiijcehgiibeaaKCBackWKept
import Derived.Test.YtbiijcehgiibeaaKCBackWShare
import Derived.Test.YtbiijcehgiibeaaKCBackWN
import Derived.Test.YtbiijcehgiibeaaKCBackWEqStruct
import Derived.Test.YtbiijcehgiibeaaKCBackWRepsOne
import Derived.Test.YtbiijcehgiibeaaKCBackWGuard
import Derived.Test.YtbiijcehgiibeaaKCBackWMore
namespace Go.Proofs.Ytbiijcehgiibeaa.Q
open Go.RowKit Go.Proofs.YtbiijcehgiibeaaW.PrintWords Go.Proofs.YtbiijcehgiibeaaW.PrintLast Go.Proofs.YtbiijcehgiibeaaW.PrintMore
attribute [local go_sem] max2_int min2_int max_two min_two max_three min_three max_four min_four   -- for this text's walks alone
set_option linter.unusedVariables false
set_option linter.unusedSimpArgs false
def errW : Option Int → Value
  | none => .nilIface
  | some c => .iface 0 (.int .i64 c)
theorem errW_none : errW none = .nilIface := rfl
theorem errW_some (c : Int) : errW (some c) = .iface 0 (.int .i64 c) := rfl
theorem info5 : (Try.prog.info? 5).map (fun i => (i.zero, i.size, i.bytes)) = some (some (.int .u8 0), 1, 1) := by kernel_rfl
structure S23 where
  f0 : Int
  f1 : Int
def z23 : S23 := ⟨(0 : Int), (0 : Int)⟩
structure S60 where
  f0 : Int
  f1 : Int
  f2 : S23
def z60 : S60 := ⟨(0 : Int), (0 : Int), z23⟩
end Go.Proofs.Ytbiijcehgiibeaa.Q
