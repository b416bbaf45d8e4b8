-- PRINTED BY print.sh 35421559b90ae4d0a3588c463048766b98c2df88dd9212a6774a882060cdf62d: not written by this session
import Derived.Test.YtkpfpgggkbaefaaDoorProg
import Derived.Below
import Derived.Deep.Draws
import Derived.Deep.AppendLies
import Derived.Maps.AppendAt
import Derived.OwnWalk
import Derived.Laws.BytesArg
import Derived.Laws.MakeOwn
import Derived.Laws.OwnMore
import Derived.Deep.OwnRows
import Derived.Tactics
import Derived.Lib.ConvBytes
import Derived.Laws.Slices
import Derived.WalkKit
import Derived.KernelRfl
import Derived.RowKit3
import Derived.Deep.LoopGhost
import Derived.Deep.QuietTactic
import Derived.BigQuiet
import Derived.WideLaws
import Derived.Deep.DeepCutAuto
import Derived.Deep.CutBlock
import Derived.Deep.RegionHeld3
import Derived.Laws.Rows
import Derived.Lib.AppendStr
import Derived.ArgAppend
import Derived.Laws.IdiomCopy
import Derived.OrdersHeld
import Derived.Laws.BitsLemmas
import Derived.RowKit
import Derived.Test.YtkpfpgggkbaefaaDoorWWords
import Derived.Test.YtkpfpgggkbaefaaDoorWLast
import Derived.Test.YtkpfpgggkbaefaaDoorWTab
import Derived.Test.YtkpfpgggkbaefaaDoorWFour
import Derived.Test.YtkpfpgggkbaefaaDoorWQPut
import Derived.Test.YtkpfpgggkbaefaaDoorWApart
import Derived.Test.YtkpfpgggkbaefaaDoorWArr
import Derived.Test.YtkpfpgggkbaefaaDoorWZeros
import Derived.Test.YtkpfpgggkbaefaaDoorWFoot
import Derived.Test.YtkpfpgggkbaefaaDoorWKept
import Derived.Test.YtkpfpgggkbaefaaDoorWShare
import Derived.Test.YtkpfpgggkbaefaaDoorWN
import Derived.Test.YtkpfpgggkbaefaaDoorWFootNe
import Derived.Test.YtkpfpgggkbaefaaDoorWAt
import Derived.Test.YtkpfpgggkbaefaaDoorWEqStruct
import Derived.Test.YtkpfpgggkbaefaaDoorWRepsOne
import Derived.Test.YtkpfpgggkbaefaaDoorWInv
import Derived.Test.YtkpfpgggkbaefaaDoorWInvWords
import Derived.Test.YtkpfpgggkbaefaaDoorWGuard
import Derived.Test.YtkpfpgggkbaefaaDoorWNEv
import Derived.Test.YtkpfpgggkbaefaaDoorWMore
namespace Go.Proofs.YtkpfpgggkbaefaaDoor.PNamePuts
open Go.RowKit Go.Proofs.YtkpfpgggkbaefaaDoorW.PrintWords Go.Proofs.YtkpfpgggkbaefaaDoorW.PrintLast Go.Proofs.YtkpfpgggkbaefaaDoorW.PrintMore
attribute [local go_sem] max2_int min2_int max_two min_two max_three min_three max_four min_four   -- for this text's walks alone
set_option linter.unusedVariables false
set_option linter.unusedSimpArgs false



def errW : Option Int → Value
  | none => .nilIface
  | some c => .iface 88 (.int .i64 c)
theorem errW_none : errW none = .nilIface := rfl
theorem errW_some (c : Int) : errW (some c) = .iface 88 (.int .i64 c) := rfl

theorem info3 : (Tryd.prog.info? 3).map (fun i => (i.zero, i.size, i.bytes)) = some (some (.int .i64 0), 1, 8) := by kernel_rfl
theorem info5 : (Tryd.prog.info? 5).map (fun i => (i.zero, i.size, i.bytes)) = some (some (.int .u8 0), 1, 1) := by kernel_rfl
theorem info9 : (Tryd.prog.info? 9).map (fun i => (i.zero, i.size, i.bytes)) = some (some (.string ⟨#[]⟩), 1, 16) := by kernel_rfl
theorem info23 : (Tryd.prog.info? 23).map (fun i => (i.zero, i.size, i.bytes)) = some (some (.int .u64 0), 1, 8) := by kernel_rfl
-- the values' own types

end Go.Proofs.YtkpfpgggkbaefaaDoor.PNamePuts
