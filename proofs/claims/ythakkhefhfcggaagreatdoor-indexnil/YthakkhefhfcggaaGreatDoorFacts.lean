/- closed facts on the program. -/
import Derived.Test.YthakkhefhfcggaaGreatDoorMemo
import Derived.Test.YthakkhefhfcggaaGreatDoorRows
import Derived.Below
import Derived.ChangeSame
import Derived.WideKeyArgs
import Derived.Carry
import Derived.Deep.DeepHandedRow
import Derived.Deep.DeepWitnessRowRef
import Derived.Lib.LaidIn
import Derived.Lib.LaidTab
import Derived.ProofKit
import Derived.OpenShut
import Derived.Deep.Strs
import Derived.KernelRfl
namespace Go.Proofs.YthakkhefhfcggaaGreatDoor
open Go.ChangeShapes Go.WideShapes Go.ChangeAt Go.RowKit Go.Ev
open Go.ChangeMaps (open_string shut_string)


theorem own : ownKnob Tryz.prog.godebug = none := by kernel_rfl
theorem laidOut : laidOutB Tryz.prog = true := by kernel_rfl
theorem c9 : Tryz.prog.cellsOf 9 = 1 := by kernel_rfl
theorem c23 : Tryz.prog.cellsOf 23 = 3 := by kernel_rfl
theorem c3 : Tryz.prog.cellsOf 3 = 1 := by kernel_rfl
theorem c25 : Tryz.prog.cellsOf 25 = 4 := by kernel_rfl

theorem rr25 : Tryz.prog.readableRec 25 = true := by kernel_rfl
theorem rr9 : Tryz.prog.readableRec 9 = true := by kernel_rfl
theorem rr4 : Tryz.prog.readableRec 4 = true := by kernel_rfl
theorem ts25 : 25 < Tryz.prog.types.size := of_decide_eq_true (by kernel_rfl)
theorem ts9 : 9 < Tryz.prog.types.size := of_decide_eq_true (by kernel_rfl)
theorem ts4 : 4 < Tryz.prog.types.size := of_decide_eq_true (by kernel_rfl)
theorem enter3 (a b c d e f : Value) (W : World) : (callFunc 3 #[.agg #[a, b, c, d], e, f]).run Tryz.prog W = .ok (.enter 3 #[.agg #[a, b, c, d], e, f]) W := by
  simp [callFunc, Tryz.func3, Tryz.f3]

end Go.Proofs.YthakkhefhfcggaaGreatDoor
