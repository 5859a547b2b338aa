/- one cut, by the kernel. -/
import Derived.Test.YthakkhefhfcggaaGreatDoorMemo
import Derived.KernelRfl
namespace Go.Ev
open Go.Proofs
theorem c855 : m855.chk Tryz.prog (zcfg []) 100000 = true := by kernel_rfl
end Go.Ev
