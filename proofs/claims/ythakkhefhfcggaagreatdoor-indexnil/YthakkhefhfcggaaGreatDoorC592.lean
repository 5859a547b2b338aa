/- one cut, by the kernel. -/
import Derived.Test.YthakkhefhfcggaaGreatDoorMemo
import Derived.KernelRfl
namespace Go.Ev
open Go.Proofs
theorem c592 : m592.chk Tryz.prog (zcfg [m618, m855, m1076]) 100000 = true := by kernel_rfl
end Go.Ev
