/- one cut, by the kernel. -/
import Derived.Test.YthakkhefhfcggaaGreatDoorMemo
import Derived.KernelRfl
namespace Go.Ev
open Go.Proofs
theorem c1371 : m1371.chk Tryz.prog (zcfg [m1434, m1671, m1892]) 100000 = true := by kernel_rfl
end Go.Ev
