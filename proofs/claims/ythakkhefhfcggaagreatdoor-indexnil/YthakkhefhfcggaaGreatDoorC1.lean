/- one cut, by the kernel. -/
import Derived.Test.YthakkhefhfcggaaGreatDoorMemo
import Derived.KernelRfl
namespace Go.Ev
open Go.Proofs
theorem c1 : m1.chk Tryz.prog (zcfg [m26]) 100000 = true := by kernel_rfl
end Go.Ev
