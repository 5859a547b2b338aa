/- one cut, by the kernel. -/
import Derived.Test.YthakkhefhfcggaaGreatDoorMemo
import Derived.KernelRfl
namespace Go.Ev
open Go.Proofs
theorem c26 : m26.chk Tryz.prog (zcfg [m55, m259, m592, m1371, m2184]) 100000 = true := by kernel_rfl
end Go.Ev
