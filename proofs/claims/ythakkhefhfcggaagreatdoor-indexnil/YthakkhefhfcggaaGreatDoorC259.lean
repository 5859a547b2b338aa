/- one cut, by the kernel. -/
import Derived.Test.YthakkhefhfcggaaGreatDoorMemo
import Derived.KernelRfl
namespace Go.Ev
open Go.Proofs
theorem c259 : m259.chk Tryz.prog (zcfg []) 100000 = true := by kernel_rfl
end Go.Ev
