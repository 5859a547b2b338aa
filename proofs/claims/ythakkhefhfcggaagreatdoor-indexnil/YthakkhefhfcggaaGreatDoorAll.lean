/- all cuts hold. -/
import Derived.Test.YthakkhefhfcggaaGreatDoorC55
import Derived.Test.YthakkhefhfcggaaGreatDoorC259
import Derived.Test.YthakkhefhfcggaaGreatDoorC618
import Derived.Test.YthakkhefhfcggaaGreatDoorC855
import Derived.Test.YthakkhefhfcggaaGreatDoorC1076
import Derived.Test.YthakkhefhfcggaaGreatDoorC592
import Derived.Test.YthakkhefhfcggaaGreatDoorC1434
import Derived.Test.YthakkhefhfcggaaGreatDoorC1671
import Derived.Test.YthakkhefhfcggaaGreatDoorC1892
import Derived.Test.YthakkhefhfcggaaGreatDoorC1371
import Derived.Test.YthakkhefhfcggaaGreatDoorC2184
import Derived.Test.YthakkhefhfcggaaGreatDoorC26
import Derived.Test.YthakkhefhfcggaaGreatDoorC1
namespace Go.Ev
open Go.Proofs
variable {σ : Nat → Value}

theorem okN : ∀ m ∈ ([] : List Memo), MemoOk Tryz.prog σ m := fun _ h => by cases h
theorem okC {m : Memo} {l : List Memo} (h : MemoOk Tryz.prog σ m) (hl : ∀ m ∈ l, MemoOk Tryz.prog σ m) : ∀ x ∈ m :: l, MemoOk Tryz.prog σ x := fun x hx => by
  cases hx with
  | head => exact h
  | tail _ hx => exact hl x hx

theorem k55 (hσ : SymOk σ) : MemoOk Tryz.prog σ m55 := zchk hσ okN c55
theorem k259 (hσ : SymOk σ) : MemoOk Tryz.prog σ m259 := zchk hσ okN c259
theorem k618 (hσ : SymOk σ) : MemoOk Tryz.prog σ m618 := zchk hσ okN c618
theorem k855 (hσ : SymOk σ) : MemoOk Tryz.prog σ m855 := zchk hσ okN c855
theorem k1076 (hσ : SymOk σ) : MemoOk Tryz.prog σ m1076 := zchk hσ okN c1076
theorem k592 (hσ : SymOk σ) : MemoOk Tryz.prog σ m592 := zchk hσ (okC (k618 hσ) (okC (k855 hσ) (okC (k1076 hσ) okN))) c592
theorem k1434 (hσ : SymOk σ) : MemoOk Tryz.prog σ m1434 := zchk hσ okN c1434
theorem k1671 (hσ : SymOk σ) : MemoOk Tryz.prog σ m1671 := zchk hσ okN c1671
theorem k1892 (hσ : SymOk σ) : MemoOk Tryz.prog σ m1892 := zchk hσ okN c1892
theorem k1371 (hσ : SymOk σ) : MemoOk Tryz.prog σ m1371 := zchk hσ (okC (k1434 hσ) (okC (k1671 hσ) (okC (k1892 hσ) okN))) c1371
theorem k2184 (hσ : SymOk σ) : MemoOk Tryz.prog σ m2184 := zchk hσ okN c2184
theorem k26 (hσ : SymOk σ) : MemoOk Tryz.prog σ m26 := zchk hσ (okC (k55 hσ) (okC (k259 hσ) (okC (k592 hσ) (okC (k1371 hσ) (okC (k2184 hσ) okN))))) c26
theorem k1 (hσ : SymOk σ) : MemoOk Tryz.prog σ m1 := zchk hσ (okC (k26 hσ) okN) c1
end Go.Ev
