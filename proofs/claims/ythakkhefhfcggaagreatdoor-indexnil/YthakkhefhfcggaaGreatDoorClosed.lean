/- the row's closed facts. -/
import Derived.Test.YthakkhefhfcggaaGreatDoorSaid
namespace Go.Proofs.YthakkhefhfcggaaGreatDoor
set_option maxRecDepth 100000 in
set_option maxHeartbeats 1000000000 in
theorem and_t {a b : Bool} (h : a = true) (k : b = true) : (a && b) = true := by rw [h, k]; rfl

set_option maxRecDepth 100000 in
set_option maxHeartbeats 1000000000 in
theorem closed : joinedFacts Tryz.pinned.checked.prog 3 Tryz.f3 (OpenSpec.ofChange Rows.indexNilSpec).bare Rows.indexNilRow = true := by
  unfold joinedFacts
  repeat' (with_reducible apply and_t)
  all_goals (as_aux_lemma => kernel_rfl)
end Go.Proofs.YthakkhefhfcggaaGreatDoor
