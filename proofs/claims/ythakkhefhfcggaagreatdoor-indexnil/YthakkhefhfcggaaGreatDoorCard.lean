/- IndexNilCardSaid: touchstonelaw21.IndexNil returns true at every input, its arguments unchanged, the listed package variables holding what the program's text lays. -/
import Derived.Test.YthakkhefhfcggaaGreatDoorLift
import Derived.Test.YthakkhefhfcggaaGreatDoorCards
import Derived.Test.YthakkhefhfcggaaGreatDoorOwnTie
import Derived.Test.YthakkhefhfcggaaGreatDoorGoes
namespace Go.Proofs.YthakkhefhfcggaaGreatDoor

set_option maxRecDepth 100000 in
set_option maxHeartbeats 1000000000 in
theorem plain (f : FuncId) (fn : Func) (hf : Tryz.pinned.checked.prog.funcNamed "touchstone/touchstonelaw21.IndexNil" = some f) (hfn : Tryz.pinned.checked.prog.funcs[f]? = some fn) :
    true = Tryz.pinned.checked.prog.looks [] ∧ ∀ (j : Nat) t, fn.params[j]? = some t → Tryz.pinned.checked.prog.wantsStandIn t = false := by
  obtain rfl : f = 3 := Option.some.inj ((show Tryz.prog.funcNamed "touchstone/touchstonelaw21.IndexNil" = some 3 by as_aux_lemma => kernel_rfl).symm.trans hf) |>.symm
  obtain rfl : fn = Tryz.f3 := (Option.some.inj (Tryz.func3.symm.trans hfn)).symm
  refine ⟨by as_aux_lemma => kernel_rfl, fun j t ht => ?_⟩
  rw [Tryz.params3] at ht
  have ht : t = 25 ∨ t = 9 ∨ t = 4 := by simpa using Array.mem_of_getElem? ht
  rcases ht with rfl | rfl | rfl
  · exact (show Tryz.prog.wantsStandIn 25 = false by as_aux_lemma => kernel_rfl)
  · exact (show Tryz.prog.wantsStandIn 9 = false by as_aux_lemma => kernel_rfl)
  · exact (show Tryz.prog.wantsStandIn 4 = false by as_aux_lemma => kernel_rfl)

set_option maxRecDepth 100000 in
set_option maxHeartbeats 1000000000 in
/-- the card -/
theorem card : Rows.IndexNilCardSaid :=
  Claim7.holds_tied_plain_at .later [] _ _ _ _ said (fun _ h => by cases h) (by as_aux_lemma => kernel_rfl) (fun _ h => by cases h) indexNil_row_tie rfl ⟨rfl, rfl⟩ (by as_aux_lemma => kernel_rfl) rfl plain goes3
#print axioms card
end Go.Proofs.YthakkhefhfcggaaGreatDoor
