/- no function of the program starts a goroutine. -/
import Derived.Test.YthakkhefhfcggaaGreatDoorRows
import GoSem.ClaimGoes
namespace Go.Proofs.YthakkhefhfcggaaGreatDoor
set_option maxRecDepth 100000 in
set_option maxHeartbeats 1000000000 in
theorem noneGoes : Tryz.prog.funcs.toList.all (fun fn => !Func.goes fn) = true := by kernel_rfl
set_option maxRecDepth 100000 in
set_option maxHeartbeats 1000000000 in
theorem goes3 : false = Rows.indexNilRow.goesBy Tryz.pinned.checked.prog := by
  have h1 : ∀ fn ∈ Tryz.prog.funcs.toList, Func.goes fn = false := fun fn hm => by
    have := List.all_eq_true.1 noneGoes fn hm
    simpa using this
  have h2 : ∀ f, Tryz.prog.goes f = false := fun f => by
    unfold Program.goes
    have a1 : ((Tryz.prog.closure f).any fun g => (Tryz.prog.funcs[g]?).any Func.goes) = false := by
      rw [Bool.eq_false_iff]
      intro h
      obtain ⟨g, _, hg⟩ := List.any_eq_true.1 h
      obtain ⟨fn, hfn, hgo⟩ := Option.any_eq_true _ _ |>.1 hg
      have := h1 fn (by simpa using Array.mem_of_getElem? hfn)
      rw [this] at hgo
      cases hgo
    have a2 : Tryz.prog.funcs.any Func.goes = false := by
      rw [Bool.eq_false_iff]
      intro h
      rw [← Array.any_toList] at h
      obtain ⟨fn, hm, hg⟩ := List.any_eq_true.1 h
      rw [h1 fn hm] at hg
      cases hg
    rw [a1, a2, Bool.and_false]; rfl
  have h3 : Tryz.prog.goesFrom Rows.indexNilRow.func = false := by
    unfold Program.goesFrom
    generalize Tryz.prog.funcNamed Rows.indexNilRow.func = q
    cases q with
    | none => simp
    | some f => simpa using h2 f
  show false = (Tryz.prog.goesFrom Rows.indexNilRow.func || false)
  rw [h3]; rfl
end Go.Proofs.YthakkhefhfcggaaGreatDoor
