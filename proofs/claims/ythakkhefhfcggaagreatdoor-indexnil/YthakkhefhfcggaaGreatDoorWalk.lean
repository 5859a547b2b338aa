/- IndexNil returns true and leaves what was there. -/
import Derived.Test.YthakkhefhfcggaaGreatDoorAll
import Derived.Test.YthakkhefhfcggaaGreatDoorFacts
import Derived.Test.YthakkhefhfcggaaGreatDoorRows
import Derived.Below
import Derived.ChangeSame
import Derived.WideKeyArgs
import Derived.Carry
import Derived.Deep.DeepHandedRow
import Derived.Deep.DeepWitnessRowRef
import Derived.Lib.LaidIn
import Derived.Lib.LaidTab
import Derived.ProofKit
import Derived.OpenShut
import Derived.Deep.Strs
import Derived.KernelRfl
namespace Go.Proofs.YthakkhefhfcggaaGreatDoor
open Go.ChangeShapes Go.WideShapes Go.ChangeAt Go.RowKit Go.Ev
open Go.ChangeMaps (open_string shut_string)

-- what the evaluation tells

noncomputable def zphi : Phi
  | .p1 p => some ⟨p.toN - 1, 0, 0, 0⟩
  | _ => none

theorem zphi_go : GO zphi := fun g => ⟨⟨g, 0, 0, 0⟩, by
  show some (⟨(Pos.ofN (g + 1) (g + 1)).toN - 1, 0, 0, 0⟩ : L) = _
  rw [Pos.toN_ofN (g + 1) (g + 1) (by omega) (Nat.le_refl _)]
  rfl, rfl, rfl⟩

theorem zphi_new (n : Nat) : New zphi n := fun _ _ => rfl

theorem leaf_none {x : Pos} {o : O} (h : (T.leaf : T O).get x = some o) : False := by
  rw [T.get_leaf] at h; cases h

theorem empty_hr {P : Program} {σ : Nat → Value} {φ : Phi} (n : Nat) (w : World) : HR P σ φ (mkH n []) w :=
  ⟨⟨fun _ _ h => (leaf_none h).elim, fun _ _ _ _ _ _ h => (leaf_none h).elim⟩, fun _ _ _ h => (leaf_none h).elim⟩

theorem below_of_empty {φ φ' : Phi} {n : Nat} {h' : Ev.H} {w w' : World} (g : G φ (mkH n []) w φ' h' w') : Below w.heap.size w w' :=
  ⟨g.os, g.tape, g.out, g.size, fun k hk => g.same k hk fun ⟨_, _, _, h, _⟩ => (leaf_none h).elim⟩

theorem walk {a b c d e f : Value} (ha : a.oneCell' = true) (hb : b.oneCell' = true) (hc : c.oneCell' = true) (hd : d.oneCell' = true) (he : e.oneCell' = true) (hf : f.oneCell' = true) (W : World) :
    Calls Tryz.prog 3 #[.agg #[a, b, c, d], e, f] W fun en W' => en = .returned (.bool true) ∧ Below W.heap.size W W' := by
  let σ : Nat → Value := fun n => match n with
    | 0 => a
    | 1 => b
    | 2 => c
    | 3 => d
    | 4 => e
    | _ => f
  have hσ : SymOk σ := fun n => by
    show (match n with | 0 => a | 1 => b | 2 => c | 3 => d | 4 => e | _ => f).oneCell' = true
    split <;> assumption
  have hv : VL σ zphi m1.args (#[.agg #[a, b, c, d], e, f] : Array Value).toList :=
    .cons _ _ _ _ (.agg _ _ (.cons _ _ _ _ (.sym 0) (.cons _ _ _ _ (.sym 1) (.cons _ _ _ _ (.sym 2) (.cons _ _ _ _ (.sym 3) .nil))))) (.cons _ _ _ _ (.sym 4) (.cons _ _ _ _ (.sym 5) .nil))
  rcases k1 hσ zphi W _ zphi_go (zphi_new _) (empty_hr _ W) hv with ⟨u, w', h, _⟩ | ⟨_, h⟩
  · have := enter3 a b c d e f W
    have h : (callFunc 3 #[.agg #[a, b, c, d], e, f]).run Tryz.prog W = .ok (.value u) w' := h
    rw [this] at h
    cases h
  · refine h.mono fun en W' ⟨u, e1, r, hm, φ', g, _, hvr⟩ => ?_
    have : r = (m1.v, m1.postH) := by simpa using hm
    subst this
    have := VR.bool_inv (b := true) hvr
    subst this
    exact ⟨e1, below_of_empty g⟩


end Go.Proofs.YthakkhefhfcggaaGreatDoor
