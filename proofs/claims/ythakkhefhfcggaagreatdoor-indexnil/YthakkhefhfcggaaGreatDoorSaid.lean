/- the witness. -/
import Derived.Test.YthakkhefhfcggaaGreatDoorRow
namespace Go.Proofs.YthakkhefhfcggaaGreatDoor
open Go.ChangeShapes Go.WideShapes Go.ChangeAt Go.RowKit Go.Ev
open Go.ChangeMaps (open_string shut_string)

-- the witness's world

def lit1 : DataW Unit → List Value
  | .lit (.int k n) => [.int k n]
  | _ => []
def lit2 : DataW Unit → List Value
  | .agg l => l.flatMap lit1
  | d => lit1 d
def lit3 : DataW Unit → List Value
  | .agg l => l.flatMap lit2
  | d => lit1 d

noncomputable def laidWorld (os : Os) : World :=
  let N := (World.settled Tryz.prog os).heap.size
  let w0 := World.holding Tryz.prog os ⟨#[
    .cells #[.string ⟨#[105, 110, 118, 97, 108, 105, 100, 32, 115, 121, 110, 116, 97, 120]⟩] 540,
    .cells #[.string ⟨#[118, 97, 108, 117, 101, 32, 111, 117, 116, 32, 111, 102, 32, 114, 97, 110, 103, 101]⟩] 540], #[], []⟩
  let put (h : Array Obj) (g : Nat) (cs : Array Value) : Array Obj := h.modify g fun
    | .cells _ t frozen => .cells cs t frozen
    | o => o
  let h0 := put w0.heap 3 #[.iface 538 (.pointer (some ⟨N, 0, none⟩))]
  let h1 := put h0 4 #[.iface 538 (.pointer (some ⟨N + 1, 0, none⟩))]
  let h2 := put h1 0 (lit3 Rows.laid_unicode_utf8_first).toArray
  let h3 := put h2 1 (lit3 Rows.laid_unicode_utf8_acceptRanges).toArray
  let h4 := put h3 5 (lit3 Rows.laid_internal_strconv_uint64pow10).toArray
  let h5 := put h4 6 (lit3 Rows.laid_math_bits_deBruijn32tab).toArray
  let h6 := put h5 7 (lit3 Rows.laid_math_bits_deBruijn64tab).toArray
  { w0 with heap := h6 }

abbrev wit : Array Value := #[.agg #[.string ⟨#[]⟩, .int .i64 0, .int .i64 0, .int .i64 0], .string ⟨#[]⟩, .bool false]

theorem laid_met (os : Os) : laidMet Tryz.prog Rows.indexNilRow.laid ((laidWorld os).forCall (fun _ _ => 0) ⟨#[], wit, []⟩).memory :=
  laidMet_of_run' 8 (by kernel_rfl) (by kernel_rfl)

theorem witness_row (os : Os) {H : Type} (enc : TypeId × Value → H) :
    (OpenSpec.ofChange Rows.indexNilSpec).preRow enc Tryz.prog Tryz.f3 Rows.indexNilRow.domain false Rows.indexNilRow.laid ((laidWorld os).forCall (fun _ _ => 0) ⟨#[], wit, []⟩).memory wit := by
  have hw : (DataW.whole enc Tryz.prog ((laidWorld os).forCall (fun _ _ => 0) ⟨#[], wit, []⟩).memory Tryz.f3.params.toList Rows.indexNilSpec.vars false wit.toList 8).map (fun x => (x.1, x.2.1)) =
      some ([.agg [.lit (.string []), .agg [.lit (.int .i64 0), .lit (.int .i64 0), .lit (.int .i64 0)]], .lit (.string []), .lit (.bool false)], []) := by kernel_rfl
  obtain ⟨⟨x1, x2, x3⟩, hx, hx1⟩ := Option.map_eq_some_iff.1 hw
  simp only [Prod.mk.injEq] at hx1
  obtain ⟨rfl, rfl⟩ := hx1
  exact OpenSpec.preRow_of_cond 8 hx (by kernel_rfl) (fun k hk => by cases hk) (by kernel_rfl) (laid_met os)

theorem w_refs (os : Os) : ((laidWorld os).forCall (fun _ _ => 0) ⟨#[], wit, []⟩).variablesRefB Tryz.checked.prog = true := by kernel_rfl
theorem w_rest (os : Os) : (((laidWorld os).forCall (fun _ _ => 0) ⟨#[], wit, []⟩).heap.toList.drop Tryz.checked.prog.globals.size).take ((begin Tryz.checked.prog (fun _ _ => 0) default).world.heap.size - Tryz.checked.prog.globals.size) =
      (begin Tryz.checked.prog (fun _ _ => 0) default).world.heap.toList.drop Tryz.checked.prog.globals.size := by kernel_rfl
theorem w_ok (os : Os) : Input.okWideB Tryz.checked.prog ((laidWorld os).forCall (fun _ _ => 0) ⟨#[], wit, []⟩) 3 ⟨#[], wit, []⟩ = true := by kernel_rfl

end Go.Proofs.YthakkhefhfcggaaGreatDoor
