/- two library calls of this program, told. -/
import Derived.Test.YthakkhefhfcggaaGreatDoorEvD
import Derived.KernelRfl
import Derived.RecoverIn
import Derived.Laws.Externs
import Derived.Lib.Bytealg
import Derived.Test.YthakkhefhfcggaaGreatDoorProg
namespace Go.Ev
open Go.Proofs
variable {σ : Nat → Value} {φ φ' : Phi} {P : Program}

def cntV : List Nat → Nat → Nat
  | [], _ => 0
  | x :: l, c => match Nat.beq x c with
    | true => cntV l c + 1
    | false => cntV l c

theorem cntV_eq (c : UInt8) : ∀ l : List UInt8, cntV (l.map UInt8.toNat) c.toNat = Lib.countByte l c
  | [] => rfl
  | x :: l => by
    have ih := cntV_eq c l
    unfold Lib.countByte at ih ⊢
    simp only [List.map_cons, cntV, ih, List.count_cons]
    cases h : Nat.beq x.toNat c.toNat with
    | true =>
      have : x = c := UInt8.toNat_inj.1 (Nat.eq_of_beq_eq_true h)
      subst this
      simp
    | false =>
      have : x ≠ c := fun e => Nat.ne_of_beq_eq_false h (by rw [e])
      simp [this]

/-- bytealg.CountString, told -/
def tellCount (f0 : FuncId) : CallF := fun f args h => grd (Nat.beq f f0) (match args with
  | [.str l, .int .u8 c] => some [(.int .i64 (Int.ofNat (cntV l (c.toNat % 256))), h)]
  | _ => none)

theorem tellCount_ok {f0 : FuncId} {fn : Func} (hf : P.funcs[f0]? = some fn) (hname : (fn.name == "runtime.NumGoroutine") = false)
    (hb : fn.body.isNone = true) (hn : Extern.findNext fn = none) (he : Extern.find fn = some Extern.BytealgCount.count) : CallsOk P σ (tellCount f0) := by
  intro f l h r φ w us hr _ _ hh hv
  simp only [tellCount, grd_some] at hr
  obtain ⟨h1, h2⟩ := hr
  have h1 := Nat.eq_of_beq_eq_true h1
  subst h1
  split at h2
  · rename_i l c
    cases h2
    generalize hq : us.toList = q at hv
    cases hv with
    | cons _ u1 _ m1 hv1 hl1 =>
      cases hl1 with
      | cons _ u2 _ m2 hv2 hl2 =>
        cases hl2
        obtain ⟨s, rfl, hs⟩ := hv1.str_inv
        have := hv2.int_inv
        subst this
        have hus : us = #[.string s, .int .u8 c] := by apply Array.toList_inj.1; simpa using hq
        subst hus
        refine .inl ⟨_, w, by rw [run_callFunc_extern hf hname hb hn he, Lib.run_countString]; rfl, _, List.mem_cons_self, φ, G.refl _ _ _, hh, ?_⟩
        have : cntV l (c.toNat % 256) = Lib.countByte s.data.toList c.toNat.toUInt8 := by
          rw [← cntV_eq, hs]
          simp
        rw [this]
        exact .int _ _
  · cases h2

/-- a deferred call that finds no panic -/
def tellIdle (f0 : FuncId) : CallF := fun f args h => grd (Nat.beq f f0 && Nat.beq args.length 3) (some [(.tup [], h)])

theorem neq_nil (w : World) : (binOp .neq 20 .nilIface .nilIface).run Tryz.prog w = .ok (.bool false) w := by kernel_rfl

theorem read_idle (m : Nat) (a b c : Value) (w : World) :
    CallsDIn (W none) m Tryz.prog 90 #[a, b, c] .returning w fun e u' w' => e = .returned (.tuple #[]) ∧ u' = .returning ∧ w' = w := by
  refine callsDIn_of_wpSIn Tryz.func90 rfl trivial fun c₀ cs hu => ?_
  apply wpSIn_seq
  apply wpSIn_region
  simp [wpOpsSIn, go_sem, recoverD, hu, Tryz.f90, Exit.thenS]
  refine ⟨fun _ _ => trivial, fun _ _ => trivial, ?_⟩
  apply wpSIn_seq
  apply wpSIn_region
  simp [wpOpsSIn, go_sem, Exit.thenS, neq_nil]
  refine ⟨fun _ _ => trivial, fun _ _ => trivial, ?_⟩
  refine wpSIn_cond (t := false) (by simp [Act.eval, Array.replicate]) ?_
  simp only [Bool.false_eq_true, if_false]
  refine wpSIn_of_wpIn rfl (wpIn_skip ?_)
  cases c₀
  simp_all [bodyPostS, results]

noncomputable section
def zmrg (f : FuncId) : Bool := Nat.beq f 28 || (Nat.beq f 75 || Nat.beq f 346)

def zprim (ms : List Memo) : CallF := fun f a h => match memos ms f a h with
  | some r => some r
  | none => tellCount 414 f a h

def zcfg (ms : List Memo) : Cfg := { prim := zprim ms, defer := tellIdle 90, mrg := zmrg }
end

theorem z_defer (ms : List Memo) : DeferOk Tryz.prog σ (zcfg ms) := by
  intro f l h r φ w us m he _ _ hr hv
  simp only [zcfg, tellIdle, grd_some, Bool.and_eq_true, Option.some.injEq, List.cons.injEq, and_true] at he
  obtain ⟨⟨h1, h2⟩, rfl⟩ := he
  have h1 := Nat.eq_of_beq_eq_true h1
  have h2 := Nat.eq_of_beq_eq_true h2
  subst h1
  have h3 : us.toList.length = 3 := by rw [← hv.length]; exact h2
  obtain ⟨a, b, c, hus⟩ : ∃ a b c, us = #[a, b, c] := by
    obtain ⟨q⟩ := us
    match q, h3 with
    | [a, b, c], _ => exact ⟨a, b, c, rfl⟩
  subst hus
  refine ⟨by simp [callFunc, Tryz.func90, Tryz.f90], (read_idle m a b c w).mono fun e u' w' ⟨h1, h2, h3⟩ => ?_⟩
  subst h3
  exact ⟨_, φ, h1, h2, G.refl _ _ _, hr⟩

theorem z_mixed : Tryz.prog.follows .mixedOrders = true := by kernel_rfl

theorem z_prim {ms : List Memo} (hms : ∀ m ∈ ms, MemoOk Tryz.prog σ m) : PrimOk Tryz.prog σ (zcfg ms) :=
  or_ok (memos_ok hms) (tellCount_ok Tryz.func414 (by kernel_rfl) (by kernel_rfl) (by kernel_rfl) (by kernel_rfl))

theorem zchk (hσ : SymOk σ) {ms : List Memo} {n : Nat} {m : Memo} (hms : ∀ m ∈ ms, MemoOk Tryz.prog σ m) (h : m.chk Tryz.prog (zcfg ms) n = true) : MemoOk Tryz.prog σ m :=
  chk_ok hσ z_mixed (z_prim hms) (z_defer ms) h

end Go.Ev
