/- the evaluator is sound: values, memory, the plain operations. -/
import Derived.Test.YthakkhefhfcggaaGreatDoorEvA
import Derived.Laws.Sem
namespace Go.Ev

-- names

theorem Pos.beq_eq : ∀ {p q : Pos}, p.beq q = true → p = q
  | .pe, .pe, _ => rfl
  | .p0 p, .p0 q, h => by rw [Pos.beq_eq (p := p) (q := q) h]
  | .p1 p, .p1 q, h => by rw [Pos.beq_eq (p := p) (q := q) h]
  | .pe, .p0 _, h => by simp [Pos.beq] at h
  | .pe, .p1 _, h => by simp [Pos.beq] at h
  | .p0 _, .pe, h => by simp [Pos.beq] at h
  | .p0 _, .p1 _, h => by simp [Pos.beq] at h
  | .p1 _, .pe, h => by simp [Pos.beq] at h
  | .p1 _, .p0 _, h => by simp [Pos.beq] at h

theorem Pos.beq_refl : ∀ p : Pos, p.beq p = true
  | .pe => rfl
  | .p0 p => Pos.beq_refl p
  | .p1 p => Pos.beq_refl p

def Pos.toN : Pos → Nat
  | .pe => 1
  | .p0 p => 2 * p.toN
  | .p1 p => 2 * p.toN + 1

theorem Pos.toN_ofN : ∀ (f n : Nat), 1 ≤ n → n ≤ f → (Pos.ofN f n).toN = n
  | 0, n, h1, h => by omega
  | f + 1, n, h1, h => by
    unfold Pos.ofN
    cases hb : Nat.ble n 1 with
    | true =>
      have : n ≤ 1 := Nat.le_of_ble_eq_true hb
      simp [Pos.toN]; omega
    | false =>
      have hn : ¬ n ≤ 1 := fun h => by rw [Nat.ble_eq_true_of_le h] at hb; cases hb
      cases he : Nat.beq (n % 2) 0 with
      | true =>
        have : n % 2 = 0 := Nat.eq_of_beq_eq_true he
        simp only [Pos.toN]
        rw [Pos.toN_ofN f (n / 2) (by omega) (by omega)]; omega
      | false =>
        have : n % 2 ≠ 0 := Nat.ne_of_beq_eq_false he
        simp only [Pos.toN]
        rw [Pos.toN_ofN f (n / 2) (by omega) (by omega)]; omega

theorem Pos.toN_of (n : Nat) : (Pos.of n).toN = 2 * (n + 1) := by
  simp only [Pos.of, Pos.toN]
  rw [Pos.toN_ofN _ _ (by omega) (by omega)]

theorem Pos.of_inj {m n : Nat} (h : Pos.of m = Pos.of n) : m = n := by
  have := congrArg Pos.toN h
  simp [Pos.toN_of] at this
  omega

theorem gname_ne (g n : Nat) : gname g ≠ Pos.of n := fun h => by cases h

-- maps

section
variable {α : Type} (x : Option α)
theorem g_leaf (p : Pos) : (T.leaf : T α).get p = none := rfl
theorem g_pe (l r : T α) (v : Option α) : (T.node l v r).get .pe = v := rfl
theorem g_p0 (l r : T α) (v : Option α) (p : Pos) : (T.node l v r).get (.p0 p) = l.get p := rfl
theorem g_p1 (l r : T α) (v : Option α) (p : Pos) : (T.node l v r).get (.p1 p) = r.get p := rfl
theorem p_pe_leaf : T.put x .pe .leaf = .node .leaf x .leaf := rfl
theorem p_pe_node (l r : T α) (v : Option α) : T.put x .pe (.node l v r) = .node l x r := rfl
theorem p_p0_leaf (p : Pos) : T.put x (.p0 p) .leaf = .node (T.put x p .leaf) none .leaf := rfl
theorem p_p0_node (p : Pos) (l r : T α) (v : Option α) : T.put x (.p0 p) (.node l v r) = .node (T.put x p l) v r := rfl
theorem p_p1_leaf (p : Pos) : T.put x (.p1 p) .leaf = .node .leaf none (T.put x p .leaf) := rfl
theorem p_p1_node (p : Pos) (l r : T α) (v : Option α) : T.put x (.p1 p) (.node l v r) = .node l v (T.put x p r) := rfl
end

theorem T.get_leaf {α : Type} (p : Pos) : (T.leaf : T α).get p = none := rfl

theorem T.get_put_same {α : Type} (x : Option α) : ∀ (p : Pos) (t : T α), (T.put x p t).get p = x
  | .pe, .leaf => rfl
  | .pe, .node .. => rfl
  | .p0 p, .leaf => by rw [p_p0_leaf, g_p0, T.get_put_same x p]
  | .p0 p, .node .. => by rw [p_p0_node, g_p0, T.get_put_same x p]
  | .p1 p, .leaf => by rw [p_p1_leaf, g_p1, T.get_put_same x p]
  | .p1 p, .node .. => by rw [p_p1_node, g_p1, T.get_put_same x p]

theorem T.get_put_ne {α : Type} (x : Option α) : ∀ (p q : Pos) (t : T α), p ≠ q → (T.put x p t).get q = t.get q
  | .pe, .pe, _, h => (h rfl).elim
  | .pe, .p0 q, .leaf, _ => rfl
  | .pe, .p0 q, .node .., _ => rfl
  | .pe, .p1 q, .leaf, _ => rfl
  | .pe, .p1 q, .node .., _ => rfl
  | .p0 p, .pe, .leaf, _ => rfl
  | .p0 p, .pe, .node .., _ => rfl
  | .p0 p, .p1 q, .leaf, _ => rfl
  | .p0 p, .p1 q, .node .., _ => rfl
  | .p0 p, .p0 q, .leaf, h => by
    rw [p_p0_leaf, g_p0, T.get_put_ne x p q _ (fun e => h (by rw [e]))]; rfl
  | .p0 p, .p0 q, .node .., h => by
    rw [p_p0_node, g_p0, g_p0, T.get_put_ne x p q _ (fun e => h (by rw [e]))]
  | .p1 p, .pe, .leaf, _ => rfl
  | .p1 p, .pe, .node .., _ => rfl
  | .p1 p, .p0 q, .leaf, _ => rfl
  | .p1 p, .p0 q, .node .., _ => rfl
  | .p1 p, .p1 q, .leaf, h => by
    rw [p_p1_leaf, g_p1, T.get_put_ne x p q _ (fun e => h (by rw [e]))]; rfl
  | .p1 p, .p1 q, .node .., h => by
    rw [p_p1_node, g_p1, g_p1, T.get_put_ne x p q _ (fun e => h (by rw [e]))]

open Classical in
theorem T.get_put {α : Type} (x : Option α) (p q : Pos) (t : T α) : (T.put x p t).get q = if p = q then x else t.get q := by
  by_cases h : p = q
  · subst h; simp [T.get_put_same]
  · simp [h, T.get_put_ne x p q t h]

-- what stands for what

structure L where
  blk : Nat
  base : Nat
  lim : Nat
  sz : Nat

abbrev Phi := Pos → Option L

mutual
inductive VR (σ : Nat → Value) (φ : Phi) : V → Value → Prop
  | bool (b : Bool) : VR σ φ (.bool b) (.bool b)
  | int (k : IntKind) (n : Int) : VR σ φ (.int k n) (.int k n)
  | str (s : ByteArray) (l : List Nat) (h : s.data.toList.map UInt8.toNat = l) : VR σ φ (.str l) (.string s)
  | ptr (x : Pos) (off : Nat) (l : L) (h : φ x = some l) : VR σ φ (.ptr x off) (.pointer (some ⟨l.blk, l.base + off, none⟩))
  | pnil : VR σ φ .pnil (.pointer none)
  | sl (x : Pos) (off len cap : Nat) (op : Bool) (l : L) (cap' : Nat) (h : φ x = some l) (hc : op = false → cap' = cap)
      (ho : op = true → cap ≤ cap' ∧ off + cap' * l.sz ≤ l.lim) : VR σ φ (.sl x off len cap op) (.slice (some ⟨l.blk, l.base + off, none⟩) len cap')
  | snil : VR σ φ .snil (.slice none 0 0)
  | map (x : Pos) (l : L) (h : φ x = some l) : VR σ φ (.map x) (.map (some l.blk))
  | mnil : VR σ φ .mnil (.map none)
  | fn (f : Fn) (a b : List V) (a' b' : Array Value) (ha : VL σ φ a a'.toList) (hb : VL σ φ b b'.toList) : VR σ φ (.fn f a b) (.func f a' b')
  | fnil : VR σ φ .fnil .nilFunc
  | ifc (t : TypeId) (v : V) (u : Value) (h : VR σ φ v u) : VR σ φ (.ifc t v) (.iface t u)
  | inil : VR σ φ .inil .nilIface
  | agg (l : List V) (c : Array Value) (h : VL σ φ l c.toList) : VR σ φ (.agg l) (.agg c)
  | tup (l : List V) (c : Array Value) (h : VL σ φ l c.toList) : VR σ φ (.tup l) (.tuple c)
  | sym (n : Nat) : VR σ φ (.sym n) (σ n)
  | yield (x : Pos) (l : L) (h : φ x = some l) : VR σ φ (.yield x) (.func (.yield l.blk) #[] #[])
inductive VL (σ : Nat → Value) (φ : Phi) : List V → List Value → Prop
  | nil : VL σ φ [] []
  | cons (v : V) (u : Value) (l : List V) (m : List Value) (h : VR σ φ v u) (hl : VL σ φ l m) : VL σ φ (v :: l) (u :: m)
end

def Le (φ φ' : Phi) : Prop := ∀ x l, φ x = some l → φ' x = some l

theorem Le.refl (φ : Phi) : Le φ φ := fun _ _ h => h
theorem Le.trans {a b c : Phi} (h : Le a b) (k : Le b c) : Le a c := fun x l e => k x l (h x l e)

variable {σ : Nat → Value} {φ φ' : Phi} {P : Program}

mutual
theorem VR.mono (hle : Le φ φ') : ∀ {v : V} {u : Value}, VR σ φ v u → VR σ φ' v u
  | _, _, .bool b => .bool b
  | _, _, .int k n => .int k n
  | _, _, .str s l h => .str s l h
  | _, _, .ptr x off l h => .ptr x off l (hle _ _ h)
  | _, _, .pnil => .pnil
  | _, _, .sl x off len cap op l cap' h hc ho => .sl x off len cap op l cap' (hle _ _ h) hc ho
  | _, _, .snil => .snil
  | _, _, .map x l h => .map x l (hle _ _ h)
  | _, _, .mnil => .mnil
  | _, _, .fn f a b a' b' ha hb => .fn f a b a' b' (VL.mono hle ha) (VL.mono hle hb)
  | _, _, .fnil => .fnil
  | _, _, .ifc t v u h => .ifc t v u (VR.mono hle h)
  | _, _, .inil => .inil
  | _, _, .agg l c h => .agg l c (VL.mono hle h)
  | _, _, .tup l c h => .tup l c (VL.mono hle h)
  | _, _, .sym n => .sym n
  | _, _, .yield x l h => .yield x l (hle _ _ h)
theorem VL.mono (hle : Le φ φ') : ∀ {l : List V} {m : List Value}, VL σ φ l m → VL σ φ' l m
  | _, _, .nil => .nil
  | _, _, .cons v u l m h hl => .cons v u l m (VR.mono hle h) (VL.mono hle hl)
end

theorem VL.length : ∀ {l : List V} {m : List Value}, VL σ φ l m → l.length = m.length
  | _, _, .nil => rfl
  | _, _, .cons _ _ _ _ _ hl => by simp [VL.length hl]

theorem VL.get : ∀ {l : List V} {m : List Value}, VL σ φ l m → ∀ (i : Nat) (v : V), l[i]? = some v → ∃ u, m[i]? = some u ∧ VR σ φ v u
  | _, _, .nil, i, v, h => by simp at h
  | _, _, .cons v u l m h hl, 0, v', e => by simp at e; subst e; exact ⟨u, by simp, h⟩
  | _, _, .cons v u l m h hl, i + 1, v', e => by
    obtain ⟨u', hu, hr⟩ := VL.get hl i v' (by simpa using e)
    exact ⟨u', by simpa using hu, hr⟩

theorem VL.of_get : ∀ {l : List V} {m : List Value}, l.length = m.length → (∀ (i : Nat) (v : V), l[i]? = some v → ∃ u, m[i]? = some u ∧ VR σ φ v u) → VL σ φ l m
  | [], [], _, _ => .nil
  | [], _ :: _, h, _ => by simp at h
  | _ :: _, [], h, _ => by simp at h
  | v :: l, u :: m, h, hg => by
    refine .cons _ _ _ _ ?_ (VL.of_get (by simpa using h) fun i x hx => ?_)
    · obtain ⟨u', hu, hr⟩ := hg 0 v (by simp)
      simp at hu; subst hu; exact hr
    · obtain ⟨u', hu, hr⟩ := hg (i + 1) x (by simpa using hx)
      exact ⟨u', by simpa using hu, hr⟩

theorem VL.append : ∀ {l : List V} {m : List Value} {l' : List V} {m' : List Value}, VL σ φ l m → VL σ φ l' m' → VL σ φ (l ++ l') (m ++ m')
  | _, _, _, _, .nil, h => h
  | _, _, _, _, .cons v u l m h hl, k => .cons _ _ _ _ h (VL.append hl k)

theorem VL.drop : ∀ {l : List V} {m : List Value} (n : Nat), VL σ φ l m → VL σ φ (l.drop n) (m.drop n)
  | _, _, 0, h => by simpa using h
  | _, _, n + 1, .nil => by simpa using .nil
  | _, _, n + 1, .cons v u l m h hl => by simpa using VL.drop n hl

theorem VL.take : ∀ {l : List V} {m : List Value} (n : Nat), VL σ φ l m → VL σ φ (l.take n) (m.take n)
  | _, _, 0, h => by simpa using .nil
  | _, _, n + 1, .nil => by simpa using .nil
  | _, _, n + 1, .cons v u l m h hl => by simpa using .cons _ _ _ _ h (VL.take n hl)

theorem VL.singleton {v : V} {u : Value} (h : VR σ φ v u) : VL σ φ [v] [u] := .cons _ _ _ _ h .nil

-- inversions
theorem VR.bool_inv {b : Bool} {u : Value} (h : VR σ φ (.bool b) u) : u = .bool b := by cases h; rfl
theorem VR.int_inv {k : IntKind} {n : Int} {u : Value} (h : VR σ φ (.int k n) u) : u = .int k n := by cases h; rfl
theorem VR.str_inv {l : List Nat} {u : Value} (h : VR σ φ (.str l) u) : ∃ s : ByteArray, u = .string s ∧ s.data.toList.map UInt8.toNat = l := by cases h with | str s l h => exact ⟨s, rfl, h⟩
theorem VR.ptr_inv {x : Pos} {off : Nat} {u : Value} (h : VR σ φ (.ptr x off) u) : ∃ l, φ x = some l ∧ u = .pointer (some ⟨l.blk, l.base + off, none⟩) := by cases h with | ptr x off l h => exact ⟨l, h, rfl⟩
theorem VR.agg_inv {l : List V} {u : Value} (h : VR σ φ (.agg l) u) : ∃ c : Array Value, u = .agg c ∧ VL σ φ l c.toList := by cases h with | agg l c h => exact ⟨c, rfl, h⟩
theorem VR.tup_inv {l : List V} {u : Value} (h : VR σ φ (.tup l) u) : ∃ c : Array Value, u = .tuple c ∧ VL σ φ l c.toList := by cases h with | tup l c h => exact ⟨c, rfl, h⟩
theorem VR.map_inv {x : Pos} {u : Value} (h : VR σ φ (.map x) u) : ∃ l, φ x = some l ∧ u = .map (some l.blk) := by cases h with | map x l h => exact ⟨l, h, rfl⟩
theorem VR.sl_inv {x : Pos} {off len cap : Nat} {op : Bool} {u : Value} (h : VR σ φ (.sl x off len cap op) u) :
    ∃ l cap', φ x = some l ∧ (op = false → cap' = cap) ∧ (op = true → cap ≤ cap' ∧ off + cap' * l.sz ≤ l.lim) ∧ u = .slice (some ⟨l.blk, l.base + off, none⟩) len cap' := by
  cases h with | sl _ _ _ _ _ l cap' h hc ho => exact ⟨l, cap', h, hc, ho, rfl⟩
theorem VR.fn_inv {f : Fn} {a b : List V} {u : Value} (h : VR σ φ (.fn f a b) u) : ∃ a' b' : Array Value, u = .func f a' b' ∧ VL σ φ a a'.toList ∧ VL σ φ b b'.toList := by
  cases h with | fn _ _ _ a' b' ha hb => exact ⟨a', b', rfl, ha, hb⟩
theorem VR.ifc_inv {t : TypeId} {v : V} {u : Value} (h : VR σ φ (.ifc t v) u) : ∃ w, u = .iface t w ∧ VR σ φ v w := by cases h with | ifc _ _ w h => exact ⟨w, rfl, h⟩

/-- symbols stand for values of one cell -/
def SymOk (σ : Nat → Value) : Prop := ∀ n, (σ n).oneCell' = true

theorem Value.cells_one {u : Value} (h : u.oneCell' = true) : u.cells = #[u] := by cases u <;> simp_all [Value.oneCell', Value.cells]

theorem VR.one (hσ : SymOk σ) {v : V} {u : Value} (h : VR σ φ v u) (hv : v.one = true) : u.oneCell' = true := by
  cases h with
  | sym n => exact hσ n
  | _ => first | rfl | (simp [V.one] at hv)

theorem VR.cells (hσ : SymOk σ) {v : V} {u : Value} (h : VR σ φ v u) : VL σ φ v.cells u.cells.toList := by
  cases h with
  | agg l c h => simpa [V.cells, Value.cells] using h
  | sym n => simpa [V.cells, Value.cells_one (hσ n)] using VL.singleton (.sym n)
  | _ => simp only [V.cells, Value.cells]; exact VL.singleton (by constructor <;> assumption)

-- constants
theorem scalar_ok {u : Value} {v : V} (h : scalar u = some v) : VR σ φ v u := by
  unfold scalar at h
  split at h
  all_goals first
    | (cases h; done)
    | (cases h; constructor; done)
    | (cases h; exact .str _ _ rfl)
    | skip
  · split at h
    · rename_i h1 h2
      cases h
      exact .fn _ _ _ _ _ (by rw [h1]; exact .nil) (by rw [h2]; exact .nil)
    · cases h

theorem scalars_ok : ∀ {us : List Value} {vs : List V}, scalars us = some vs → VL σ φ vs us
  | [], vs, h => by simp [scalars] at h; subst h; exact .nil
  | u :: us, vs, h => by
    simp only [scalars, Option.bind_eq_some_iff] at h
    obtain ⟨x, hx, xs, hxs, he⟩ := h
    cases he
    exact .cons _ _ _ _ (scalar_ok hx) (scalars_ok hxs)

theorem ofValue_ok {u : Value} {v : V} (h : ofValue u = some v) : VR σ φ v u := by
  unfold ofValue at h
  split at h
  · simp only [Option.bind_eq_some_iff] at h
    obtain ⟨l, hl, he⟩ := h
    cases he
    exact .agg _ _ (scalars_ok hl)
  · simp only [Option.bind_eq_some_iff] at h
    obtain ⟨l, hl, he⟩ := h
    cases he
    exact .tup _ _ (scalars_ok hl)
  · exact scalar_ok h

-- objects

def ER (σ : Nat → Value) (φ : Phi) (e : V × V × Nat) (m : MapEntry) : Prop := VR σ φ e.1 m.key ∧ VR σ φ e.2.1 m.val ∧ m.born = e.2.2

inductive EL (σ : Nat → Value) (φ : Phi) : List (V × V × Nat) → List MapEntry → Prop
  | nil : EL σ φ [] []
  | cons (e : V × V × Nat) (m : MapEntry) (l : List (V × V × Nat)) (k : List MapEntry) (h : ER σ φ e m) (hl : EL σ φ l k) : EL σ φ (e :: l) (m :: k)

theorem EL.mono (hle : Le φ φ') : ∀ {l : List (V × V × Nat)} {k : List MapEntry}, EL σ φ l k → EL σ φ' l k
  | _, _, .nil => .nil
  | _, _, .cons e m l k h hl => .cons e m l k ⟨h.1.mono hle, h.2.1.mono hle, h.2.2⟩ (EL.mono hle hl)

def ObjR (P : Program) (σ : Nat → Value) (φ : Phi) (l : L) : O → Obj → Prop
  | .row e cs op _ fz, ob => ∃ c fr, ob = .cells c e fr ∧ l.base + l.lim = c.size ∧ cs.length ≤ l.lim ∧ (op = false → l.base = 0 ∧ cs.length = l.lim) ∧
      cellsOf P e = some l.sz ∧ (fz = false → ∀ i, l.base ≤ i → i < c.size → ¬ (fr.1 ≤ i ∧ i < fr.2)) ∧
      (∀ i v, cs[i]? = some v → ∃ u, c[l.base + i]? = some u ∧ VR σ φ v u)
  | .map es clock, ob => ∃ es', ob = .map es' clock ∧ EL σ φ es es'.toList
  | .it m since seen stepped, ob => l.base = 0 ∧ ∃ m', ob = .mapIter m' since seen.toArray stepped ∧ ((m = none ∧ m' = none) ∨ ∃ x l, m = some x ∧ φ x = some l ∧ m' = some l.blk)
  | .loop busy tm n ps asg body, ob => ∃ r : Loop, ob = .loop r ∧ r.state = (match busy with | true => .busy | false => .ready) ∧ r.pending = none ∧ r.tmps.size = n ∧ r.params.toList = ps ∧ r.assign = asg ∧ r.body = body ∧
      (∀ t v, tm.get (Pos.of t) = some v → ∃ u, r.tmps[t]? = some u ∧ VR σ φ v u)
  | .dfr, ob => ob = .deferred (some [])
  | .sit s pos, ob => l.base = 0 ∧ ∃ s' : ByteArray, ob = .stringIter s' pos ∧ s'.data.toList.map UInt8.toNat = s

theorem ObjR.mono (hle : Le φ φ') {l : L} {o : O} {ob : Obj} (h : ObjR P σ φ l o ob) : ObjR P σ φ' l o ob := by
  cases o with
  | row e cs op g fz =>
    obtain ⟨c, fr, h1, h2, h3, h4, h5, h6, h7⟩ := h
    exact ⟨c, fr, h1, h2, h3, h4, h5, h6, fun i v hv => by obtain ⟨u, hu, hr⟩ := h7 i v hv; exact ⟨u, hu, hr.mono hle⟩⟩
  | map es clock => obtain ⟨es', h1, h2⟩ := h; exact ⟨es', h1, h2.mono hle⟩
  | it m a b c =>
    obtain ⟨h0, m', h1, h2⟩ := h
    refine ⟨h0, m', h1, h2.imp id ?_⟩
    rintro ⟨x, l, e1, e2, e3⟩
    exact ⟨x, l, e1, hle _ _ e2, e3⟩
  | sit s p => exact h
  | loop busy tm n ps asg body =>
    obtain ⟨r, h1, h2, h3, h4, h5, h6, h7, h8⟩ := h
    exact ⟨r, h1, h2, h3, h4, h5, h6, h7, fun t v ht => by obtain ⟨u, hu, hr⟩ := h8 t v ht; exact ⟨u, hu, hr.mono hle⟩⟩
  | dfr => exact h

def O.grp : O → Option Pos
  | .row _ _ _ g _ => g
  | _ => none

/-- an abstract heap stands in a world -/
structure Holds (P : Program) (σ : Nat → Value) (φ : Phi) (A : Pos → Option O) (w : World) : Prop where
  obj : ∀ x o, A x = some o → ∃ l ob, φ x = some l ∧ w.heap[l.blk]? = some ob ∧ ObjR P σ φ l o ob
  sep : ∀ x y ox oy lx ly, A x = some ox → A y = some oy → φ x = some lx → φ y = some ly → lx.blk = ly.blk → x = y ∨ ∃ g, ox.grp = some g ∧ oy.grp = some g ∧ lx.base = ly.base

/-- the lists of groups name all their members -/
def Grps (A : Pos → Option O) (G : Pos → Option (List Pos)) : Prop := ∀ x o g, A x = some o → o.grp = some g → ∃ l, G g = some l ∧ x ∈ l

structure HR (P : Program) (σ : Nat → Value) (φ : Phi) (h : H) (w : World) : Prop where
  holds : Holds P σ φ h.heap.get w
  grps : Grps h.heap.get h.grps.get

def Fresh (φ : Phi) (lo hi : Nat) : Prop := ∀ n, lo ≤ n → n < hi → φ (Pos.of n) = none

/-- a block that an abstract heap has -/
def Blk (φ : Phi) (A : Pos → Option O) (b : Nat) : Prop := ∃ x o l, A x = some o ∧ φ x = some l ∧ l.blk = b

/-- what is promised of a step -/
structure G (φ : Phi) (h : H) (w : World) (φ' : Phi) (h' : H) (w' : World) : Prop where
  next : h.next ≤ h'.next
  ext : ∀ x, (∀ n, h.next ≤ n → n < h'.next → x ≠ Pos.of n) → φ' x = φ x
  blks : ∀ b, Blk φ' h'.heap.get b → Blk φ h.heap.get b ∨ w.heap.size ≤ b
  size : w.heap.size ≤ w'.heap.size
  same : ∀ b, b < w.heap.size → ¬ Blk φ h.heap.get b → w'.heap[b]? = w.heap[b]?
  os : w'.os = w.os
  tape : w'.tape = w.tape
  out : w'.output = w.output

theorem G.le {h h' : H} {w w' : World} (g : G φ h w φ' h' w') (hf : Fresh φ h.next h'.next) : Le φ φ' := by
  intro x l hx
  rw [g.ext x ?_, hx]
  intro n h1 h2 e
  rw [e, hf n h1 h2] at hx
  cases hx

theorem G.fresh {h h' : H} {w w' : World} (g : G φ h w φ' h' w') {hi : Nat} (hf : Fresh φ h.next hi) : Fresh φ' h'.next hi := by
  intro n h1 h2
  rw [g.ext (Pos.of n) ?_]
  · exact hf n (Nat.le_trans g.next h1) h2
  · intro m h3 h4 e
    have := Pos.of_inj e
    omega

theorem Fresh.mono {lo hi hi' : Nat} (h : Fresh φ lo hi) (hle : hi' ≤ hi) : Fresh φ lo hi' := fun n a b => h n a (by omega)

theorem G.refl (φ : Phi) (h : H) (w : World) : G φ h w φ h w :=
  ⟨Nat.le_refl _, fun _ _ => rfl, fun _ h => .inl h, Nat.le_refl _, fun _ _ _ => rfl, rfl, rfl, rfl⟩

theorem G.trans {φ₁ φ₂ : Phi} {h h₁ h₂ : H} {w w₁ w₂ : World} (a : G φ h w φ₁ h₁ w₁) (b : G φ₁ h₁ w₁ φ₂ h₂ w₂) : G φ h w φ₂ h₂ w₂ where
  next := Nat.le_trans a.next b.next
  ext x hx := by
    rw [b.ext x fun n h1 h2 => hx n (Nat.le_trans a.next h1) h2, a.ext x fun n h1 h2 => hx n h1 (Nat.lt_of_lt_of_le h2 b.next)]
  blks c hc := by
    rcases b.blks c hc with h | h
    · exact a.blks c h
    · exact .inr (Nat.le_trans a.size h)
  size := Nat.le_trans a.size b.size
  same c hc hn := by
    rw [b.same c (Nat.lt_of_lt_of_le hc a.size) ?_, a.same c hc hn]
    intro hb
    rcases a.blks c hb with h | h
    · exact hn h
    · omega
  os := b.os.trans a.os
  tape := b.tape.trans a.tape
  out := b.out.trans a.out

theorem Holds.weaken {A A' : Pos → Option O} {w : World} (h : Holds P σ φ A w) (hs : ∀ x o, A' x = some o → A x = some o) : Holds P σ φ A' w :=
  ⟨fun x o hx => h.obj x o (hs x o hx), fun x y ox oy lx ly hx hy => h.sep x y ox oy lx ly (hs _ _ hx) (hs _ _ hy)⟩

theorem Holds.lt {A : Pos → Option O} {w : World} (h : Holds P σ φ A w) {b : Nat} (hb : Blk φ A b) : b < w.heap.size := by
  obtain ⟨x, o, l, hx, hl, rfl⟩ := hb
  obtain ⟨l', ob, h1, h2, _⟩ := h.obj x o hx
  rw [hl] at h1; cases h1
  exact (Array.getElem?_eq_some_iff.1 h2).1

theorem Holds.heap {A : Pos → Option O} {w w' : World} (h : Holds P σ φ A w) (he : ∀ b, Blk φ A b → w'.heap[b]? = w.heap[b]?) : Holds P σ φ A w' := by
  refine ⟨fun x o hx => ?_, h.sep⟩
  obtain ⟨l, ob, h1, h2, h3⟩ := h.obj x o hx
  exact ⟨l, ob, h1, by rw [he _ ⟨x, o, l, hx, h1, rfl⟩]; exact h2, h3⟩

theorem Holds.mono {A : Pos → Option O} {w : World} (h : Holds P σ φ A w) (hle : Le φ φ') : Holds P σ φ' A w := by
  refine ⟨fun x o hx => ?_, fun x y ox oy lx ly hx hy h1 h2 => ?_⟩
  · obtain ⟨l, ob, h1, h2, h3⟩ := h.obj x o hx
    exact ⟨l, ob, hle _ _ h1, h2, h3.mono hle⟩
  · obtain ⟨l1, _, e1, _⟩ := h.obj x ox hx
    obtain ⟨l2, _, e2, _⟩ := h.obj y oy hy
    have := hle _ _ e1; rw [h1] at this; cases this
    have := hle _ _ e2; rw [h2] at this; cases this
    exact h.sep x y ox oy lx ly hx hy e1 e2

end Go.Ev

namespace Go.Ev
variable {σ : Nat → Value} {φ φ' : Phi} {P : Program}

/-- φ with one more name -/
noncomputable def Phi.put (φ : Phi) (x : Pos) (l : L) : Phi := fun y => open Classical in if x = y then some l else φ y

theorem Phi.put_same (φ : Phi) (x : Pos) (l : L) : φ.put x l x = some l := by simp [Phi.put]
theorem Phi.put_ne (φ : Phi) (x y : Pos) (l : L) (h : x ≠ y) : φ.put x l y = φ y := by simp [Phi.put, h]

theorem Phi.le_put {x : Pos} {l : L} (h : φ x = none) : Le φ (φ.put x l) := by
  intro y l' hy
  by_cases e : x = y
  · subst e; rw [h] at hy; cases hy
  · rw [Phi.put_ne _ _ _ _ e]; exact hy

theorem push_old (heap : Array Obj) (o : Obj) (b : Nat) (hb : b < heap.size) : (heap.push o)[b]? = heap[b]? := by
  simp [Array.getElem?_push, Nat.ne_of_lt hb]

theorem blk_put_none {A : Pos → Option O} {x : Pos} {o : O} {l : L} {b : Nat}
    (h : Blk (φ.put x l) (fun y => open Classical in if x = y then some o else A y) b) : Blk φ A b ∨ b = l.blk := by
  obtain ⟨y, oy, ly, h1, h2, h3⟩ := h
  by_cases e : x = y
  · subst e
    rw [Phi.put_same] at h2; cases h2; exact .inr h3.symm
  · simp only [e, if_false] at h1
    rw [Phi.put_ne _ _ _ _ e] at h2
    exact .inl ⟨y, oy, ly, h1, h2, h3⟩

/-- a new object -/
theorem hr_new {h : H} {w : World} {o : O} {ob : Obj} {l : L} (hr : HR P σ φ h w) (hf : φ (Pos.of h.next) = none) (hb : l.blk = w.heap.size) (hg : o.grp = none)
    (ho : ObjR P σ (φ.put (Pos.of h.next) l) l o ob) :
    HR P σ (φ.put (Pos.of h.next) l) (h.new o) { w with heap := w.heap.push ob } ∧ G φ h w (φ.put (Pos.of h.next) l) (h.new o) { w with heap := w.heap.push ob } := by
  have hle := Phi.le_put (l := l) hf
  have hget : ∀ y, (h.new o).heap.get y = open Classical in if Pos.of h.next = y then some o else h.heap.get y := fun y => by
    simp only [H.new]; rw [T.get_put]
  have hfun : (h.new o).heap.get = fun y => open Classical in if Pos.of h.next = y then some o else h.heap.get y := funext hget
  have hold : ∀ y oy, h.heap.get y = some oy → Pos.of h.next ≠ y := fun y oy hy e => by
    obtain ⟨ly, _, hl, _⟩ := hr.holds.obj y oy hy
    rw [← e, hf] at hl; cases hl
  refine ⟨⟨⟨fun y oy hy => ?_, fun y z oy oz ly lz hy hz hly hlz hbb => ?_⟩, fun y oy g hy hgy => ?_⟩, ?_⟩
  · rw [hget] at hy
    by_cases e : Pos.of h.next = y
    · simp only [e, if_true] at hy; cases hy
      subst e
      exact ⟨l, ob, Phi.put_same _ _ _, by rw [hb]; simp, ho⟩
    · simp only [e, if_false] at hy
      obtain ⟨ly, oby, h1, h2, h3⟩ := hr.holds.obj y oy hy
      exact ⟨ly, oby, hle _ _ h1, by rw [push_old _ _ _ (Array.getElem?_eq_some_iff.1 h2).1]; exact h2, h3.mono hle⟩
  · rw [hget] at hy hz
    by_cases e1 : Pos.of h.next = y
    · by_cases e2 : Pos.of h.next = z
      · exact .inl (e1.symm.trans e2)
      · simp only [e2, if_false] at hz
        rw [Phi.put_ne _ _ _ _ e2] at hlz
        subst e1
        rw [Phi.put_same] at hly; cases hly
        have := hr.holds.lt ⟨z, oz, lz, hz, hlz, rfl⟩
        omega
    · simp only [e1, if_false] at hy
      rw [Phi.put_ne _ _ _ _ e1] at hly
      by_cases e2 : Pos.of h.next = z
      · subst e2
        rw [Phi.put_same] at hlz; cases hlz
        have := hr.holds.lt ⟨y, oy, ly, hy, hly, rfl⟩
        omega
      · simp only [e2, if_false] at hz
        rw [Phi.put_ne _ _ _ _ e2] at hlz
        exact hr.holds.sep y z oy oz ly lz hy hz hly hlz hbb
  · rw [hget] at hy
    by_cases e : Pos.of h.next = y
    · simp only [e, if_true] at hy; cases hy
      rw [hg] at hgy; cases hgy
    · simp only [e, if_false] at hy
      exact hr.grps y oy g hy hgy
  · refine ⟨by simp [H.new], fun x hx => ?_, fun b hbk => ?_, by simp, fun b hb' _ => push_old _ _ _ hb', rfl, rfl, rfl⟩
    · exact Phi.put_ne _ _ _ _ (fun e => hx h.next (Nat.le_refl _) (by simp [H.new]) e.symm)
    · rw [hfun] at hbk
      rcases blk_put_none hbk with h' | h'
      · exact .inl h'
      · exact .inr (by omega)

/-- a block turned into another that stands for another object of the same name -/
theorem hr_set {h : H} {w : World} {x : Pos} {o o' : O} {ob' : Obj} {l : L} (hr : HR P σ φ h w) (hx : h.heap.get x = some o) (hl : φ x = some l)
    (hg : o.grp = none) (hg' : o'.grp = none) (ho : ObjR P σ φ l o' ob') :
    HR P σ φ (h.set x o') { w with heap := w.heap.setIfInBounds l.blk ob' } ∧ G φ h w φ (h.set x o') { w with heap := w.heap.setIfInBounds l.blk ob' } := by
  obtain ⟨l0, ob, h1, h2, _⟩ := hr.holds.obj x o hx
  rw [hl] at h1; cases h1
  have hlt := (Array.getElem?_eq_some_iff.1 h2).1
  have hget : ∀ y, (h.set x o').heap.get y = open Classical in if x = y then some o' else h.heap.get y := fun y => by
    simp only [H.set]; rw [T.get_put]
  have apart : ∀ y oy ly, x ≠ y → h.heap.get y = some oy → φ y = some ly → ly.blk ≠ l.blk := fun y oy ly hne hy hly e => by
    rcases hr.holds.sep x y o oy l ly hx hy hl hly e.symm with h' | ⟨g, h', _⟩
    · exact hne h'
    · rw [hg] at h'; cases h'
  have hblk : ∀ b, Blk φ (h.set x o').heap.get b ↔ Blk φ h.heap.get b := fun b => by
    constructor
    · rintro ⟨y, oy, ly, e1, e2, e3⟩
      rw [hget] at e1
      by_cases e : x = y
      · subst e; exact ⟨x, o, ly, hx, e2, e3⟩
      · simp only [e, if_false] at e1; exact ⟨y, oy, ly, e1, e2, e3⟩
    · rintro ⟨y, oy, ly, e1, e2, e3⟩
      by_cases e : x = y
      · subst e; exact ⟨x, o', ly, by rw [hget]; simp, e2, e3⟩
      · exact ⟨y, oy, ly, by rw [hget]; simpa [e] using e1, e2, e3⟩
  refine ⟨⟨⟨fun y oy hy => ?_, fun y z oy oz ly lz hy hz hly hlz hbb => ?_⟩, fun y oy g hy hgy => ?_⟩, ?_⟩
  · rw [hget] at hy
    by_cases e : x = y
    · subst e; simp at hy; subst hy
      exact ⟨l, ob', hl, by simp [hlt], ho⟩
    · simp only [e, if_false] at hy
      obtain ⟨ly, oby, e1, e2, e3⟩ := hr.holds.obj y oy hy
      exact ⟨ly, oby, e1, by
        have := apart y oy ly e hy e1
        simp only [Array.getElem?_setIfInBounds_ne (Ne.symm this)]; exact e2, e3⟩
  · rw [hget] at hy hz
    by_cases e1 : x = y
    · by_cases e2 : x = z
      · exact .inl (e1.symm.trans e2)
      · simp only [e2, if_false] at hz
        subst e1
        rw [hl] at hly; cases hly
        exact (apart z oz lz e2 hz hlz hbb.symm).elim
    · simp only [e1, if_false] at hy
      by_cases e2 : x = z
      · subst e2
        rw [hl] at hlz; cases hlz
        exact (apart y oy ly e1 hy hly hbb).elim
      · simp only [e2, if_false] at hz
        exact hr.holds.sep y z oy oz ly lz hy hz hly hlz hbb
  · rw [hget] at hy
    by_cases e : x = y
    · subst e; simp at hy; subst hy; rw [hg'] at hgy; cases hgy
    · simp only [e, if_false] at hy; exact hr.grps y oy g hy hgy
  · refine ⟨Nat.le_refl _, fun _ _ => rfl, fun b hb => .inl ((hblk b).1 hb), by simp, fun b _ hb => ?_, rfl, rfl, rfl⟩
    have : l.blk ≠ b := fun e => hb ⟨x, o, l, hx, hl, e⟩
    simp [Array.getElem?_setIfInBounds_ne this]

/-- what is given up is not missed -/
theorem dropOthers_sub (x : Pos) (frm : Nat) : ∀ (l : List Pos) (t : T O) (y : Pos) (o : O), (dropOthers x frm l t).get y = some o → t.get y = some o
  | [], t, y, o, h => h
  | z :: l, t, y, o, h => by
    unfold dropOthers at h
    split at h
    · exact dropOthers_sub x frm l t y o h
    · split at h
      · split at h
        · exact dropOthers_sub x frm l t y o h
        · have := dropOthers_sub x frm l _ y o h
          rw [T.get_put] at this
          split at this
          · cases this
          · exact this
      · exact dropOthers_sub x frm l t y o h

theorem dropOthers_keeps (x : Pos) (frm : Nat) : ∀ (l : List Pos) (t : T O) (o : O), t.get x = some o → (dropOthers x frm l t).get x = some o
  | [], t, o, h => h
  | z :: l, t, o, h => by
    unfold dropOthers
    split
    · exact dropOthers_keeps x frm l t o h
    · rename_i hne
      split
      · split
        · exact dropOthers_keeps x frm l t o h
        · refine dropOthers_keeps x frm l _ o ?_
          rw [T.get_put_ne _ _ _ _ (fun e => ?_)]
          · exact h
          · subst e; rw [Pos.beq_refl] at hne; cases hne
      · exact dropOthers_keeps x frm l t o h

/-- of the others, those that stay end ahead of the cell -/
theorem dropOthers_short (x : Pos) (frm : Nat) : ∀ (l : List Pos) (t : T O) (y : Pos) (e : TypeId) (cs : List V) (op : Bool) (g : Option Pos) (fz : Bool),
    y ∈ l → y ≠ x → (dropOthers x frm l t).get y = some (.row e cs op g fz) → cs.length ≤ frm
  | [], t, y, e, cs, op, g, fz, hm, _, _ => by cases hm
  | z :: l, t, y, e, cs, op, g, fz, hm, hne, h => by
    unfold dropOthers at h
    by_cases hz : y = z
    · subst hz
      have hb : y.beq x = false := by
        cases hb : y.beq x with
        | true => exact (hne (Pos.beq_eq hb)).elim
        | false => rfl
      rw [hb] at h
      simp only at h
      split at h
      · rename_i cs' _ _ _ hrow
        split at h
        · rename_i hle
          have := dropOthers_sub x frm l t y _ h
          rw [hrow] at this; cases this
          exact Nat.le_of_ble_eq_true hle
        · have := dropOthers_sub x frm l _ y _ h
          rw [T.get_put_same] at this; cases this
      · rename_i hno
        have := dropOthers_sub x frm l t y _ h
        exact (hno _ _ _ _ _ this).elim
    · have hm' : y ∈ l := by
        cases hm with
        | head => exact (hz rfl).elim
        | tail _ h => exact h
      split at h
      · exact dropOthers_short x frm l t y e cs op g fz hm' hne h
      · split at h
        · split at h
          · exact dropOthers_short x frm l t y e cs op g fz hm' hne h
          · exact dropOthers_short x frm l _ y e cs op g fz hm' hne h
        · exact dropOthers_short x frm l t y e cs op g fz hm' hne h

theorem H.row?_some {h : H} {x : Pos} {r : TypeId × List V × Bool × Option Pos × Bool} : h.row? x = some r ↔ h.heap.get x = some (.row r.1 r.2.1 r.2.2.1 r.2.2.2.1 r.2.2.2.2) := by
  obtain ⟨e, cs, op, g, fz⟩ := r
  unfold H.row?
  constructor
  · intro hh
    split at hh
    · rename_i h1; cases hh; exact h1
    · cases hh
  · intro hh; simp [hh]

theorem H.map?_some {h : H} {x : Pos} {r : List (V × V × Nat) × Nat} : h.map? x = some r ↔ h.heap.get x = some (.map r.1 r.2) := by
  obtain ⟨es, c⟩ := r
  unfold H.map?
  constructor
  · intro hh
    split at hh
    · rename_i h1; cases hh; exact h1
    · cases hh
  · intro hh; simp [hh]

theorem H.it?_some {h : H} {x : Pos} {r : Option Pos × Nat × List Nat × Nat} : h.it? x = some r ↔ h.heap.get x = some (.it r.1 r.2.1 r.2.2.1 r.2.2.2) := by
  obtain ⟨m, a, b, c⟩ := r
  unfold H.it?
  constructor
  · intro hh
    split at hh
    · rename_i h1; cases hh; exact h1
    · cases hh
  · intro hh; simp [hh]

theorem H.sit?_some {h : H} {x : Pos} {r : List Nat × Nat} : h.sit? x = some r ↔ h.heap.get x = some (.sit r.1 r.2) := by
  obtain ⟨m, a⟩ := r
  unfold H.sit?
  constructor
  · intro hh
    split at hh
    · rename_i h1; cases hh; exact h1
    · cases hh
  · intro hh; simp [hh]

/-- a row in a world: its cells -/
theorem HR.row {h : H} {w : World} (hr : HR P σ φ h w) {x : Pos} {e : TypeId} {cs : List V} {op : Bool} {g : Option Pos} {fz : Bool} (hx : h.heap.get x = some (.row e cs op g fz)) {l : L} (hl : φ x = some l) :
    ∃ c fr, w.heap[l.blk]? = some (.cells c e fr) ∧ l.base + l.lim = c.size ∧ cs.length ≤ l.lim ∧ (op = false → l.base = 0 ∧ cs.length = l.lim) ∧ cellsOf P e = some l.sz ∧
      (fz = false → ∀ i, l.base ≤ i → i < c.size → ¬ (fr.1 ≤ i ∧ i < fr.2)) ∧ (∀ i v, cs[i]? = some v → ∃ u, c[l.base + i]? = some u ∧ VR σ φ v u) := by
  obtain ⟨l0, ob, h1, h2, c, fr, rfl, h3⟩ := hr.holds.obj x _ hx
  rw [hl] at h1; cases h1
  exact ⟨c, fr, h2, h3⟩

theorem cell_of_block {w : World} {b : Nat} {c : Array Value} {e : TypeId} {fr : Nat × Nat} (h : w.heap[b]? = some (.cells c e fr)) (o : Nat) : w.cell? ⟨b, o, none⟩ = c[o]? := by
  simp [World.cell?, h]

theorem frozen_of_block {w : World} {b : Nat} {c : Array Value} {e : TypeId} {fr : Nat × Nat} (h : w.heap[b]? = some (.cells c e fr)) (o : Nat) : w.frozen? ⟨b, o, none⟩ = (decide (fr.1 ≤ o) && decide (o < fr.2)) := by
  simp [World.frozen?, h]

theorem addr_add (b o n : Nat) : (⟨b, o, none⟩ : Addr).add n = ⟨b, o + n, none⟩ := by unfold Addr.add; split <;> simp_all

/-- the cells that are read -/
theorem HR.cells {h : H} {w : World} (hr : HR P σ φ h w) {x : Pos} {off n : Nat} {vs : List V} (hc : h.cells x off n = some vs) {l : L} (hl : φ x = some l) :
    ∃ us : List Value, VL σ φ vs us ∧ us.length = n ∧ ∀ j u, us[j]? = some u → w.cell? ⟨l.blk, l.base + off + j, none⟩ = some u := by
  simp only [H.cells, Option.bind_eq_some_iff, grd_some] at hc
  obtain ⟨r, hrow, hb, he⟩ := hc
  cases he
  have hx := H.row?_some.1 hrow
  have hle := Nat.le_of_ble_eq_true hb
  obtain ⟨c, fr, h1, h2, h3, _, _, _, h7⟩ := hr.row hx hl
  refine ⟨((c.toList.drop (l.base + off)).take n), ?_, ?_, ?_⟩
  · refine VL.of_get ?_ ?_
    · simp; omega
    · intro i v hi
      rw [List.getElem?_take] at hi ⊢
      split at hi
      · rename_i hin
        simp only [hin, if_true]
        rw [List.getElem?_drop] at hi ⊢
        obtain ⟨u, hu, hv⟩ := h7 (off + i) v hi
        exact ⟨u, by rw [← hu, Array.getElem?_toList]; congr 1; omega, hv⟩
      · cases hi
  · simp; omega
  · intro j u hj
    rw [cell_of_block h1]
    rw [List.getElem?_take] at hj
    split at hj
    · rw [List.getElem?_drop] at hj
      rw [← hj, Array.getElem?_toList]
    · cases hj

/-- cells of a block from o on, set one by one -/
def wcells (w : World) (b : Nat) : Nat → List Value → World
  | _, [] => w
  | o, v :: r => wcells (w.setCell ⟨b, o, none⟩ v) b (o + 1) r

theorem setCells_block (b : Nat) (e : TypeId) (fr : Nat × Nat) : ∀ (us : List Value) (o : Nat) (w : World) (c : Array Value), w.heap[b]? = some (.cells c e fr) → o + us.length ≤ c.size →
    ∃ c', (wcells w b o us).heap[b]? = some (.cells c' e fr) ∧ c'.size = c.size ∧ (∀ i, i < us.length → c'[o + i]? = us[i]?) ∧ (∀ i, (i < o ∨ o + us.length ≤ i) → c'[i]? = c[i]?)
  | [], o, w, c, h, _ => ⟨c, h, rfl, fun i hi => by simp at hi, fun _ _ => rfl⟩
  | u :: us, o, w, c, h, hle => by
    have h1 : (w.setCell ⟨b, o, none⟩ u).heap[b]? = some (.cells (c.setIfInBounds o u) e fr) := by simp [World.setCell, Array.getElem?_modify, h]
    obtain ⟨c', a1, a2, a3, a4⟩ := setCells_block b e fr us (o + 1) _ _ h1 (by simp at hle ⊢; omega)
    refine ⟨c', a1, by simpa using a2, fun i hi => ?_, fun i hi => ?_⟩
    · cases i with
      | zero =>
        rw [a4 (o + 0) (.inl (by omega))]
        simp at hle
        simp [show o < c.size by omega]
      | succ i =>
        rw [show o + (i + 1) = o + 1 + i by omega, a3 i (by simpa using hi)]; simp
    · rw [a4 i (by simp at hi ⊢; omega)]
      simp at hi
      rw [Array.getElem?_setIfInBounds_ne (by omega)]

theorem setCells_other (b : Nat) : ∀ (us : List Value) (o : Nat) (w : World) (k : Nat), k ≠ b → (wcells w b o us).heap[k]? = w.heap[k]?
  | [], _, _, _, _ => rfl
  | u :: us, o, w, k, hk => by
    rw [wcells, setCells_other b us (o + 1) _ k hk]
    simp [World.setCell, Array.getElem?_modify, Ne.symm hk]

theorem setCells_size (b : Nat) : ∀ (us : List Value) (o : Nat) (w : World), (wcells w b o us).heap.size = w.heap.size
  | [], _, _ => rfl
  | u :: us, o, w => by rw [wcells, setCells_size b us (o + 1)]; simp [World.setCell]

theorem setCells_rest (b : Nat) : ∀ (us : List Value) (o : Nat) (w : World), (wcells w b o us).os = w.os ∧ (wcells w b o us).tape = w.tape ∧ (wcells w b o us).output = w.output ∧ (wcells w b o us).drawn = w.drawn
  | [], _, _ => ⟨rfl, rfl, rfl, rfl⟩
  | u :: us, o, w => by rw [wcells]; exact setCells_rest b us (o + 1) _

theorem splice_get (cs vs : List V) (off : Nat) (hle : off + vs.length ≤ cs.length) (i : Nat) :
    (splice cs off vs)[i]? = if i < off then cs[i]? else if i < off + vs.length then vs[i - off]? else cs[i]? := by
  unfold splice
  rw [List.getElem?_append]
  simp only [List.length_take, Nat.min_eq_left (show off ≤ cs.length by omega)]
  split
  · rw [List.getElem?_take]; simp [*]
  · rw [List.getElem?_append]
    split
    · rw [if_pos (by omega)]
    · rw [if_neg (by omega), List.getElem?_drop]; congr 1; omega

theorem splice_length (cs vs : List V) (off : Nat) (hle : off + vs.length ≤ cs.length) : (splice cs off vs).length = cs.length := by
  unfold splice; simp; omega

/-- the cells that are written -/
theorem HR.write {h h' : H} {w : World} (hr : HR P σ φ h w) (hσ : SymOk σ) {x : Pos} {off : Nat} {vs : List V} (hw : h.write x off vs = some h') {l : L} (hl : φ x = some l) {us : List Value} (hv : VL σ φ vs us) :
    HR P σ φ h' (wcells w l.blk (l.base + off) us) ∧ G φ h w φ h' (wcells w l.blk (l.base + off) us) ∧
    (∀ j, j < us.length → (w.cell? ⟨l.blk, l.base + off + j, none⟩).isSome = true) ∧ (∀ j, j < us.length → w.frozen? ⟨l.blk, l.base + off + j, none⟩ = false) ∧ (∀ u ∈ us, u.oneCell' = true) := by
  simp only [H.write, Option.bind_eq_some_iff, grd_some] at hw
  obtain ⟨⟨e, cs, op, g, fz⟩, hrow, hb, he⟩ := hw
  simp only [Bool.and_eq_true, Bool.not_eq_true'] at hb
  obtain ⟨hb1, hone, hfz⟩ := hb
  have hle := Nat.le_of_ble_eq_true hb1
  have hx := H.row?_some.1 hrow
  simp only at hx hle hfz hb1 he
  subst hfz
  obtain ⟨c, fr, h1, h2, h3, h4, h5, h6, h7⟩ := hr.row hx hl
  have hlen := hv.length
  obtain ⟨c', a1, a2, a3, a4⟩ := setCells_block l.blk e fr us (l.base + off) w c h1 (by omega)
  obtain ⟨r1, r2, r3, _⟩ := setCells_rest l.blk us (l.base + off) w
  -- what the new heap has
  have hh' : h'.heap = dropG h g x off (h.heap.put (some (.row e (splice cs off vs) op g false)) x) := by cases he; rfl
  have hgr : h'.grps = h.grps := by cases he; rfl
  have hnx : h'.next = h.next := by cases he; rfl
  have sub : ∀ y o, h'.heap.get y = some o → (y = x ∧ o = .row e (splice cs off vs) op g false) ∨ (y ≠ x ∧ h.heap.get y = some o) := by
    intro y o hy
    rw [hh'] at hy
    have : (h.heap.put (some (.row e (splice cs off vs) op g false)) x).get y = some o := by
      unfold dropG at hy
      split at hy
      · exact hy
      · exact dropOthers_sub _ _ _ _ _ _ hy
    rw [T.get_put] at this
    split at this
    · rename_i e'; cases this; exact .inl ⟨e'.symm, rfl⟩
    · rename_i e'; exact .inr ⟨fun e2 => e' e2.symm, this⟩
  have short : ∀ y o, h'.heap.get y = some o → y ≠ x → ∀ g', o.grp = some g' → g = some g' → ∃ e2 cs2 op2 fz2, o = .row e2 cs2 op2 (some g') fz2 ∧ cs2.length ≤ off := by
    intro y o hy hne g' hg' hgg
    subst hgg
    have hold : h.heap.get y = some o := by rcases sub y o hy with ⟨e', _⟩ | ⟨_, h'⟩; exact (hne e').elim; exact h'
    obtain ⟨ms, hms, hmem⟩ := hr.grps y o g' hold hg'
    cases o with
    | row e2 cs2 op2 g2 fz2 =>
      simp only [O.grp] at hg'; subst hg'
      rw [hh'] at hy
      simp only [dropG, H.members, hms, Option.getD_some] at hy
      exact ⟨e2, cs2, op2, fz2, rfl, dropOthers_short _ _ _ _ _ _ _ _ _ _ hmem hne hy⟩
    | _ => simp [O.grp] at hg'
  refine ⟨⟨⟨fun y o hy => ?_, fun y z oy oz ly lz hy hz hly hlz hbb => ?_⟩, fun y o g' hy hg' => ?_⟩, ?_, fun j hj => ?_, fun j hj => ?_, fun u hu => ?_⟩
  · rcases sub y o hy with ⟨rfl, rfl⟩ | ⟨hne, hold⟩
    · refine ⟨l, _, hl, a1, c', fr, rfl, by omega, by rw [splice_length _ _ _ hle]; exact h3, fun ho => by rw [splice_length _ _ _ hle]; exact h4 ho, h5, fun _ i hi1 hi2 => h6 rfl i hi1 (by omega), fun i v hi => ?_⟩
      rw [splice_get _ _ _ hle] at hi
      split at hi
      · obtain ⟨u, hu, hvr⟩ := h7 i v hi
        exact ⟨u, by rw [a4 _ (.inl (by omega))]; exact hu, hvr⟩
      · split at hi
        · obtain ⟨u, hu, hvr⟩ := hv.get _ _ hi
          refine ⟨u, ?_, hvr⟩
          have := a3 (i - off) (by omega)
          rw [show l.base + off + (i - off) = l.base + i by omega] at this
          rw [this]; exact hu
        · obtain ⟨u, hu, hvr⟩ := h7 i v hi
          exact ⟨u, by rw [a4 _ (.inr (by omega))]; exact hu, hvr⟩
    · obtain ⟨ly, oby, e1, e2, e3⟩ := hr.holds.obj y o hold
      by_cases hblk : ly.blk = l.blk
      · rcases hr.holds.sep y x o _ ly l hold hx e1 hl hblk with e' | ⟨g', hg1, hg2, hbase⟩
        · exact (hne e').elim
        · simp only [O.grp] at hg2
          obtain ⟨e2', cs2, op2, fz2, rfl, hsh⟩ := short y o hy hne g' hg1 hg2
          obtain ⟨c2, fr2, f1, f2, f3, f4, f5, f6, f7⟩ := e3
          subst f1
          rw [hblk, h1] at e2
          cases e2
          refine ⟨ly, _, e1, by rw [hblk]; exact a1, c', fr, rfl, by omega, f3, f4, f5, fun hz i hi1 hi2 => f6 hz i hi1 (by omega), fun i v hi => ?_⟩
          obtain ⟨u, hu, hvr⟩ := f7 i v hi
          have hi' : i < cs2.length := by
            rcases Nat.lt_or_ge i cs2.length with h | h
            · exact h
            · rw [List.getElem?_eq_none h] at hi; cases hi
          exact ⟨u, by rw [a4 _ (.inl (by omega))]; exact hu, hvr⟩
      · exact ⟨ly, oby, e1, by rw [setCells_other _ _ _ _ _ hblk]; exact e2, e3⟩
  · have oldx : h.heap.get x = some (.row e cs op g false) := hx
    have conv : ∀ y o ly, h'.heap.get y = some o → φ y = some ly → ∃ o2, h.heap.get y = some o2 ∧ o2.grp = o.grp := by
      intro y o ly hy hly
      rcases sub y o hy with ⟨rfl, rfl⟩ | ⟨hne, hold⟩
      · exact ⟨_, oldx, rfl⟩
      · exact ⟨o, hold, rfl⟩
    obtain ⟨o2, b1, b2⟩ := conv y oy ly hy hly
    obtain ⟨o3, b3, b4⟩ := conv z oz lz hz hlz
    rcases hr.holds.sep y z o2 o3 ly lz b1 b3 hly hlz hbb with h' | ⟨g', g1, g2, g3⟩
    · exact .inl h'
    · exact .inr ⟨g', by rw [← b2]; exact g1, by rw [← b4]; exact g2, g3⟩
  · rw [hgr]
    rcases sub y o hy with ⟨rfl, rfl⟩ | ⟨hne, hold⟩
    · exact hr.grps y _ g' hx (by simpa [O.grp] using hg')
    · exact hr.grps y o g' hold hg'
  · refine ⟨by omega, fun _ _ => rfl, fun b hb => .inl ?_, by rw [setCells_size]; exact Nat.le_refl _, fun b hb hn => ?_, r1, r2, r3⟩
    · obtain ⟨y, o, ly, e1, e2, e3⟩ := hb
      rcases sub y o e1 with ⟨rfl, rfl⟩ | ⟨hne, hold⟩
      · exact ⟨y, _, ly, hx, e2, e3⟩
      · exact ⟨y, o, ly, hold, e2, e3⟩
    · exact setCells_other _ _ _ _ _ (fun e' => hn ⟨x, _, l, hx, hl, e'.symm⟩)
  · rw [cell_of_block h1]
    simp [show l.base + off + j < c.size by omega]
  · rw [frozen_of_block h1]
    have := h6 rfl (l.base + off + j) (by omega) (by omega)
    simpa using this
  · obtain ⟨i, hi⟩ := List.getElem?_of_mem hu
    have hi' : i < vs.length := by
      have := (List.getElem?_eq_some_iff.1 hi).1
      omega
    obtain ⟨u', hu', hvr⟩ := hv.get i vs[i] (by simp [hi'])
    rw [hi] at hu'; cases hu'
    exact hvr.one hσ (List.all_eq_true.1 hone _ (List.getElem_mem hi'))

theorem HR.drew {h : H} {w w' : World} (hr : HR P σ φ h w) (he : w'.heap = w.heap) : HR P σ φ h w' :=
  ⟨hr.holds.heap fun b _ => by rw [he], hr.grps⟩

theorem G.drew {h : H} {w w' : World} (he : w'.heap = w.heap) (h1 : w'.os = w.os) (h2 : w'.tape = w.tape) (h3 : w'.output = w.output) : G φ h w φ h w' :=
  ⟨Nat.le_refl _, fun _ _ => rfl, fun _ h => .inl h, by rw [he]; exact Nat.le_refl _, fun b _ _ => by rw [he], h1, h2, h3⟩

end Go.Ev

namespace Go.Ev
variable {σ : Nat → Value} {φ φ' : Phi} {P : Program}

-- runs of the small words
theorem r_und {t : TypeId} {d : TypeDesc} (h : P.underlying t = some d) (w : World) : (underlying t).run P w = .ok d w := by simp [underlying, h]
theorem r_info {t : TypeId} {i : TypeInfo} (h : P.info? t = some i) (w : World) : (typeInfo t).run P w = .ok i w := by simp [typeInfo, h]
theorem r_size {t : TypeId} {s : Nat} (h : cellsOf P t = some s) (w : World) : (sizeOf t).run P w = .ok s w := by
  simp only [cellsOf, Option.bind_eq_some_iff] at h
  obtain ⟨i, hi, he⟩ := h
  cases he
  simp [sizeOf, r_info hi]
theorem r_zero {t : TypeId} {z : V} (h : zeroV P t = some z) : ∃ u, VR σ φ z u ∧ ∀ w, (zeroValue t).run P w = .ok u w := by
  simp only [zeroV, Option.bind_eq_some_iff] at h
  obtain ⟨i, hi, u, hu, hv⟩ := h
  exact ⟨u, ofValue_ok hv, fun w => by simp [zeroValue, r_info hi, hu]⟩
theorem r_agg {t : TypeId} {b : Bool} (h : agg? P t = some b) (w : World) : (isAgg t).run P w = .ok b w := by
  unfold agg? at h
  unfold isAgg
  split at h
  · rename_i fs hu; cases h; simp [r_und hu]
  · rename_i n e hu; cases h; simp [r_und hu]
  · rename_i d h1 h2 hu
    cases h
    simp only [Sem.run_bind, r_und hu, Result.andThen_ok]
    cases d <;> first | rfl | exact (h1 _ rfl).elim | exact (h2 _ _ rfl).elim
  · cases h

theorem slT_some {t e : TypeId} : slT P t = some e ↔ P.underlying t = some (.slice e) := by
  unfold slT; split
  · rename_i h; simp [h]
  · rename_i h; constructor
    · intro h'; cases h'
    · intro h'; exact (h _ h').elim
theorem ptT_some {t e : TypeId} : ptT P t = some e ↔ P.underlying t = some (.pointer e) := by
  unfold ptT; split
  · rename_i h; simp [h]
  · rename_i h; constructor
    · intro h'; cases h'
    · intro h'; exact (h _ h').elim
theorem mapT_some {t : TypeId} {r : TypeId × TypeId} : mapT P t = some r ↔ P.underlying t = some (.map r.1 r.2) := by
  obtain ⟨k, e⟩ := r
  unfold mapT; split
  · rename_i h; simp [h]
  · rename_i h; constructor
    · intro h'; cases h'
    · intro h'; exact (h _ _ h').elim
theorem stT_some {t : TypeId} {fs : Array Field} : stT P t = some fs ↔ P.underlying t = some (.struct fs) := by
  unfold stT; split
  · rename_i h; simp [h]
  · rename_i h; constructor
    · intro h'; cases h'
    · intro h'; exact (h _ h').elim
theorem arT_some {t : TypeId} {r : Nat × TypeId} : arT P t = some r ↔ P.underlying t = some (.array r.1 r.2) := by
  obtain ⟨k, e⟩ := r
  unfold arT; split
  · rename_i h; simp [h]
  · rename_i h; constructor
    · intro h'; cases h'
    · intro h'; exact (h _ _ h').elim
theorem isStr_true {t : TypeId} : isStr P t = true ↔ P.underlying t = some .string := by
  unfold isStr; split
  · rename_i h; simp [h]
  · rename_i h; constructor
    · intro h'; cases h'
    · intro h'; exact (h h').elim
theorem isByte_true {t : TypeId} : isByte P t = true ↔ P.underlying t = some (.int .u8) := by
  unfold isByte; split
  · rename_i h; simp [h]
  · rename_i h; constructor
    · intro h'; cases h'
    · intro h'; exact (h h').elim
theorem isIface_false {t : TypeId} (h : isIface P t = some false) : ∃ d, P.underlying t = some d ∧ ∀ ms, d ≠ .interface ms := by
  unfold isIface at h; split at h
  · cases h
  · rename_i d hn hd; exact ⟨d, hd, fun ms e => hn ms e⟩
  · cases h
theorem int?_some {v : V} {r : IntKind × Int} : v.int? = some r ↔ v = .int r.1 r.2 := by
  obtain ⟨k, n⟩ := r
  unfold V.int?; split
  · simp
  · rename_i h; constructor
    · intro h'; cases h'
    · intro h'; exact (h _ _ h').elim
theorem bool?_some {v : V} {b : Bool} : v.bool? = some b ↔ v = .bool b := by
  unfold V.bool?; split
  · simp
  · rename_i h; constructor
    · intro h'; cases h'
    · intro h'; exact (h _ h').elim
theorem ptr?_some {v : V} {r : Pos × Nat} : v.ptr? = some r ↔ v = .ptr r.1 r.2 := by
  obtain ⟨k, n⟩ := r
  unfold V.ptr?; split
  · simp
  · rename_i h; constructor
    · intro h'; cases h'
    · intro h'; exact (h _ _ h').elim
theorem agg?_some {v : V} {l : List V} : v.agg? = some l ↔ v = .agg l := by
  unfold V.agg?; split
  · simp
  · rename_i h; constructor
    · intro h'; cases h'
    · intro h'; exact (h _ h').elim
theorem tup?_some {v : V} {l : List V} : v.tup? = some l ↔ v = .tup l := by
  unfold V.tup?; split
  · simp
  · rename_i h; constructor
    · intro h'; cases h'
    · intro h'; exact (h _ h').elim
theorem map?_some {v : V} {x : Pos} : v.map? = some x ↔ v = .map x := by
  unfold V.map?; split
  · simp
  · rename_i h; constructor
    · intro h'; cases h'
    · intro h'; exact (h _ h').elim
theorem natI_some {v : V} {n : Nat} (h : natI v = some n) : ∃ k, v = .int k (Int.ofNat n) := by
  unfold natI at h
  simp only [Option.bind_eq_some_iff] at h
  obtain ⟨⟨k, i⟩, hv, he⟩ := h
  rw [int?_some] at hv
  cases i with
  | ofNat m => simp at he; subst he; exact ⟨k, hv⟩
  | negSucc m => simp at he

/-- the operands are what they stand for -/
def RR (σ : Nat → Value) (φ : Phi) (tm : T V) (ρ : Operand → Value) : Prop := ∀ x v, rho tm x = some v → VR σ φ v (ρ x)

theorem RR.mono {tm : T V} {ρ : Operand → Value} (h : RR σ φ tm ρ) (hle : Le φ φ') : RR σ φ' tm ρ := fun x v hx => (h x v hx).mono hle

theorem RR.list {tm : T V} {ρ : Operand → Value} (h : RR σ φ tm ρ) : ∀ {xs : List Operand} {vs : List V}, rhos tm xs = some vs → VL σ φ vs (xs.map ρ)
  | [], vs, e => by simp [rhos] at e; subst e; exact .nil
  | x :: xs, vs, e => by
    simp only [rhos, Option.bind_eq_some_iff] at e
    obtain ⟨v, hv, us, hus, he⟩ := e
    cases he
    exact .cons _ _ _ _ (h _ _ hv) (RR.list h hus)

/-- what an operation that is evaluated does -/
def OpOk (P : Program) (σ : Nat → Value) (φ : Phi) (h : H) (w : World) (e : Sem Next) (v : V) (h' : H) : Prop :=
  ∃ φ' u w', (e.run P w = .ok (.value u) w' ∨ (e.run P w = .ok .skip w' ∧ u = undef)) ∧ G φ h w φ' h' w' ∧ HR P σ φ' h' w' ∧ VR σ φ' v u

section
variable {h : H} {w : World} {tm : T V} {ρ : Operand → Value}

theorem OpOk.same {e : Sem Next} {v : V} {u : Value} (hr : HR P σ φ h w) (he : e.run P w = .ok (.value u) w) (hv : VR σ φ v u) : OpOk P σ φ h w e v h :=
  ⟨φ, u, w, .inl he, G.refl _ _ _, hr, hv⟩

/-- an operation that only reads -/
def SameOk (P : Program) (σ : Nat → Value) (φ : Phi) (h : H) (w : World) (e : Sem Next) (v : V) (h' : H) : Prop := ∃ u, e.run P w = .ok (.value u) w ∧ VR σ φ v u ∧ h' = h

theorem SameOk.same {e : Sem Next} {v : V} {u : Value} (he : e.run P w = .ok (.value u) w) (hv : VR σ φ v u) : SameOk P σ φ h w e v h := ⟨u, he, hv, rfl⟩

theorem SameOk.op {e : Sem Next} {v : V} {h' : H} (h1 : SameOk P σ φ h w e v h') (hr : HR P σ φ h w) : OpOk P σ φ h w e v h' := by
  obtain ⟨u, a, b, rfl⟩ := h1
  exact .same hr a b

theorem r_load {t : TypeId} {x : Pos} {off : Nat} {v : V} {l : L} (hr : HR P σ φ h w) (hv : loadV P h t x off = some v) (hl : φ x = some l) :
    ∃ u, VR σ φ v u ∧ (loadVar t ⟨l.blk, l.base + off, none⟩).run P w = .ok u w := by
  simp only [loadV, Option.bind_eq_some_iff] at hv
  obtain ⟨ag, hag, hv⟩ := hv
  cases ag with
  | true =>
    simp only [Option.bind_eq_some_iff] at hv
    obtain ⟨s, hs, cs, hcs, he⟩ := hv
    cases he
    obtain ⟨us, hvl, hlen, hcell⟩ := hr.cells hcs hl
    refine ⟨.agg us.toArray, .agg _ _ (by simpa using hvl), ?_⟩
    have key : ∀ (n i : Nat) (acc : Array Value) , i + n = us.length → (loadCellsFrom ⟨l.blk, l.base + off, none⟩ i n acc).run P w = .ok (acc ++ (us.drop i).toArray) w := by
      intro n
      induction n with
      | zero => intro i acc hi; simp only [loadCellsFrom, Sem.run_pure]; rw [List.drop_eq_nil_of_le (by omega)]; simp
      | succ n ih =>
        intro i acc hi
        have hlt : i < us.length := by omega
        have hc := hcell i us[i] (by simp [hlt])
        simp only [loadCellsFrom, Sem.run_bind, run_load, addr_add, hc, Result.andThen_ok]
        rw [ih (i + 1) _ (by omega)]
        rw [List.drop_eq_getElem_cons hlt]
        congr 1
        apply Array.ext'
        simp
    simp only [loadVar, Sem.run_bind, r_agg hag, Result.andThen_ok, if_true, r_size hs, loadCells]
    rw [← hlen, key us.length 0 #[] (by omega)]
    simp
  | false =>
    simp only [Option.bind_eq_some_iff] at hv
    obtain ⟨r, hrow, hi⟩ := hv
    obtain ⟨c, fr, h1, _, _, _, _, _, h7⟩ := hr.row (H.row?_some.1 hrow) hl
    obtain ⟨u, hu, hvr⟩ := h7 off v hi
    refine ⟨u, hvr, ?_⟩
    simp [loadVar, r_agg hag, cell_of_block h1, hu]

theorem r_storeCells (b o : Nat) : ∀ (us : List Value) (i : Nat) (w : World), (∀ j, j < us.length → (w.cell? ⟨b, o + i + j, none⟩).isSome = true) → (∀ j, j < us.length → w.frozen? ⟨b, o + i + j, none⟩ = false) → (∀ u ∈ us, u.oneCell' = true) →
    (storeCells ⟨b, o, none⟩ us i).run P w = .ok () (wcells w b (o + i) us)
  | [], _, _, _, _, _ => rfl
  | v :: r, i, w, hc, hf, h1 => by
    obtain ⟨u, hu⟩ := Option.isSome_iff_exists.1 (hc 0 (by simp))
    have hf0 := hf 0 (by simp)
    simp only [Nat.add_zero] at hu hf0
    have hst : (store ((⟨b, o, none⟩ : Addr).add i) v).run P w = .ok () (w.setCell ⟨b, o + i, none⟩ v) := by
      rw [addr_add, run_store P w _ v _ (h1 v (by simp))]
      simp [hu, hf0]
    have blk : ∃ c e fr, w.heap[b]? = some (.cells c e fr) := by
      unfold World.cell? at hu
      split at hu
      · rename_i c e fr hb; exact ⟨c, e, fr, hb⟩
      · cases hu
    obtain ⟨c, e, fr, hb⟩ := blk
    have hb' : (w.setCell ⟨b, o + i, none⟩ v).heap[b]? = some (.cells (c.setIfInBounds (o + i) v) e fr) := by simp [World.setCell, Array.getElem?_modify, hb]
    have ih := r_storeCells b o r (i + 1) (w.setCell ⟨b, o + i, none⟩ v) (fun j hj => by
        have := hc (j + 1) (by simp; omega)
        rw [cell_of_block hb] at this
        rw [cell_of_block hb']
        have hlt : o + i + (j + 1) < c.size := by
          rcases Nat.lt_or_ge (o + i + (j + 1)) c.size with h | h
          · exact h
          · rw [Array.getElem?_eq_none h] at this; cases this
        simp [show o + (i + 1) + j < c.size by omega])
      (fun j hj => by
        have := hf (j + 1) (by simp; omega)
        rw [frozen_of_block hb] at this
        rw [frozen_of_block hb', show o + (i + 1) + j = o + i + (j + 1) by omega]; exact this) (fun x hx => h1 x (by simp [hx]))
    simp only [storeCells, Sem.run_bind, hst, Result.andThen_ok, ih, wcells]
    rw [show o + (i + 1) = o + i + 1 by omega]

theorem op_load {t : TypeId} {a : Operand} {r : V × H} (hr : HR P σ φ h w) (hρ : RR σ φ tm ρ) {o : Oper} (ho : o.op = .load t a) (he : evOp P tm h o.op = some r) :
    SameOk P σ φ h w (execOp ρ o) r.1 r.2 := by
  rw [ho] at he
  simp only [evOp, evLoad, Option.bind_eq_some_iff, ptr?_some] at he
  obtain ⟨pv, hp, p, rfl, v, hv, he⟩ := he
  cases he
  obtain ⟨l, hl, hu⟩ := (hρ _ _ hp).ptr_inv
  obtain ⟨u, hvr, hrun⟩ := r_load hr hv hl
  exact .same (by simp [execOp, ho, Instr.loadAt, Instr.sureAddr, hu, hrun]) hvr

theorem op_store (hσ : SymOk σ) {t : TypeId} {a x : Operand} {r : V × H} (hr : HR P σ φ h w) (hρ : RR σ φ tm ρ) {o : Oper} (ho : o.op = .store t a x) (he : evOp P tm h o.op = some r) :
    OpOk P σ φ h w (execOp ρ o) r.1 r.2 := by
  rw [ho] at he
  simp only [evOp, evStore, Option.bind_eq_some_iff, ptr?_some, grd_some] at he
  obtain ⟨pv, hp, p, rfl, v, hv, s, hs, hb, h', hw, he⟩ := he
  cases he
  obtain ⟨l, hl, hu⟩ := (hρ _ _ hp).ptr_inv
  have hvl := (hρ _ _ hv).cells hσ
  obtain ⟨a1, a2, a3, a4, a5⟩ := hr.write hσ hw hl hvl
  have hlen : (ρ x).cells.size = s := by
    have := hvl.length
    have h2 := Nat.eq_of_beq_eq_true hb
    simp at this; omega
  have hst := r_storeCells (P := P) l.blk (l.base + p.2) (ρ x).cells.toList 0 w (by simpa using a3) (by simpa using a4) a5
  simp only [Nat.add_zero] at hst
  exact ⟨φ, undef, _, .inr ⟨by simp [execOp, ho, Instr.storeAt, Instr.sureAddr, hu, storeVar, r_size hs, hlen, hst], rfl⟩, a2, a1, .tup _ _ .nil⟩

theorem op_move {x : Operand} {r : V × H} (hr : HR P σ φ h w) (hρ : RR σ φ tm ρ) {o : Oper} (ho : o.op = .move x) (he : evOp P tm h o.op = some r) :
    OpOk P σ φ h w (execOp ρ o) r.1 r.2 := by
  rw [ho] at he
  simp only [evOp, evMove, Option.bind_eq_some_iff] at he
  obtain ⟨v, hv, he⟩ := he
  cases he
  exact .same hr (by simp [execOp, ho]) (hρ _ _ hv)

theorem op_assign {x : Operand} {r : V × H} (hr : HR P σ φ h w) (hρ : RR σ φ tm ρ) {o : Oper} (ho : o.op = .assign x) (he : evOp P tm h o.op = some r) :
    OpOk P σ φ h w (execOp ρ o) r.1 r.2 := by
  rw [ho] at he
  simp only [evOp, evMove, Option.bind_eq_some_iff] at he
  obtain ⟨v, hv, he⟩ := he
  cases he
  exact .same hr (by simp [execOp, ho]) (hρ _ _ hv)

theorem op_pick {c a b : Operand} {r : V × H} (hr : HR P σ φ h w) (hρ : RR σ φ tm ρ) {o : Oper} (ho : o.op = .pick c a b) (he : evOp P tm h o.op = some r) :
    OpOk P σ φ h w (execOp ρ o) r.1 r.2 := by
  rw [ho] at he
  simp only [evOp, evPick, Option.bind_eq_some_iff, bool?_some] at he
  obtain ⟨cv, hc, t, rfl, he⟩ := he
  have hcu := (hρ _ _ hc).bool_inv
  cases t <;>
  · simp only [Option.bind_eq_some_iff] at he
    obtain ⟨v, hv, he⟩ := he
    cases he
    exact .same hr (by simp [execOp, ho, hcu, asBool]) (hρ _ _ hv)

end
end Go.Ev

namespace Go.Ev
variable {σ : Nat → Value} {φ φ' : Phi} {P : Program}
section
variable {h : H} {w : World} {tm : T V} {ρ : Operand → Value}

/-- a new row, its cells known -/
theorem new_row {e : TypeId} {vs : List V} {us : Array Value} {s : Nat} (hr : HR P σ φ h w) (hf : φ (Pos.of h.next) = none) (hv : VL σ φ vs us.toList) (hs : cellsOf P e = some s) :
    ∃ φ', φ' = φ.put (Pos.of h.next) ⟨w.heap.size, 0, us.size, s⟩ ∧ HR P σ φ' (h.new (.row e vs false none false)) { w with heap := w.heap.push (.cells us e) } ∧
      G φ h w φ' (h.new (.row e vs false none false)) { w with heap := w.heap.push (.cells us e) } := by
  have hlen := hv.length
  have hle := Phi.le_put (l := ⟨w.heap.size, 0, us.size, s⟩) hf
  obtain ⟨a, b⟩ := hr_new (o := .row e vs false none false) (ob := .cells us e) (l := ⟨w.heap.size, 0, us.size, s⟩) hr hf rfl rfl
    ⟨us, (0, 0), rfl, by simp, by simp at hlen ⊢; omega, fun _ => ⟨rfl, by simpa using hlen⟩, hs, fun _ i _ _ => by simp, fun i v hi => by
      obtain ⟨u, hu, hvr⟩ := hv.get i v hi
      exact ⟨u, by simpa using hu, hvr.mono hle⟩⟩
  exact ⟨_, rfl, a, b⟩

/-- a new row that may go on -/
theorem new_open {e : TypeId} {vs : List V} {us : List Value} {rest : List Value} {fr : Nat × Nat} {s : Nat} (hr : HR P σ φ h w) (hf : φ (Pos.of h.next) = none) (hv : VL σ φ vs us) (hs : cellsOf P e = some s)
    (hfr : ∀ i, i < us.length + rest.length → ¬ (fr.1 ≤ i ∧ i < fr.2)) :
    HR P σ (φ.put (Pos.of h.next) ⟨w.heap.size, 0, us.length + rest.length, s⟩) (h.new (.row e vs true none false)) { w with heap := w.heap.push (.cells (us ++ rest).toArray e fr) } ∧
      G φ h w (φ.put (Pos.of h.next) ⟨w.heap.size, 0, us.length + rest.length, s⟩) (h.new (.row e vs true none false)) { w with heap := w.heap.push (.cells (us ++ rest).toArray e fr) } := by
  have hlen := hv.length
  have hle := Phi.le_put (l := ⟨w.heap.size, 0, us.length + rest.length, s⟩) hf
  exact hr_new (o := .row e vs true none false) (ob := .cells (us ++ rest).toArray e fr) (l := ⟨w.heap.size, 0, us.length + rest.length, s⟩) hr hf rfl rfl
    ⟨(us ++ rest).toArray, fr, rfl, by simp, by simp; omega, (fun h => by cases h), hs, fun _ i _ hi => hfr i (by simpa using hi), fun i v hi => by
      obtain ⟨u, hu, hvr⟩ := hv.get i v hi
      refine ⟨u, ?_, hvr.mono hle⟩
      have hlt := (List.getElem?_eq_some_iff.1 hu).1
      simp [List.getElem?_append_left hlt, hu]⟩

theorem run_newVar (t : TypeId) (u : Value) : (newVar t u).run P w = .ok ⟨w.heap.size, 0, none⟩ { w with heap := w.heap.push (.cells u.cells t) } := by
  simp [newVar, newRow]

theorem op_alloc (hσ : SymOk σ) {t : TypeId} {r : V × H} (hr : HR P σ φ h w) (hf : Fresh φ h.next r.2.next) {o : Oper} (ho : o.op = .alloc t) (he : evOp P tm h o.op = some r) :
    OpOk P σ φ h w (execOp ρ o) r.1 r.2 := by
  rw [ho] at he
  simp only [evOp, evAlloc, Option.bind_eq_some_iff] at he
  obtain ⟨z, hz, he⟩ := he
  cases he
  obtain ⟨u, hu, hrun⟩ := r_zero (σ := σ) (φ := φ) hz
  have hs : ∃ s, cellsOf P t = some s := by
    simp only [zeroV, Option.bind_eq_some_iff] at hz
    obtain ⟨i, hi, _⟩ := hz
    exact ⟨i.size, by simp [cellsOf, hi]⟩
  obtain ⟨s, hs⟩ := hs
  obtain ⟨φ', rfl, a, b⟩ := new_row (e := t) hr (hf h.next (Nat.le_refl _) (by simp [H.new])) (hu.cells hσ) hs
  exact ⟨_, _, _, .inl (by simp [execOp, ho, Instr.alloc, hrun, run_newVar]; rfl), b, a, by have := VR.ptr (σ := σ) (Pos.of h.next) 0 _ (Phi.put_same φ (Pos.of h.next) ⟨w.heap.size, 0, u.cells.size, s⟩); simpa using this⟩

theorem op_box (hσ : SymOk σ) {t : TypeId} {x : Operand} {r : V × H} (hr : HR P σ φ h w) (hf : Fresh φ h.next r.2.next) (hρ : RR σ φ tm ρ) {o : Oper} (ho : o.op = .box t x) (he : evOp P tm h o.op = some r) :
    OpOk P σ φ h w (execOp ρ o) r.1 r.2 := by
  rw [ho] at he
  simp only [evOp, evBox, Option.bind_eq_some_iff] at he
  obtain ⟨v, hv, s, hs, he⟩ := he
  cases he
  have hu := hρ _ _ hv
  obtain ⟨φ', rfl, a, b⟩ := new_row (e := t) hr (hf h.next (Nat.le_refl _) (by simp [H.new])) (hu.cells hσ) hs
  exact ⟨_, _, _, .inl (by simp [execOp, ho, Instr.box, run_newVar]; rfl), b, a, by have := VR.ptr (σ := σ) (Pos.of h.next) 0 _ (Phi.put_same φ (Pos.of h.next) ⟨w.heap.size, 0, (ρ x).cells.size, s⟩); simpa using this⟩

theorem op_makeMap {t : TypeId} {x : Option Operand} {r : V × H} (hr : HR P σ φ h w) (hf : Fresh φ h.next r.2.next) (hρ : RR σ φ tm ρ) {o : Oper} (ho : o.op = .makeMap t x) (he : evOp P tm h o.op = some r) :
    OpOk P σ φ h w (execOp ρ o) r.1 r.2 := by
  rw [ho] at he
  simp only [evOp, evMkMap, Option.bind_eq_some_iff] at he
  obtain ⟨v, hv, he⟩ := he
  have key : r = (.map (Pos.of h.next), h.new (.map [] 0)) → (execOp ρ o).run P w = .ok (.value (.map (some w.heap.size))) { w with heap := w.heap.push (.map #[] 0) } → OpOk P σ φ h w (execOp ρ o) r.1 r.2 := by
    intro hre hrun
    subst hre
    obtain ⟨a, b⟩ := hr_new (P := P) (σ := σ) (o := .map [] 0) (ob := .map #[] 0) (l := ⟨w.heap.size, 0, 0, 0⟩) hr (hf h.next (Nat.le_refl _) (by simp [H.new])) rfl rfl ⟨#[], rfl, .nil⟩
    exact ⟨_, _, _, .inl hrun, b, a, .map _ _ (Phi.put_same φ (Pos.of h.next) ⟨w.heap.size, 0, 0, 0⟩)⟩
  cases x with
  | none =>
    simp [rhoO] at hv
    subst hv
    simp only [Option.some.injEq] at he
    exact key he.symm (by simp [execOp, ho, Instr.makeMap])
  | some x =>
    simp only [rhoO, Option.bind_eq_some_iff] at hv
    obtain ⟨xv, hx, hv⟩ := hv
    cases hv
    simp only [Option.bind_eq_some_iff, int?_some, mapT_some] at he
    obtain ⟨i, rfl, ke, hm, he⟩ := he
    cases he
    have hxu := (hρ _ _ hx).int_inv
    exact key rfl (by simp [execOp, ho, Instr.makeMap, r_und hm, hxu, asInt, asIntOf])

theorem op_nilCheck {x : Operand} {r : V × H} (hr : HR P σ φ h w) (hρ : RR σ φ tm ρ) {o : Oper} (ho : o.op = .nilCheck x) (he : evOp P tm h o.op = some r) :
    OpOk P σ φ h w (execOp ρ o) r.1 r.2 := by
  rw [ho] at he
  simp only [evOp, evNil, Option.bind_eq_some_iff] at he
  obtain ⟨v, hv, he⟩ := he
  have hu := hρ _ _ hv
  split at he <;> cases he
  · obtain ⟨l, hl, hu'⟩ := hu.ptr_inv
    exact .same hr (by simp [execOp, ho, hu']) (hu' ▸ hu)
  · obtain ⟨a', b', hu', h1, h2⟩ := hu.fn_inv
    exact .same hr (by simp [execOp, ho, hu']) (hu' ▸ hu)
  · obtain ⟨w', hu', h1⟩ := hu.ifc_inv
    exact .same hr (by simp [execOp, ho, hu']) (hu' ▸ hu)

theorem op_makeInterface {t : TypeId} {x : Operand} {r : V × H} (hr : HR P σ φ h w) (hρ : RR σ φ tm ρ) {o : Oper} (ho : o.op = .makeInterface t x) (he : evOp P tm h o.op = some r) :
    OpOk P σ φ h w (execOp ρ o) r.1 r.2 := by
  rw [ho] at he
  simp only [evOp, evMkI, Option.bind_eq_some_iff, grd_some, Bool.not_eq_true'] at he
  obtain ⟨i, hi, rfl, v, hv, he⟩ := he
  cases he
  obtain ⟨d, hd, hn⟩ := isIface_false hi
  refine .same hr (u := .iface t (ρ x)) ?_ (.ifc _ _ _ (hρ _ _ hv))
  cases d <;> first | (simp [execOp, ho, Instr.makeInterface, r_und hd]; done) | exact (hn _ rfl).elim

theorem op_makeFunc {fn : Fn} {a b : Array Operand} {r : V × H} (hr : HR P σ φ h w) (hρ : RR σ φ tm ρ) {o : Oper} (ho : o.op = .makeFunc fn a b) (he : evOp P tm h o.op = some r) :
    OpOk P σ φ h w (execOp ρ o) r.1 r.2 := by
  rw [ho] at he
  simp only [evOp, evMkF, Option.bind_eq_some_iff] at he
  obtain ⟨x, hx, y, hy, he⟩ := he
  cases he
  exact .same hr (u := .func fn (a.map ρ) (b.map ρ)) (by simp [execOp, ho, Instr.makeFunc]) (.fn _ _ _ _ _ (by simpa using hρ.list hx) (by simpa using hρ.list hy))

theorem op_extract {x : Operand} {i : Nat} {r : V × H} (hr : HR P σ φ h w) (hρ : RR σ φ tm ρ) {o : Oper} (ho : o.op = .extract x i) (he : evOp P tm h o.op = some r) :
    OpOk P σ φ h w (execOp ρ o) r.1 r.2 := by
  rw [ho] at he
  simp only [evOp, evExtract, Option.bind_eq_some_iff, tup?_some] at he
  obtain ⟨v, hv, vs, rfl, y, hy, he⟩ := he
  cases he
  obtain ⟨c, hu, hl⟩ := (hρ _ _ hv).tup_inv
  obtain ⟨u, hu2, hvr⟩ := hl.get i y hy
  have : c[i]? = some u := by simpa using hu2
  exact .same hr (by simp [execOp, ho, hu, Instr.extract, this]) hvr

theorem op_fieldAddr {t : TypeId} {x : Operand} {f : Nat} {r : V × H} (hr : HR P σ φ h w) (hρ : RR σ φ tm ρ) {o : Oper} (ho : o.op = .fieldAddr t x f) (he : evOp P tm h o.op = some r) :
    OpOk P σ φ h w (execOp ρ o) r.1 r.2 := by
  rw [ho] at he
  simp only [evOp, evFieldAddr, Option.bind_eq_some_iff, stT_some, ptr?_some, grd_some] at he
  obtain ⟨fs, hfs, v, hv, p, rfl, fd, hfd, s, hs, hpos, he⟩ := he
  cases he
  obtain ⟨l, hl, hu⟩ := (hρ _ _ hv).ptr_inv
  have hne : s ≠ 0 := fun e => by subst e; simp [Nat.blt] at hpos
  refine .same hr (u := .pointer (some ⟨l.blk, l.base + (p.2 + fd.offset), none⟩)) ?_ (.ptr _ _ _ hl)
  simp [execOp, ho, Instr.fieldAt, r_und hfs, hfd, Instr.sureAddr, hu, fieldPlace, r_size hs, hne, addr_add, Nat.add_assoc]

theorem r_part {t : TypeId} {cs : List V} {c : Array Value} {off : Nat} {v : V} (hv : partV P t cs off = some v) (hl : VL σ φ cs c.toList) :
    ∃ u, VR σ φ v u ∧ ∀ w, (part t c off).run P w = .ok u w := by
  simp only [partV, Option.bind_eq_some_iff] at hv
  obtain ⟨ag, hag, hv⟩ := hv
  cases ag with
  | true =>
    simp only [Option.bind_eq_some_iff, grd_some] at hv
    obtain ⟨s, hs, hle, he⟩ := hv
    cases he
    refine ⟨.agg (c.extract off (off + s)), .agg _ _ ?_, fun w => by simp [part, r_agg hag, r_size hs]⟩
    have := VL.take s (VL.drop off hl)
    simpa [Array.toList_extract, List.take_drop] using this
  | false =>
    simp only at hv
    obtain ⟨u, hu, hvr⟩ := hl.get off v hv
    have : c[off]? = some u := by simpa using hu
    exact ⟨u, hvr, fun w => by simp [part, r_agg hag, this]⟩

theorem op_field {t : TypeId} {x : Operand} {f : Nat} {r : V × H} (hr : HR P σ φ h w) (hρ : RR σ φ tm ρ) {o : Oper} (ho : o.op = .field t x f) (he : evOp P tm h o.op = some r) :
    OpOk P σ φ h w (execOp ρ o) r.1 r.2 := by
  rw [ho] at he
  simp only [evOp, evField, Option.bind_eq_some_iff, stT_some, agg?_some] at he
  obtain ⟨fs, hfs, v, hv, cs, rfl, fd, hfd, y, hy, he⟩ := he
  cases he
  obtain ⟨c, hu, hl⟩ := (hρ _ _ hv).agg_inv
  obtain ⟨u, hvr, hrun⟩ := r_part hy hl
  exact .same hr (by simp [execOp, ho, Instr.field, r_und hfs, hfd, hu, asAgg, hrun]) hvr

theorem op_indexAddr {t : TypeId} {x y : Operand} {r : V × H} (hr : HR P σ φ h w) (hρ : RR σ φ tm ρ) {o : Oper} (ho : o.op = .indexAddr t x y) (he : evOp P tm h o.op = some r) :
    OpOk P σ φ h w (execOp ρ o) r.1 r.2 := by
  rw [ho] at he
  simp only [evOp, evIndexAddr, Option.bind_eq_some_iff] at he
  obtain ⟨xv, hx, yv, hy, i, hi, v, hv, he⟩ := he
  cases he
  obtain ⟨k, rfl⟩ := natI_some hi
  have hyu := (hρ _ _ hy).int_inv
  have hxu := hρ _ _ hx
  unfold indexAddrV at hv
  split at hv
  · rename_i n e xx off hund
    simp only [Option.bind_eq_some_iff, grd_some] at hv
    obtain ⟨s, hs, hlt, he⟩ := hv
    cases he
    obtain ⟨l, hl, hu⟩ := hxu.ptr_inv
    have hlt' : i < n := by have := Nat.le_of_ble_eq_true hlt; omega
    refine .same hr (u := .pointer (some ⟨l.blk, l.base + (off + i * s), none⟩)) ?_ (.ptr _ _ _ hl)
    simp [execOp, ho, Instr.indexAt, hyu, asIntOf, r_und hund, Instr.sureAddr, hu, hlt', r_size hs, addr_add, Nat.add_assoc]
  · rename_i e xx off len cap op hund
    simp only [Option.bind_eq_some_iff, grd_some] at hv
    obtain ⟨s, hs, hlt, he⟩ := hv
    cases he
    obtain ⟨l, cap', hl, _, _, hu⟩ := hxu.sl_inv
    have hlt' : i < len := by have := Nat.le_of_ble_eq_true hlt; omega
    refine .same hr (u := .pointer (some ⟨l.blk, l.base + (off + i * s), none⟩)) ?_ (.ptr _ _ _ hl)
    simp [execOp, ho, Instr.indexAt, hyu, asIntOf, r_und hund, hu, hlt', r_size hs, addr_add, Nat.add_assoc]
  · cases hv

theorem op_index {t : TypeId} {x y : Operand} {r : V × H} (hr : HR P σ φ h w) (hρ : RR σ φ tm ρ) {o : Oper} (ho : o.op = .index t x y) (he : evOp P tm h o.op = some r) :
    OpOk P σ φ h w (execOp ρ o) r.1 r.2 := by
  rw [ho] at he
  simp only [evOp, evIndex, Option.bind_eq_some_iff] at he
  obtain ⟨xv, hx, yv, hy, i, hi, v, hv, he⟩ := he
  cases he
  obtain ⟨k, rfl⟩ := natI_some hi
  have hyu := (hρ _ _ hy).int_inv
  have hxu := hρ _ _ hx
  unfold indexV at hv
  split at hv
  · rename_i s hund
    simp only [Option.bind_eq_some_iff] at hv
    obtain ⟨b, hb, he⟩ := hv
    cases he
    obtain ⟨s', hu, hs'⟩ := hxu.str_inv
    subst hs'
    rw [List.getElem?_map, Option.map_eq_some_iff] at hb
    obtain ⟨c, hc, rfl⟩ := hb
    have hc' : s'[i]? = some c := by
      have : s'.data[i]? = some c := by simpa using hc
      have hlt := (Array.getElem?_eq_some_iff.1 this)
      obtain ⟨h1, h2⟩ := hlt
      show (if h : i < s'.size then some (s'.get i h) else none) = some c
      rw [dif_pos (show i < s'.size from h1)]
      exact congrArg some h2
    refine .same hr (u := .int .u8 c.toNat) ?_ (.int _ _)
    simp [execOp, ho, Instr.index, hyu, asIntOf, r_und hund, hu, hc']
  · rename_i n e cs hund
    simp only [Option.bind_eq_some_iff, grd_some] at hv
    obtain ⟨s, hs, hlt, hp⟩ := hv
    obtain ⟨c, hu, hl⟩ := hxu.agg_inv
    obtain ⟨u, hvr, hrun⟩ := r_part hp hl
    have hlt' : i < n := by have := Nat.le_of_ble_eq_true hlt; omega
    exact .same hr (by simp [execOp, ho, Instr.index, hyu, asIntOf, r_und hund, hu, hlt', r_size hs, hrun]) hvr
  · cases hv

end
end Go.Ev

namespace Go.Ev
variable {σ : Nat → Value} {φ φ' : Phi} {P : Program}

theorem bytes_loop (bs : ByteArray) : ∀ (n i : Nat) (r : List UInt8), n = bs.size - i → i ≤ bs.size → ByteArray.toList.loop bs i r = r.reverse ++ bs.data.toList.drop i := by
  intro n
  induction n with
  | zero =>
    intro i r h1 h2
    unfold ByteArray.toList.loop
    have : ¬ i < bs.size := by omega
    rw [if_neg this]
    have hl : bs.data.toList.length = bs.size := by simp
    rw [List.drop_eq_nil_of_le (by omega)]; simp
  | succ n ih =>
    intro i r h1 h2
    have hi : i < bs.size := by omega
    unfold ByteArray.toList.loop
    rw [if_pos hi, ih (i + 1) _ (by omega) (by omega)]
    have hl : bs.data.toList.length = bs.size := by simp
    rw [List.drop_eq_getElem_cons (by omega : i < bs.data.toList.length)]
    simp only [List.reverse_cons, List.append_assoc, List.singleton_append]
    congr 2
    simp only [ByteArray.get!]
    rw [getElem!_pos bs.data i (show i < bs.data.size from hi)]
    simp

theorem bytes_toList (bs : ByteArray) : bs.toList = bs.data.toList := by
  unfold ByteArray.toList
  rw [bytes_loop bs bs.size 0 [] (by omega) (by omega)]
  simp

theorem strEq_iff : ∀ {a b : List Nat}, strEq a b = true ↔ a = b
  | [], [] => by simp [strEq]
  | [], _ :: _ => by simp [strEq]
  | _ :: _, [] => by simp [strEq]
  | a :: l, b :: m => by
    simp only [strEq, Bool.and_eq_true, strEq_iff (a := l) (b := m), List.cons.injEq, Nat.beq_eq]

theorem intEq_iff {a b : Int} : intEq a b = true ↔ a = b := by
  cases a <;> cases b <;> simp [intEq, Nat.beq_eq] <;> omega

theorem toNat_inj : ∀ {a b : List UInt8}, a.map UInt8.toNat = b.map UInt8.toNat ↔ a = b := by
  intro a b
  constructor
  · intro h
    induction a generalizing b with
    | nil => cases b <;> simp_all
    | cons x a ih =>
      cases b with
      | nil => simp at h
      | cons y b =>
        simp only [List.map_cons, List.cons.injEq] at h
        rw [ih h.2, UInt8.toNat_inj.1 h.1]
  · rintro rfl; rfl

theorem bytes_beq (a b : ByteArray) : (a == b) = decide (a.data.toList = b.data.toList) := by
  obtain ⟨⟨x⟩⟩ := a
  obtain ⟨⟨y⟩⟩ := b
  show ((⟨x⟩ : Array UInt8) == ⟨y⟩) = _
  rw [Bool.eq_iff_iff]
  simp

theorem str_beq {a b : ByteArray} : decide (a.data.toList = b.data.toList) = strEq (a.data.toList.map UInt8.toNat) (b.data.toList.map UInt8.toNat) := by
  rw [Bool.eq_iff_iff, decide_eq_true_iff, strEq_iff, toNat_inj]

section
variable {h : H} {w : World} {tm : T V} {ρ : Operand → Value}

theorem eq_by {t : TypeId} {D : TypeDesc} {u u' : Value} {d : Nat} {r : Result Bool} (hu : P.underlying t = some D) {k : TypeDesc → Sem Bool}
    (hk : Op.equalIn (d + 1) t u u' = (underlying t).bind k) (hr : (k D).run P w = r) : (Op.equalIn (d + 1) t u u').run P w = r := by
  rw [hk, Sem.run_bind', r_und hu]; exact hr

theorem eqS_ok {t : TypeId} {a b : V} {r : Bool} {u u' : Value} (he : eqS P t a b = some r) (ha : VR σ φ a u) (hb : VR σ φ b u') (d : Nat) :
    (Op.equalIn (d + 1) t u u').run P w = .ok r w := by
  unfold eqS at he
  split at he
  case h_1 hu => cases he; rw [ha.bool_inv, hb.bool_inv]; exact eq_by hu rfl rfl
  case h_2 k' j a k b hu =>
    rw [grd_some] at he
    obtain ⟨hjk, he⟩ := he
    cases he
    have hjk := of_decide_eq_true hjk
    subst hjk
    rw [ha.int_inv, hb.int_inv]
    refine eq_by hu rfl ?_
    simp only [if_true]
    show Result.ok (a == b) w = _
    congr 1
    rw [Bool.eq_iff_iff, intEq_iff]; simp
  case h_3 a b hu =>
    cases he
    obtain ⟨s, rfl, rfl⟩ := ha.str_inv
    obtain ⟨s', rfl, rfl⟩ := hb.str_inv
    refine eq_by hu rfl ?_
    show Result.ok (s == s') w = _
    rw [bytes_beq, str_beq]
  case h_4 hu => cases he; cases ha; cases hb; exact eq_by hu rfl rfl
  case h_5 hu => cases he; cases ha; cases hb; exact eq_by hu rfl rfl
  case h_6 hu => cases he; cases ha; cases hb; exact eq_by hu rfl rfl
  case h_7 e x i y j hu =>
    simp only [Option.bind_eq_some_iff, grd_some, Bool.and_eq_true] at he
    obtain ⟨s, hs, ⟨hpos, hxy⟩, he⟩ := he
    cases he
    have := Pos.beq_eq hxy
    subst this
    obtain ⟨l, hl, rfl⟩ := ha.ptr_inv
    obtain ⟨l', hl', rfl⟩ := hb.ptr_inv
    rw [hl] at hl'; cases hl'
    have hne : s ≠ 0 := fun e => by subst e; simp [Nat.blt] at hpos
    refine eq_by hu rfl ?_
    simp only [Sem.run_bind, Result.andThen_ok, r_size hs, hne, ne_eq, not_false_eq_true, if_true, sameAddr, beq_self_eq_true, Sem.run_pure]
    congr 1
    rw [Bool.eq_iff_iff, Nat.beq_eq]; simp
  case h_8 hu => cases he; cases ha; cases hb; exact eq_by hu rfl rfl
  case h_9 hu => cases he; cases ha; cases hb; exact eq_by hu rfl rfl
  case h_10 hu => cases he; cases ha; cases hb; exact eq_by hu rfl rfl
  case h_11 hu => cases he; cases ha; cases hb; exact eq_by hu rfl rfl
  case h_12 hu => cases he; cases ha; cases hb; exact eq_by hu rfl rfl
  case h_13 hu => cases he; cases ha; cases hb; exact eq_by hu rfl rfl
  case h_14 hu => cases he; cases ha; cases hb; exact eq_by hu rfl rfl
  case h_15 hu => cases he; cases ha; cases hb; exact eq_by hu rfl rfl
  case h_16 hu => cases he; cases ha; cases hb; exact eq_by hu rfl rfl
  case h_17 hu => cases he; cases ha; cases hb; exact eq_by hu rfl rfl
  case h_18 hu => cases he; cases ha; cases hb; exact eq_by hu rfl rfl
  case h_19 => cases he

theorem eqV_ok : ∀ (n : Nat) {t : TypeId} {a b : V} {r : Bool} {u u' : Value}, eqV P n t a b = some r → VR σ φ a u → VR σ φ b u' → ∀ d, n ≤ d → (Op.equalIn d t u u').run P w = .ok r w
  | 0, _, _, _, _, _, _, he, _, _, _, _ => by simp [eqV] at he
  | n + 1, t, a, b, r, u, u', he, ha, hb, 0, hd => by omega
  | n + 1, t, a, b, r, u, u', he, ha, hb, d + 1, hd => by
    unfold eqV at he
    split at he
    · rename_i xs ys
      simp only [Option.bind_eq_some_iff, grd_some, stT_some, Bool.not_eq_true'] at he
      obtain ⟨fs, hfs, hst, he⟩ := he
      obtain ⟨c, rfl, hc⟩ := ha.agg_inv
      obtain ⟨c', rfl, hc'⟩ := hb.agg_inv
      simp only [Op.equalIn, Sem.run_bind, r_und hfs, Result.andThen_ok, run_program, hst, Bool.false_eq_true, if_false]
      rw [← Array.forIn_toList]
      generalize fs.toList = l at he
      clear hfs
      induction l with
      | nil => simp [eqFs] at he; subst he; simp
      | cons f l ih =>
        unfold eqFs at he
        split at he
        · rename_i hn
          have hn := of_decide_eq_true hn
          simp only [List.forIn_cons, hn, ne_eq, not_true_eq_false, if_false, Sem.run_bind, Sem.run_pure, Result.andThen_ok]
          exact ih he
        · rename_i hn
          have hn := of_decide_eq_false hn
          simp only [Option.bind_eq_some_iff] at he
          obtain ⟨x, hx, y, hy, q, hq, he⟩ := he
          obtain ⟨ux, vx, rx⟩ := r_part hx hc
          obtain ⟨uy, vy, ry⟩ := r_part hy hc'
          have heq := eqV_ok n hq vx vy d (by omega)
          simp only [List.forIn_cons, hn, ne_eq, not_false_eq_true, if_true, Sem.run_bind, rx, ry, heq, Result.andThen_ok]
          cases q with
          | true =>
            simp only [Bool.not_true, Bool.false_eq_true, if_false, Sem.run_pure, Result.andThen_ok]
            exact ih he
          | false => cases he; simp
    · exact eqS_ok he ha hb d

end
end Go.Ev

namespace Go.Ev
variable {σ : Nat → Value} {φ φ' : Phi} {P : Program}
section
variable {h : H} {w : World} {tm : T V} {ρ : Operand → Value}

theorem op_unOp {uo : UnOp} {t : TypeId} {x : Operand} {r : V × H} (hr : HR P σ φ h w) (hρ : RR σ φ tm ρ) {o : Oper} (ho : o.op = .unOp uo t x) (he : evOp P tm h o.op = some r) :
    OpOk P σ φ h w (execOp ρ o) r.1 r.2 := by
  rw [ho] at he
  simp only [evOp, evUn, Option.bind_eq_some_iff] at he
  obtain ⟨a, ha, v, hv, he⟩ := he
  cases he
  have hu := hρ _ _ ha
  unfold unV at hv
  split at hv
  · cases hv
    have := hu.int_inv
    exact .same hr (by simp [execOp, ho, this, Op.unary, Op.intArith]) (.int _ _)
  · cases hv
    have := hu.int_inv
    exact .same hr (by simp [execOp, ho, this, Op.unary, Op.intBits]) (.int _ _)
  · cases hv
    have := hu.bool_inv
    exact .same hr (by simp [execOp, ho, this, Op.unary]) (.bool _)
  · cases hv

theorem bytesLess_ok : ∀ (a b : List UInt8), Op.bytesLess a b = bytesLess (a.map UInt8.toNat) (b.map UInt8.toNat)
  | _, [] => by simp [Op.bytesLess, bytesLess]
  | [], _ :: _ => by simp [Op.bytesLess, bytesLess]
  | a :: x, b :: y => by
    simp only [Op.bytesLess, List.map_cons, bytesLess, bytesLess_ok x y]
    congr 1
    · rw [Bool.eq_iff_iff]; simp [Nat.blt, UInt8.lt_iff_toNat_lt]; omega
    · congr 1
      rw [Bool.eq_iff_iff, Nat.beq_eq]; simp [UInt8.toNat_inj]

theorem intEq_beq (a b : Int) : intEq a b = (a == b) := by rw [Bool.eq_iff_iff, intEq_iff]; simp

theorem intOp_ok {op : BinOp} {k : IntKind} {a b : Int} {v : V} (hv : intOp op k a b = some v) (h1 : op ≠ .shl) (h2 : op ≠ .shr) (t : TypeId) : ∃ u, VR σ φ v u ∧ (binOp op t (.int k a) (.int k b)).run P w = .ok u w := by
  cases op <;> simp only [intOp, grd_some, Option.some.injEq, reduceCtorEq, Bool.not_eq_true'] at hv <;> first
    | (exact (h1 rfl).elim)
    | (exact (h2 rfl).elim)
    | (subst hv; exact ⟨_, .int _ _, by simp [binOp, Op.intArith, Op.intBits]⟩)
    | (subst hv; refine ⟨_, .bool _, ?_⟩; simp [binOp, Op.intCmp, intEq_beq, bne]; done)
    | skip
  · obtain ⟨hz, rfl⟩ := hv
    have : b ≠ 0 := fun e => by rw [intEq_iff.2 e] at hz; cases hz
    exact ⟨_, .int _ _, by simp [binOp, Op.intDiv, this]⟩
  · obtain ⟨hz, rfl⟩ := hv
    have : b ≠ 0 := fun e => by rw [intEq_iff.2 e] at hz; cases hz
    exact ⟨_, .int _ _, by simp [binOp, Op.intDiv, this]⟩

theorem strOp_ok {op : BinOp} {a b : ByteArray} {v : V} (hv : strOp op (a.data.toList.map UInt8.toNat) (b.data.toList.map UInt8.toNat) = some v) (t : TypeId) : ∃ u, VR σ φ v u ∧ (binOp op t (.string a) (.string b)).run P w = .ok u w := by
  have heq : (a.toList == b.toList) = strEq (a.data.toList.map UInt8.toNat) (b.data.toList.map UInt8.toNat) := by
    rw [bytes_toList, bytes_toList, ← str_beq, Bool.eq_iff_iff]; simp
  have hlt : Op.bytesLess a.toList b.toList = bytesLess (a.data.toList.map UInt8.toNat) (b.data.toList.map UInt8.toNat) := by
    rw [bytes_toList, bytes_toList, bytesLess_ok]
  cases op <;> simp only [strOp, grd_some, Option.some.injEq, reduceCtorEq] at hv <;> first
    | (subst hv; rw [← hlt, ← heq]; exact ⟨_, .bool _, by simp [binOp, Op.stringOp]⟩)
    | (subst hv; rw [← hlt]; exact ⟨_, .bool _, by simp [binOp, Op.stringOp]⟩)
    | (subst hv; rw [← heq]; exact ⟨_, .bool _, by simp [binOp, Op.stringOp]⟩)
    | skip
  obtain ⟨hsz, rfl⟩ := hv
  have hle := Nat.le_of_ble_eq_true hsz
  have h1 : a.data.toList.length = a.size := by simp
  have h2 : b.data.toList.length = b.size := by simp
  simp only [List.length_map, h1, h2] at hle
  have hn : ¬ (((a.size + b.size : Nat) : Int) > IntKind.i64.max) := by
    have : IntKind.i64.max = 9223372036854775807 := by decide
    omega
  refine ⟨.string (a ++ b), .str _ _ (by simp [ByteArray.data_append]), by simp only [binOp, Op.stringOp]; rw [if_neg hn]; rfl⟩

theorem shiftOp_ok {op : BinOp} {j k : IntKind} {a b : Int} {v : V} (hv : shiftOp op j a b = some v) (t : TypeId) : ∃ u, VR σ φ v u ∧ (binOp op t (.int j a) (.int k b)).run P w = .ok u w := by
  cases op <;> simp only [shiftOp, grd_some, Option.some.injEq, reduceCtorEq] at hv
  · obtain ⟨hb, rfl⟩ := hv
    have hb := of_decide_eq_true hb
    exact ⟨_, .int _ _, by simp [binOp, Op.shift, show ¬ b < 0 by omega]⟩
  · obtain ⟨hb, rfl⟩ := hv
    have hb := of_decide_eq_true hb
    exact ⟨_, .int _ _, by simp [binOp, Op.shift, show ¬ b < 0 by omega]⟩

theorem eqS_guard {t : TypeId} {a b : V} {r : Bool} {u u' : Value} (he : eqS P t a b = some r) (ha : VR σ φ a u) (hb : VR σ φ b u') (op : BinOp) (x y : Operand) :
    (eqGuard op t x y u u').run P w = .ok () w := by
  unfold eqS at he
  split at he <;> first
    | (cases he; done)
    | (cases ha <;> cases hb <;> cases op <;> simp [eqGuard])

theorem eql_of {t : TypeId} {u u' : Value} {r : Bool} (hu : (Op.equalIn 10000 t u u').run P w = .ok r w) (op : BinOp) (hop : op = .eql ∨ op = .neq)
    (hn : (∀ j a k b, ¬ (u = .int j a ∧ u' = .int k b)) ∧ (∀ a b, ¬ (u = .string a ∧ u' = .string b)) ∧ (∀ k a b, ¬ (u = .float k a ∧ ∃ k', u' = .float k' b)) ∧ (∀ k a b, ¬ (u = .complex k a b ∧ ∃ k' c d, u' = .complex k' c d))) :
    (binOp op t u u').run P w = .ok (.bool (if op = .eql then r else !r)) w := by
  obtain ⟨h1, h2, h3, h4⟩ := hn
  rcases hop with rfl | rfl
  · unfold binOp
    split
    all_goals first
      | (rename_i e1 e2 _; exact (h1 _ _ _ _ ⟨rfl, rfl⟩).elim)
      | skip
    all_goals simp_all [Op.equal, Op.maxDepth]
  · unfold binOp
    split
    all_goals first
      | (rename_i e1 e2 _; exact (h1 _ _ _ _ ⟨rfl, rfl⟩).elim)
      | skip
    all_goals simp_all [Op.equal, Op.maxDepth]

end
end Go.Ev

namespace Go.Ev
variable {σ : Nat → Value} {φ φ' : Phi} {P : Program}
section
variable {h : H} {w : World} {tm : T V} {ρ : Operand → Value}

theorem equalIn_nil {t : TypeId} {ms : Array (String × TypeId)} (hu : P.underlying t = some (.interface ms)) (d : Nat) : (Op.equalIn (d + 1) t .nilIface .nilIface).run P w = .ok true w := by
  simp [Op.equalIn, r_und hu]

theorem sameV_ok {t : TypeId} {x y : Operand} {a b : V} {r : Bool} {u u' : Value} (he : sameV P t x y a b = some r) (ha : VR σ φ a u) (hb : VR σ φ b u') (op : BinOp) (hop : op = .eql ∨ op = .neq) :
    (eqGuard op t x y u u').run P w = .ok () w ∧ (binOp op t u u').run P w = .ok (.bool (if op = .eql then r else !r)) w := by
  unfold sameV at he
  split at he
  · simp only [grd_some] at he
    obtain ⟨hc, hi, he⟩ := he
    cases he
    cases ha; cases hb
    have hg : (eqGuard op t x y .nilIface .nilIface).run P w = .ok () w := by
      rcases hop with rfl | rfl <;> cases x <;> cases y <;> first | (exact (Bool.false_ne_true hc).elim) | (simp [eqGuard]; done)
    refine ⟨hg, eql_of ?_ op hop (by simp)⟩
    split at hi
    · rename_i r' hr'
      subst hi
      unfold isIface at hr'
      split at hr'
      · rename_i ms hu; exact equalIn_nil hu 9999
      · cases hr'
      · cases hr'
    · cases hi
  · simp only [grd_some, Bool.not_eq_true'] at he
    obtain ⟨hg, he⟩ := he
    have hq := eqV_ok (w := w) 8 he ha hb 10000 (by omega)
    obtain ⟨c, rfl, _⟩ := ha.agg_inv
    obtain ⟨c', rfl, _⟩ := hb.agg_inv
    exact ⟨by rcases hop with rfl | rfl <;> simp [eqGuard, hg], eql_of hq op hop (by simp)⟩
  · rename_i h1 h2
    have hq := eqV_ok (w := w) 8 he ha hb 10000 (by omega)
    have he' : eqS P t a b = some r := by
      unfold eqV at he
      split at he
      · rename_i xs ys; exact (h2 xs ys rfl rfl).elim
      · exact he
    refine ⟨eqS_guard he' ha hb op x y, ?_⟩
    -- numbers and texts are told in binV: here the law of '==' at them
    unfold eqS at he'
    split at he'
    all_goals first
      | (cases he'; done)
      | skip
    all_goals first
      | (cases ha; cases hb; refine eql_of hq op hop ?_; simp; done)
      | skip
    · rename_i k' j a k b hu
      rw [grd_some] at he'
      obtain ⟨hjk, he'⟩ := he'
      have := of_decide_eq_true hjk; subst this; cases he'
      rw [ha.int_inv, hb.int_inv]
      rcases hop with rfl | rfl <;> simp [binOp, Op.intCmp, intEq_beq, bne]
    · rename_i a b hu
      cases he'
      obtain ⟨s, rfl, rfl⟩ := ha.str_inv
      obtain ⟨s', rfl, rfl⟩ := hb.str_inv
      have heq : (s.toList == s'.toList) = strEq (s.data.toList.map UInt8.toNat) (s'.data.toList.map UInt8.toNat) := by
        rw [bytes_toList, bytes_toList, ← str_beq, Bool.eq_iff_iff]; simp
      rcases hop with rfl | rfl <;> simp [binOp, Op.stringOp, heq]

theorem op_binOp {bo : BinOp} {t t' : TypeId} {x y : Operand} {r : V × H} (hr : HR P σ φ h w) (hρ : RR σ φ tm ρ) {o : Oper} (ho : o.op = .binOp bo t x y t') (he : evOp P tm h o.op = some r) :
    OpOk P σ φ h w (execOp ρ o) r.1 r.2 := by
  rw [ho] at he
  simp only [evOp, evBin, Option.bind_eq_some_iff] at he
  obtain ⟨a, ha, b, hb, v, hv, he⟩ := he
  cases he
  have hau := hρ _ _ ha
  have hbu := hρ _ _ hb
  have fin : ∀ u, VR σ φ v u → (eqGuard bo t x y (ρ x) (ρ y)).run P w = .ok () w → (binOp bo t (ρ x) (ρ y)).run P w = .ok u w → OpOk P σ φ h w (execOp ρ o) v h := fun u hvr h1 h2 =>
    .same hr (by simp [execOp, ho, h1, h2]) hvr
  unfold binV at hv
  split at hv
  · rename_i j a k b
    rw [hau.int_inv, hbu.int_inv] at fin
    have hg : (eqGuard bo t x y (.int j a) (.int k b)).run P w = .ok () w := by cases bo <;> simp [eqGuard]
    split at hv
    · obtain ⟨u, hvr, hrun⟩ := shiftOp_ok (φ := φ) (σ := σ) (P := P) (w := w) (k := k) hv t
      exact fin u hvr hg hrun
    · obtain ⟨u, hvr, hrun⟩ := shiftOp_ok (φ := φ) (σ := σ) (P := P) (w := w) (k := k) hv t
      exact fin u hvr hg hrun
    · rename_i h1 h2
      rw [grd_some] at hv
      obtain ⟨hjk, hv⟩ := hv
      have := of_decide_eq_true hjk; subst this
      obtain ⟨u, hvr, hrun⟩ := intOp_ok (φ := φ) (σ := σ) (P := P) (w := w) hv h1 h2 t
      exact fin u hvr hg hrun
  · rename_i a b
    obtain ⟨s, hs, rfl⟩ := hau.str_inv
    obtain ⟨s', hs', rfl⟩ := hbu.str_inv
    rw [hs, hs'] at fin
    have hg : (eqGuard bo t x y (.string s) (.string s')).run P w = .ok () w := by cases bo <;> simp [eqGuard]
    obtain ⟨u, hvr, hrun⟩ := strOp_ok (φ := φ) (σ := σ) (P := P) (w := w) hv t
    exact fin u hvr hg hrun
  · split at hv
    · simp only [Option.bind_eq_some_iff] at hv
      obtain ⟨q, hq, he⟩ := hv
      cases he
      obtain ⟨h1, h2⟩ := sameV_ok (w := w) hq hau hbu .eql (.inl rfl)
      exact fin _ (.bool _) h1 (by simpa using h2)
    · simp only [Option.bind_eq_some_iff] at hv
      obtain ⟨q, hq, he⟩ := hv
      cases he
      obtain ⟨h1, h2⟩ := sameV_ok (w := w) hq hau hbu .neq (.inr rfl)
      exact fin _ (.bool _) h1 (by simpa using h2)
    · cases hv

theorem askB_some {v : V} {top n : Nat} (h : askB v top = some n) : (∃ k, v = .int k (Int.ofNat n)) ∧ n ≤ top := by
  unfold askB at h
  simp only [Option.bind_eq_some_iff, int?_some] at h
  obtain ⟨⟨k, i⟩, rfl, he⟩ := h
  cases i with
  | ofNat m =>
    simp only [grd_some, Option.some.injEq] at he
    obtain ⟨hle, rfl⟩ := he
    exact ⟨⟨k, rfl⟩, Nat.le_of_ble_eq_true hle⟩
  | negSucc m => cases he


end
end Go.Ev
namespace Go.Ev
variable {σ : Nat → Value} {φ φ' : Phi} {P : Program}
section
variable {h : H} {w : World} {tm : T V} {ρ : Operand → Value}

theorem r_sliceBound {v : V} {top n : Nat} {u : Value} (h : askB v top = some n) (hv : VR σ φ v u) (code : BoundsCode) : (Instr.sliceBound u top code).run P w = .ok n w := by
  obtain ⟨⟨k, rfl⟩, hle⟩ := askB_some h
  rw [hv.int_inv]
  simp [Instr.sliceBound, asIntOf, hle]

theorem rhoO_ok (hρ : RR σ φ tm ρ) {x : Option Operand} {r : Option V} (h : rhoO tm x = some r) : (x = none ∧ r = none) ∨ ∃ y v, x = some y ∧ r = some v ∧ VR σ φ v (ρ y) := by
  cases x with
  | none => simp [rhoO] at h; exact .inl ⟨rfl, h.symm⟩
  | some y =>
    simp only [rhoO, Option.bind_eq_some_iff] at h
    obtain ⟨v, hv, he⟩ := h
    cases he
    exact .inr ⟨y, v, rfl, rfl, hρ _ _ hv⟩

/-- what the bounds come to, where the capacity may be greater than is known -/
theorem r_sliceBounds (hρ : RR σ φ tm ρ) {isSlice : Bool} {len cap cap' : Nat} {lo hi mx : Option Operand} {vlo vhi vmx : Option V} {b : Nat × Nat × Nat}
    (h1 : rhoO tm lo = some vlo) (h2 : rhoO tm hi = some vhi) (h3 : rhoO tm mx = some vmx) (hb : sliceBoundsV len cap vlo vhi vmx = some b) (hcap : cap ≤ cap') :
    (Instr.sliceBounds isSlice len cap' (lo.map ρ) (hi.map ρ) (mx.map ρ)).run P w = .ok (b.1, b.2.1, if vmx = none then cap' else b.2.2) w ∧ b.1 ≤ b.2.1 ∧ b.2.2 ≤ cap ∧ (vmx = none → b.2.2 = cap) ∧ (vhi ≠ none → b.2.1 ≤ b.2.2) ∧ (vhi = none → b.2.1 = len) := by
  simp only [sliceBoundsV, Option.bind_eq_some_iff] at hb
  obtain ⟨m, hm, hh, hhe, l, hl, he⟩ := hb
  cases he
  rcases rhoO_ok hρ h3 with ⟨rfl, rfl⟩ | ⟨y3, v3, rfl, rfl, r3⟩
  · simp at hm; subst hm
    rcases rhoO_ok hρ h2 with ⟨rfl, rfl⟩ | ⟨y2, v2, rfl, rfl, r2⟩
    · simp at hhe; subst hhe
      rcases rhoO_ok hρ h1 with ⟨rfl, rfl⟩ | ⟨y1, v1, rfl, rfl, r1⟩
      · simp at hl; subst hl; simp [Instr.sliceBounds]
      · simp only at hl
        have := (askB_some hl).2
        simp [Instr.sliceBounds, r_sliceBound hl r1, this]
    · simp only at hhe
      have hle2 := (askB_some hhe).2
      have hhe' : askB v2 cap' = some hh := by
        obtain ⟨⟨k, rfl⟩, hle⟩ := askB_some hhe
        simp [askB, V.int?, grd, Nat.ble_eq_true_of_le (Nat.le_trans hle hcap)]
      rcases rhoO_ok hρ h1 with ⟨rfl, rfl⟩ | ⟨y1, v1, rfl, rfl, r1⟩
      · simp at hl; subst hl; simp [Instr.sliceBounds, r_sliceBound hhe' r2, hle2]
      · simp only at hl
        have := (askB_some hl).2
        simp [Instr.sliceBounds, r_sliceBound hhe' r2, r_sliceBound hl r1, this, hle2]
  · simp only at hm
    have hle3 := (askB_some hm).2
    have hm' : askB v3 cap' = some m := by
      obtain ⟨⟨k, rfl⟩, hle⟩ := askB_some hm
      simp [askB, V.int?, grd, Nat.ble_eq_true_of_le (Nat.le_trans hle hcap)]
    rcases rhoO_ok hρ h2 with ⟨rfl, rfl⟩ | ⟨y2, v2, rfl, rfl, r2⟩
    · simp at hhe
    · simp only at hhe
      have hle2 := (askB_some hhe).2
      rcases rhoO_ok hρ h1 with ⟨rfl, rfl⟩ | ⟨y1, v1, rfl, rfl, r1⟩
      · simp at hl; subst hl; simp [Instr.sliceBounds, r_sliceBound hm' r3, r_sliceBound hhe r2, hle2, hle3]
      · simp only at hl
        have := (askB_some hl).2
        simp [Instr.sliceBounds, r_sliceBound hm' r3, r_sliceBound hhe r2, r_sliceBound hl r1, this, hle2, hle3]

end
end Go.Ev

namespace Go.Ev
variable {σ : Nat → Value} {φ φ' : Phi} {P : Program}
section
variable {h : H} {w : World} {tm : T V} {ρ : Operand → Value}

theorem extract_bytes (s : ByteArray) (l h : Nat) : ((s.extract l h).data.toList).map UInt8.toNat = (((s.data.toList.map UInt8.toNat).drop l).take (h - l)) := by
  rw [ByteArray.data_extract, Array.toList_extract, List.extract_eq_take_drop, ← List.map_drop, ← List.map_take]

theorem op_slice {t : TypeId} {x : Operand} {lo hi mx : Option Operand} {r : V × H} (hr : HR P σ φ h w) (hρ : RR σ φ tm ρ) {o : Oper} (ho : o.op = .slice t x lo hi mx) (he : evOp P tm h o.op = some r) :
    OpOk P σ φ h w (execOp ρ o) r.1 r.2 := by
  rw [ho] at he
  simp only [evOp, evSlice, Option.bind_eq_some_iff] at he
  obtain ⟨xv, hx, vlo, hlo, vhi, hhi, vmx, hmx, v, hv, he⟩ := he
  cases he
  have hxu := hρ _ _ hx
  unfold sliceV at hv
  split at hv
  · rename_i s hund
    split at hv
    · cases hv
    · rename_i _
      simp only [Option.bind_eq_some_iff, Option.some.injEq] at hv
      obtain ⟨b, hb, rfl⟩ := hv
      obtain ⟨s', hu, rfl⟩ := hxu.str_inv
      have hl : (s'.data.toList.map UInt8.toNat).length = s'.size := by simp
      rw [hl] at hb
      obtain ⟨h1, _⟩ := r_sliceBounds (P := P) (w := w) (isSlice := false) hρ hlo hhi hmx hb (Nat.le_refl _)
      have hmn : mx = none := by
        rcases rhoO_ok hρ hmx with ⟨h, _⟩ | ⟨y, v, _, h, _⟩
        · exact h
        · cases h
      subst hmn
      simp only [Option.map_none] at h1
      refine .same hr (u := .string (s'.extract b.1 b.2.1)) ?_ (.str _ _ (extract_bytes s' b.1 b.2.1))
      simp [execOp, ho, Instr.sliceAt, Instr.slice, r_und hund, hu, h1]
  · rename_i e hund
    simp only [Option.bind_eq_some_iff, Option.some.injEq] at hv
    obtain ⟨s, hs, b, hb, rfl⟩ := hv
    have hu : ρ x = .slice none 0 0 := by
      generalize ρ x = u at hxu
      cases hxu; rfl
    obtain ⟨h1, h2, h3, h4, h5, h6⟩ := r_sliceBounds (P := P) (w := w) (isSlice := true) hρ hlo hhi hmx hb (Nat.le_refl _)
    have hb0 : b.1 = 0 ∧ b.2.1 = 0 ∧ b.2.2 = 0 := by
      have : b.2.1 ≤ b.2.2 ∨ b.2.1 = 0 := by
        by_cases hn : vhi = none
        · exact .inr (h6 hn)
        · exact .inl (h5 hn)
      omega
    have hend : (if vmx = none then 0 else b.2.2) = 0 := by split <;> omega
    rw [hend, hb0.1, hb0.2.1] at h1
    refine .same hr (u := .slice none 0 0) ?_ .snil
    simp [execOp, ho, Instr.sliceAt, Instr.slice, r_und hund, hu, h1, r_size hs]
  · rename_i e xx off len cap op hund
    simp only [Option.bind_eq_some_iff] at hv
    obtain ⟨size, hs, b, hb, hv⟩ := hv
    obtain ⟨l, cap', hl, hc, hop, hu⟩ := hxu.sl_inv
    have hcap : cap ≤ cap' := by
      cases op with
      | false => rw [hc rfl]; exact Nat.le_refl _
      | true => exact (hop rfl).1
    obtain ⟨h1, h2, h3, h4, h5, h6⟩ := r_sliceBounds (P := P) (w := w) (isSlice := true) hρ hlo hhi hmx hb hcap
    have hrun : ∀ m', (if vmx = none then cap' else b.2.2) = m' → (execOp ρ o).run P w = .ok (.value (.slice (some (if m' = b.1 then ⟨l.blk, l.base + off, none⟩ else ⟨l.blk, l.base + (off + b.1 * size), none⟩)) (b.2.1 - b.1) (m' - b.1))) w := by
      intro m' hm'
      rw [hm'] at h1
      simp only [execOp, ho, Sem.run_bind, Instr.sliceAt, r_und hund, Result.andThen_ok, Instr.slice, hu, h1, r_size hs, Sem.run_pure, Option.map_some, addr_add, Nat.add_assoc]
      split <;> rfl
    split at hv
    · rename_i hbeq
      have hml := Nat.eq_of_beq_eq_true hbeq
      split at hv
      · cases hv
        have hm' : (if vmx = none then cap' else b.2.2) = b.1 := by
          split
          · rename_i hn; rw [hc rfl, ← h4 hn]; exact hml
          · exact hml
        have := hrun b.1 hm'
        rw [if_pos rfl, Nat.sub_self] at this
        exact .same hr this (.sl _ _ _ _ _ _ _ hl (fun _ => rfl) (fun e => by cases e))
      · split at hv
        · cases hv
          rename_i vm
          have := hrun b.1 (by simpa using hml)
          rw [if_pos rfl, Nat.sub_self] at this
          exact .same hr this (.sl _ _ _ _ _ _ _ hl (fun _ => rfl) (fun e => by cases e))
        · cases hv
    · rename_i hbeq
      have hml := Nat.ne_of_beq_eq_false hbeq
      split at hv
      · cases hv
        have hm' : (if vmx = none then cap' else b.2.2) = b.2.2 := by
          split
          · rename_i hn; rw [hc rfl, h4 hn]
          · rfl
        have := hrun b.2.2 hm'
        rw [if_neg hml] at this
        exact .same hr this (.sl _ _ _ _ _ _ _ hl (fun _ => rfl) (fun e => by cases e))
      · split at hv
        · cases hv
          rename_i vm
          have := hrun b.2.2 (by simp)
          rw [if_neg hml] at this
          exact .same hr this (.sl _ _ _ _ _ _ _ hl (fun _ => rfl) (fun e => by cases e))
        · simp only [Option.bind_eq_some_iff, grd_some, Option.some.injEq] at hv
          obtain ⟨rr, hrow, s, hse, hss, rfl⟩ := hv
          simp only [Bool.and_eq_true] at hss
          obtain ⟨hss, hlow⟩ := hss
          have hse2 := Nat.eq_of_beq_eq_true hss
          obtain ⟨c, fr, _, _, _, _, g5, _, _⟩ := hr.row (H.row?_some.1 hrow) hl
          rw [hse] at g5
          have hsz : l.sz = size := by cases g5; exact hse2
          have hb2 := h4 rfl
          obtain ⟨o1, o2⟩ := hop rfl
          have hlow : b.1 ≤ b.2.2 := Nat.le_of_ble_eq_true hlow
          have hne : cap' ≠ b.1 := by omega
          have := hrun cap' (by simp)
          rw [if_neg hne] at this
          refine .same hr this (.sl _ _ _ _ _ _ _ hl (fun e => by cases e) (fun _ => ⟨by omega, ?_⟩))
          rw [hsz] at o2 ⊢
          have : off + b.1 * size + (cap' - b.1) * size = off + cap' * size := by
            rw [Nat.add_assoc, ← Nat.add_mul]; congr 2; omega
          omega
  · rename_i n e xx off hund
    simp only [Option.bind_eq_some_iff, Option.some.injEq] at hv
    obtain ⟨size, hs, b, hb, rfl⟩ := hv
    obtain ⟨l, hl, hu⟩ := hxu.ptr_inv
    obtain ⟨h1, h2, h3, h4, h5, h6⟩ := r_sliceBounds (P := P) (w := w) (isSlice := false) hρ hlo hhi hmx hb (Nat.le_refl _)
    have hm' : (if vmx = none then n else b.2.2) = b.2.2 := by
      split
      · rename_i hn; rw [h4 hn]
      · rfl
    rw [hm'] at h1
    have hrun : (execOp ρ o).run P w = .ok (.value (.slice (some ⟨l.blk, l.base + (match Nat.beq b.2.2 b.1 with | true => off | false => off + b.1 * size), none⟩) (b.2.1 - b.1) (b.2.2 - b.1))) w := by
      simp only [execOp, ho, Sem.run_bind, Instr.sliceAt, r_und hund, Result.andThen_ok, hu, Instr.sureAddr, h1, r_size hs, Sem.run_pure, addr_add, Nat.add_assoc]
      cases hq : Nat.beq b.2.2 b.1 with
      | true => rw [if_pos (Nat.eq_of_beq_eq_true hq)]
      | false => rw [if_neg (Nat.ne_of_beq_eq_false hq)]
    exact .same hr hrun (.sl _ _ _ _ _ _ _ hl (fun _ => rfl) (fun e => by cases e))
  · cases hv

end
end Go.Ev

namespace Go.Ev
variable {σ : Nat → Value} {φ φ' : Phi} {P : Program}

mutual
theorem V.eqb_eq : ∀ {a b : V}, V.eqb a b = true → a = b
  | .bool a, b, h => by cases b <;> simp [V.eqb] at h; rw [h]
  | .int j a, b, h => by cases b <;> simp [V.eqb, intEq_iff] at h; rw [h.1, h.2]
  | .str a, b, h => by cases b <;> simp [V.eqb, strEq_iff] at h; rw [h]
  | .ptr x i, b, h => by
    cases b <;> simp [V.eqb, Nat.beq_eq] at h
    rw [Pos.beq_eq h.1, h.2]
  | .pnil, b, h => by cases b <;> simp [V.eqb] at h; rfl
  | .sl x a b c d, e, h => by
    cases e <;> simp [V.eqb, Nat.beq_eq] at h
    obtain ⟨h1, h2, h3, h4, h5⟩ := h
    rw [Pos.beq_eq h1, h2, h3, h4, h5]
  | .snil, b, h => by cases b <;> simp [V.eqb] at h; rfl
  | .map x, b, h => by
    cases b <;> simp [V.eqb] at h
    rw [Pos.beq_eq h]
  | .mnil, b, h => by cases b <;> simp [V.eqb] at h; rfl
  | .fn f a b, e, h => by
    cases e with
    | fn g a' b' =>
      cases f <;> cases g <;> simp [V.eqb, Nat.beq_eq] at h
      obtain ⟨h1, h2, h3⟩ := h
      rw [h1, V.eqbs_eq h2, V.eqbs_eq h3]
    | _ => cases f <;> simp [V.eqb] at h
  | .fnil, b, h => by cases b <;> simp [V.eqb] at h; rfl
  | .ifc t v, b, h => by
    cases b <;> simp [V.eqb, Nat.beq_eq] at h
    rw [h.1, V.eqb_eq h.2]
  | .inil, b, h => by cases b <;> simp [V.eqb] at h; rfl
  | .agg a, b, h => by
    cases b <;> simp [V.eqb] at h
    rw [V.eqbs_eq h]
  | .tup a, b, h => by
    cases b <;> simp [V.eqb] at h
    rw [V.eqbs_eq h]
  | .sym a, b, h => by cases b <;> simp [V.eqb, Nat.beq_eq] at h; rw [h]
theorem V.eqbs_eq : ∀ {a b : List V}, V.eqbs a b = true → a = b
  | [], b, h => by cases b <;> simp [V.eqbs] at h; rfl
  | x :: l, b, h => by
    cases b with
    | nil => simp [V.eqbs] at h
    | cons y m =>
      simp only [V.eqbs, Bool.and_eq_true] at h
      rw [V.eqb_eq h.1, V.eqbs_eq h.2]
end

section
variable {h : H} {w : World} {tm : T V} {ρ : Operand → Value}

theorem EL.length : ∀ {l : List (V × V × Nat)} {k : List MapEntry}, EL σ φ l k → l.length = k.length
  | _, _, .nil => rfl
  | _, _, .cons _ _ _ _ _ hl => by simp [EL.length hl]

theorem keyOk_ok : ∀ (n : Nat) {t : TypeId} {k : V} {u : Value} (em : Bool), keyOk P n t k = true → VR σ φ k u → ∀ d, n ≤ d → (Instr.checkKey em d t u).run P w = .ok () w
  | 0, _, _, _, _, he, _, _, _ => by simp [keyOk] at he
  | n + 1, t, k, u, em, he, ha, 0, hd => by omega
  | n + 1, t, k, u, em, he, ha, d + 1, hd => by
    unfold keyOk at he
    split at he
    · rename_i k' hu
      simp [Instr.checkKey, r_und hu]
    · rename_i hu; simp [Instr.checkKey, r_und hu]
    · rename_i hu; simp [Instr.checkKey, r_und hu]
    · rename_i fs hu
      split at he
      · rename_i cs
        obtain ⟨c, rfl, hc⟩ := ha.agg_inv
        simp only [Instr.checkKey, Sem.run_bind, r_und hu, Result.andThen_ok]
        rw [← Array.forIn_toList]
        generalize fs.toList = l at he
        clear hu
        induction l with
        | nil => simp
        | cons f l ih =>
          simp only [List.all_cons, Bool.and_eq_true, Bool.or_eq_true, decide_eq_true_eq] at he
          obtain ⟨h1, h2⟩ := he
          by_cases hn : f.name = "_"
          · simp only [List.forIn_cons, hn, ne_eq, not_true_eq_false, if_false, Sem.run_bind, Sem.run_pure, Result.andThen_ok]
            exact ih h2
          · have h1 := h1.resolve_left hn
            split at h1
            · rename_i x hx
              obtain ⟨ux, vx, rx⟩ := r_part hx hc
              have hk := keyOk_ok n em h1 vx d (by omega)
              simp only [List.forIn_cons, hn, ne_eq, not_false_eq_true, if_true, Sem.run_bind, rx, hk, Result.andThen_ok, Sem.run_pure]
              exact ih h2
            · cases h1
      · cases he
    · cases he

theorem sameNow_ok {t : TypeId} {d : TypeDesc} (hu : P.underlying t = some d) {k k' : V} {u u' : Value} {r b : Bool} (ha : VR σ φ k u) (hb : VR σ φ k' u') (he : eqV P 8 t k k' = some r) (hs : Instr.sameNow d u u' = some b) : b = r := by
  have hq := eqV_ok (w := (default : World)) 8 he ha hb 8 (Nat.le_refl _)
  have fin : ∀ x, (Op.equalIn (7 + 1) t u u').run P (default : World) = .ok x (default : World) → x = r := fun x hx => by
    have := hx.symm.trans hq
    cases this; rfl
  unfold Instr.sameNow at hs
  split at hs
  · rename_i k1 k2 a k3 b'
    split at hs
    · rename_i hk; subst hk; cases hs
      exact fin _ (eq_by hu rfl (by simp only [if_true]; rfl))
    · cases hs
  · cases hs
    exact fin _ (eq_by hu rfl rfl)
  · cases hs
    exact fin _ (eq_by hu rfl rfl)
  · cases hs

/-- what is found, on both sides -/
def FR (σ : Nat → Value) (φ : Phi) : Option (Nat × V) → Option (Nat × Value) → Prop
  | none, none => True
  | some (i, v), some (j, u) => i = j ∧ VR σ φ v u
  | _, _ => False

theorem findAsking_ok {t : TypeId} {k : V} {u : Value} (hk : VR σ φ k u) : ∀ {es : List (V × V × Nat)} {es' : List MapEntry} {i : Nat} {r : Option (Nat × V)}, findV P t k es i = some r → EL σ φ es es' →
    ∃ r', (Instr.findAsking t u es' i).run P w = .ok r' w ∧ FR σ φ r r'
  | [], _, i, r, he, .nil => by simp [findV] at he; subst he; exact ⟨none, by simp [Instr.findAsking], trivial⟩
  | e :: es, _, i, r, he, .cons _ m _ l hm hl => by
    simp only [findV, Option.bind_eq_some_iff] at he
    obtain ⟨q, hq, he⟩ := he
    have heq := eqV_ok (w := w) 8 hq hk hm.1 10000 (by omega)
    cases q with
    | true =>
      cases he
      exact ⟨some (i, m.val), by simp [Instr.findAsking, Op.equal, Op.maxDepth, heq], rfl, hm.2.1⟩
    | false =>
      obtain ⟨r', h1, h2⟩ := findAsking_ok hk he hl
      exact ⟨r', by simp [Instr.findAsking, Op.equal, Op.maxDepth, heq, h1], h2⟩

theorem findNow_ok {t : TypeId} {d : TypeDesc} (hu : P.underlying t = some d) {k : V} {u : Value} (hk : VR σ φ k u) : ∀ {es : List (V × V × Nat)} {es' : List MapEntry} {i : Nat} {r : Option (Nat × V)} {r' : Option (Nat × Value)}, findV P t k es i = some r → EL σ φ es es' →
    Instr.findNow d u es' i = some r' → FR σ φ r r'
  | [], _, i, r, r', he, .nil, hf => by simp [findV] at he; subst he; simp [Instr.findNow] at hf; subst hf; trivial
  | e :: es, _, i, r, r', he, .cons _ m _ l hm hl, hf => by
    simp only [findV, Option.bind_eq_some_iff] at he
    obtain ⟨q, hq, he⟩ := he
    unfold Instr.findNow at hf
    split at hf
    · rename_i hs
      have := sameNow_ok hu hk hm.1 hq hs
      subst this
      cases he; cases hf
      exact ⟨rfl, hm.2.1⟩
    · rename_i hs
      have := sameNow_ok hu hk hm.1 hq hs
      subst this
      exact findNow_ok hu hk he hl hf
    · cases hf

theorem findKey_ok {t : TypeId} {d : TypeDesc} (hu : P.underlying t = some d) {k : V} {u : Value} (hk : VR σ φ k u) {es : List (V × V × Nat)} {es' : List MapEntry} {r : Option (Nat × V)} (he : findV P t k es 0 = some r) (hl : EL σ φ es es') :
    ∃ r', (Instr.findKey t u es').run P w = .ok r' w ∧ FR σ φ r r' := by
  simp only [Instr.findKey, Sem.run_bind, r_und hu, Result.andThen_ok]
  cases hf : Instr.findNow d u es' 0 with
  | some r' => exact ⟨r', by simp, findNow_ok hu hk he hl hf⟩
  | none => simpa using findAsking_ok hk he hl

theorem keyOk_und {n : Nat} {t : TypeId} {k : V} (h : keyOk P n t k = true) : ∃ d, P.underlying t = some d := by
  cases n with
  | zero => simp [keyOk] at h
  | succ n =>
    cases hu : P.underlying t with
    | some d => exact ⟨d, rfl⟩
    | none => simp [keyOk, hu] at h

/-- a map's entries in the world -/
theorem HR.map (hr : HR P σ φ h w) {x : Pos} {e : List (V × V × Nat) × Nat} (hx : h.map? x = some e) {l : L} (hl : φ x = some l) :
    ∃ es' : Array MapEntry, w.heap[l.blk]? = some (.map es' e.2) ∧ EL σ φ e.1 es'.toList := by
  obtain ⟨l0, ob, h1, h2, es', rfl, h3⟩ := hr.holds.obj x _ (H.map?_some.1 hx)
  rw [hl] at h1; cases h1
  exact ⟨es', h2, h3⟩

theorem run_getMap {b : Nat} {es : Array MapEntry} {c : Nat} (hb : w.heap[b]? = some (.map es c)) : (getObj b).run P w = .ok (.map es c) w := by
  simp [getObj, Sem.run, hb]

theorem op_lookup {t : TypeId} {x y : Operand} {ok : Bool} {r : V × H} (hr : HR P σ φ h w) (hρ : RR σ φ tm ρ) {o : Oper} (ho : o.op = .lookup t x y ok) (he : evOp P tm h o.op = some r) :
    SameOk P σ φ h w (execOp ρ o) r.1 r.2 := by
  rw [ho] at he
  simp only [evOp, evLookup, Option.bind_eq_some_iff] at he
  obtain ⟨m, hm, k, hk, v, hv, he⟩ := he
  cases he
  have hmu := hρ _ _ hm
  have hku := hρ _ _ hk
  simp only [lookupV, Option.bind_eq_some_iff, grd_some, mapT_some] at hv
  obtain ⟨ke, hke, hkey, es, hes, fr, hf, hv⟩ := hv
  obtain ⟨d, hd⟩ := keyOk_und hkey
  have get : ∃ es' : Array MapEntry, EL σ φ es es'.toList ∧ ((ρ x = .map none ∧ es' = #[]) ∨ ∃ b c, ρ x = .map (some b) ∧ w.heap[b]? = some (.map es' c)) := by
    unfold esOf at hes
    split at hes
    · cases hes
      have hx : ρ x = .map none := by
        generalize ρ x = u at hmu
        cases hmu; rfl
      exact ⟨#[], .nil, .inl ⟨hx, rfl⟩⟩
    · simp only [Option.bind_eq_some_iff, Option.some.injEq] at hes
      obtain ⟨e, he, rfl⟩ := hes
      obtain ⟨l, hl, hu⟩ := hmu.map_inv
      obtain ⟨es', h1, h2⟩ := hr.map he hl
      exact ⟨es', h2, .inr ⟨_, _, hu, h1⟩⟩
    · cases hes
  obtain ⟨es', hel, hx⟩ := get
  have hck := keyOk_ok (w := w) 8 es'.isEmpty hkey hku 10000 (by omega)
  obtain ⟨r', hfk, hfr⟩ := findKey_ok (w := w) hd hku hf hel
  have fin : ∀ u' b, VR σ φ v u' → (match ok with | true => ∃ v1 u1, v = .tup [v1, .bool b] ∧ u' = .tuple #[u1, .bool b] ∧ VR σ φ v1 u1 | false => True) → True := fun _ _ _ _ => trivial
  have run : ∀ (u1 : Value) (b : Bool), ((r' = none ∧ b = false ∧ ∀ w, (zeroValue ke.2).run P w = .ok u1 w) ∨ (∃ i, r' = some (i, u1) ∧ b = true)) →
      (execOp ρ o).run P w = .ok (.value (if ok then .tuple #[u1, .bool b] else u1)) w := by
    intro u1 b hcase
    rcases hx with ⟨hx, rfl⟩ | ⟨bl, c, hx, hb⟩
    · rcases hcase with ⟨rfl, rfl, hz⟩ | ⟨i, rfl, rfl⟩
      · simp at hck hfk
        simp [execOp, ho, Instr.lookup, r_und hke, hx, hck, hfk, hz]
      · simp at hck hfk
        simp [execOp, ho, Instr.lookup, r_und hke, hx, hck, hfk]
    · rcases hcase with ⟨rfl, rfl, hz⟩ | ⟨i, rfl, rfl⟩
      · simp [execOp, ho, Instr.lookup, r_und hke, hx, run_getMap hb, hck, hfk, hz]
      · simp [execOp, ho, Instr.lookup, r_und hke, hx, run_getMap hb, hck, hfk]
  cases fr with
  | none =>
    simp only [Option.bind_eq_some_iff] at hv
    obtain ⟨z, hz, hv⟩ := hv
    cases r' with
    | some q => exact hfr.elim
    | none =>
      obtain ⟨u, hu, hzr⟩ := r_zero (σ := σ) (φ := φ) hz
      have := run u false (.inl ⟨rfl, rfl, hzr⟩)
      cases ok <;> cases hv
      · exact .same (by simpa using this) hu
      · exact .same (by simpa using this) (.tup _ _ (.cons _ _ _ _ hu (.singleton (.bool _))))
  | some p =>
    obtain ⟨i, v1⟩ := p
    cases r' with
    | none => exact hfr.elim
    | some q =>
      obtain ⟨j, u⟩ := q
      obtain ⟨_, hu⟩ := hfr
      have := run u true (.inr ⟨j, rfl, rfl⟩)
      cases ok <;> cases hv
      · exact .same (by simpa using this) hu
      · exact .same (by simpa using this) (.tup _ _ (.cons _ _ _ _ hu (.singleton (.bool _))))

end
end Go.Ev
