/- the abstract evaluator: definitions. -/
import GoSem.Machine.Early
import GoSem.Step
namespace Go.Ev
noncomputable section

def grd {α : Type} (b : Bool) (k : Option α) : Option α := match b with
  | true => k
  | false => none

theorem grd_some {α : Type} {b : Bool} {k : Option α} {r : α} : grd b k = some r ↔ b = true ∧ k = some r := by
  cases b <;> simp [grd]

inductive Pos where
  | pe : Pos
  | p0 (p : Pos) : Pos
  | p1 (p : Pos) : Pos

def Pos.beq : Pos → Pos → Bool
  | .pe, .pe => true
  | .p0 p, .p0 q => p.beq q
  | .p1 p, .p1 q => p.beq q
  | _, _ => false

def Pos.ofN : Nat → Nat → Pos
  | 0, _ => .pe
  | f + 1, n => match Nat.ble n 1 with
    | true => .pe
    | false => match Nat.beq (n % 2) 0 with
      | true => .p0 (Pos.ofN f (n / 2))
      | false => .p1 (Pos.ofN f (n / 2))

def Pos.of (n : Nat) : Pos := .p0 (Pos.ofN (n + 1) (n + 1))

inductive T (α : Type) where
  | leaf : T α
  | node (l : T α) (v : Option α) (r : T α) : T α

noncomputable def T.get {α : Type} (t : T α) : Pos → Option α :=
  T.rec (motive := fun _ => Pos → Option α) (fun _ => none) (fun _ v _ gl gr p => Pos.rec (motive := fun _ => Option α) v (fun p _ => gl p) (fun p _ => gr p) p) t

noncomputable def T.put {α : Type} (x : Option α) (p : Pos) : T α → T α :=
  Pos.rec (motive := fun _ => T α → T α)
    (fun t => T.rec (motive := fun _ => T α) (.node .leaf x .leaf) (fun l _ r _ _ => .node l x r) t)
    (fun _ ih t => T.rec (motive := fun _ => T α) (.node (ih .leaf) none .leaf) (fun l v r _ _ => .node (ih l) v r) t)
    (fun _ ih t => T.rec (motive := fun _ => T α) (.node .leaf none (ih .leaf)) (fun l v r _ _ => .node l v (ih r)) t) p

inductive V where
  | bool (b : Bool)
  | int (k : IntKind) (n : Int)
  | str (l : List Nat)
  | ptr (x : Pos) (off : Nat)
  | pnil
  | sl (x : Pos) (off len cap : Nat) (op : Bool)
  | snil
  | map (x : Pos)
  | mnil
  | fn (f : Fn) (first captured : List V)
  | fnil
  | ifc (t : TypeId) (v : V)
  | inil
  | agg (l : List V)
  | tup (l : List V)
  | sym (n : Nat)
  | yield (x : Pos)
  deriving Inhabited

def V.cells : V → List V
  | .agg l => l
  | v => [v]

/-- one cell? -/
def V.one : V → Bool
  | .agg _ | .tup _ => false
  | _ => true

def V.bool? : V → Option Bool
  | .bool b => some b
  | _ => none
def V.int? : V → Option (IntKind × Int)
  | .int k n => some (k, n)
  | _ => none
def V.str? : V → Option (List Nat)
  | .str l => some l
  | _ => none
def V.ptr? : V → Option (Pos × Nat)
  | .ptr x i => some (x, i)
  | _ => none
def V.agg? : V → Option (List V)
  | .agg l => some l
  | _ => none
def V.tup? : V → Option (List V)
  | .tup l => some l
  | _ => none
def V.map? : V → Option Pos
  | .map x => some x
  | _ => none

inductive O where
  | row (elem : TypeId) (cells : List V) (op : Bool) (grp : Option Pos) (fz : Bool)
  | map (es : List (V × V × Nat)) (clock : Nat)
  | it (m : Option Pos) (since : Nat) (seen : List Nat) (stepped : Nat)
  | sit (s : List Nat) (pos : Nat)
  | loop (busy : Bool) (tm : T V) (n : Nat) (ps : List Nat) (assign body : Code)
  | dfr

structure H where
  heap : T O
  next : Nat
  grps : T (List Pos)

abbrev undefV : V := .tup []

def scalar : Value → Option V
  | .bool b => some (.bool b)
  | .int k n => some (.int k n)
  | .string s => some (.str (s.data.toList.map (·.toNat)))
  | .pointer none => some .pnil
  | .slice none 0 0 => some .snil
  | .map none => some .mnil
  | .nilFunc => some .fnil
  | .nilIface => some .inil
  | .func (.func f) fs cs => match fs.toList, cs.toList with
    | [], [] => some (.fn (.func f) [] [])
    | _, _ => none
  | _ => none

def scalars : List Value → Option (List V)
  | [] => some []
  | v :: l => (scalar v).bind fun x => (scalars l).bind fun xs => some (x :: xs)

def ofValue : Value → Option V
  | .agg cs => (scalars cs.toList).bind fun l => some (.agg l)
  | .tuple cs => (scalars cs.toList).bind fun l => some (.tup l)
  | v => scalar v

def slot (t : Nat) : Pos := Pos.of t
def gname (g : Nat) : Pos := .p1 (Pos.ofN (g + 1) (g + 1))

def rho (tm : T V) : Operand → Option V
  | .tmp t => tm.get (slot t)
  | .const v => ofValue v
  | .global g => some (.ptr (gname g) 0)
  | .func f => some (.fn (.func f) [] [])

def rhos (tm : T V) : List Operand → Option (List V)
  | [] => some []
  | x :: l => (rho tm x).bind fun v => (rhos tm l).bind fun vs => some (v :: vs)

def rhoO (tm : T V) : Option Operand → Option (Option V)
  | none => some none
  | some x => (rho tm x).bind fun v => some (some v)

def pvals (tm : T V) : List (Nat × Operand) → Option (List (Nat × V))
  | [] => some []
  | (i, x) :: l => (rho tm x).bind fun v => (pvals tm l).bind fun vs => some ((i, v) :: vs)

/-- a new object -/
def H.new (h : H) (o : O) : H := { h with heap := h.heap.put (some o) (Pos.of h.next), next := h.next + 1 }

def H.set (h : H) (x : Pos) (o : O) : H := { h with heap := h.heap.put (some o) x }

-- types
def slT (P : Program) (t : TypeId) : Option TypeId := match P.underlying t with
  | some (.slice e) => some e
  | _ => none
def ptT (P : Program) (t : TypeId) : Option TypeId := match P.underlying t with
  | some (.pointer e) => some e
  | _ => none
def mapT (P : Program) (t : TypeId) : Option (TypeId × TypeId) := match P.underlying t with
  | some (.map k e) => some (k, e)
  | _ => none
def stT (P : Program) (t : TypeId) : Option (Array Field) := match P.underlying t with
  | some (.struct fs) => some fs
  | _ => none
def arT (P : Program) (t : TypeId) : Option (Nat × TypeId) := match P.underlying t with
  | some (.array n e) => some (n, e)
  | _ => none
def isStr (P : Program) (t : TypeId) : Bool := match P.underlying t with
  | some .string => true
  | _ => false
def isByte (P : Program) (t : TypeId) : Bool := match P.underlying t with
  | some (.int .u8) => true
  | _ => false
def isIface (P : Program) (t : TypeId) : Option Bool := match P.underlying t with
  | some (.interface _) => some true
  | some _ => some false
  | none => none

def agg? (P : Program) (t : TypeId) : Option Bool := match P.underlying t with
  | some (.struct _) => some true
  | some (.array ..) => some true
  | some _ => some false
  | none => none

def cellsOf (P : Program) (t : TypeId) : Option Nat := (P.info? t).bind fun i => some i.size

def zeroV (P : Program) (t : TypeId) : Option V := (P.info? t).bind fun i => i.zero.bind ofValue

def splice (cs : List V) (off : Nat) (vs : List V) : List V := cs.take off ++ (vs ++ cs.drop (off + vs.length))

/-- the parts of a composite: each at its place -/
def fillV (place : Nat → Option (Nat × Nat)) (cells : List V) : List (Nat × V) → Option (List V)
  | [] => some cells
  | (i, v) :: rest => (place i).bind fun p =>
    grd (Nat.beq v.cells.length p.2 && Nat.ble (p.1 + p.2) cells.length) (fillV place (splice cells p.1 v.cells) rest)

def placesOf (P : Program) : List Field → Option (List (Nat × Nat))
  | [] => some []
  | f :: l => (cellsOf P f.type).bind fun s => (placesOf P l).bind fun r => some ((f.offset, s) :: r)

def rep (cs : List V) : Nat → List V
  | 0 => []
  | n + 1 => cs ++ rep cs n

def H.row? (h : H) (x : Pos) : Option (TypeId × List V × Bool × Option Pos × Bool) := match h.heap.get x with
  | some (.row e cs op g fz) => some (e, cs, op, g, fz)
  | _ => none
def H.map? (h : H) (x : Pos) : Option (List (V × V × Nat) × Nat) := match h.heap.get x with
  | some (.map es c) => some (es, c)
  | _ => none

/-- n cells of a row from off on -/
def H.cells (h : H) (x : Pos) (off n : Nat) : Option (List V) :=
  (h.row? x).bind fun r => grd (Nat.ble (off + n) r.2.1.length) (some ((r.2.1.drop off).take n))

/-- the others of a group that reach beyond a cell are given up -/
def dropOthers (x : Pos) (frm : Nat) : List Pos → T O → T O
  | [], t => t
  | y :: l, t => match y.beq x with
    | true => dropOthers x frm l t
    | false => match t.get y with
      | some (.row _ cs _ _ _) => match Nat.ble cs.length frm with
        | true => dropOthers x frm l t
        | false => dropOthers x frm l (t.put none y)
      | _ => dropOthers x frm l t

/-- all the others of a group are given up -/
def dropAll (x : Pos) : List Pos → T O → T O
  | [], t => t
  | y :: l, t => match y.beq x with
    | true => dropAll x l t
    | false => dropAll x l (t.put none y)

def H.members (h : H) (g : Pos) : List Pos := (h.grps.get g).getD []

def dropG (h : H) (g : Option Pos) (x : Pos) (frm : Nat) (t : T O) : T O := match g with
  | none => t
  | some g => dropOthers x frm (h.members g) t

def dropA (h : H) (g : Option Pos) (x : Pos) (t : T O) : T O := match g with
  | none => t
  | some g => dropAll x (h.members g) t

/-- cells written into a row from off on -/
def H.write (h : H) (x : Pos) (off : Nat) (vs : List V) : Option H :=
  (h.row? x).bind fun r => grd (Nat.ble (off + vs.length) r.2.1.length && (vs.all V.one && !r.2.2.2.2))
    (some { h with heap := dropG h r.2.2.2.1 x off (h.heap.put (some (.row r.1 (splice r.2.1 off vs) r.2.2.1 r.2.2.2.1 false)) x) })

def strEq : List Nat → List Nat → Bool
  | [], [] => true
  | a :: l, b :: m => Nat.beq a b && strEq l m
  | _, _ => false

def intEq (a b : Int) : Bool := match a, b with
  | .ofNat a, .ofNat b => Nat.beq a b
  | .negSucc a, .negSucc b => Nat.beq a b
  | _, _ => false

/-- are two values of a type that is no struct and no array the same? -/
def eqS (P : Program) (t : TypeId) (a b : V) : Option Bool :=
  match P.underlying t, a, b with
  | some .bool, .bool a, .bool b => some (a == b)
  | some (.int _), .int j a, .int k b => grd (decide (j = k)) (some (intEq a b))
  | some .string, .str a, .str b => some (strEq a b)
  | some (.pointer _), .pnil, .pnil => some true
  | some (.pointer _), .pnil, .ptr .. => some false
  | some (.pointer _), .ptr .., .pnil => some false
  | some (.pointer e), .ptr x i, .ptr y j => (cellsOf P e).bind fun s => grd (Nat.blt 0 s && x.beq y) (some (Nat.beq i j))
  | some (.slice _), .snil, .snil => some true
  | some (.slice _), .snil, .sl .. => some false
  | some (.slice _), .sl .., .snil => some false
  | some (.map ..), .mnil, .mnil => some true
  | some (.map ..), .mnil, .map .. => some false
  | some (.map ..), .map .., .mnil => some false
  | some (.func ..), .fnil, .fnil => some true
  | some (.func ..), .fnil, .fn .. => some false
  | some (.func ..), .fn .., .fnil => some false
  | some (.interface _), .inil, .ifc .. => some false
  | some (.interface _), .ifc .., .inil => some false
  | _, _, _ => none

/-- a part of cells: a field, an element -/
def partV (P : Program) (t : TypeId) (cs : List V) (off : Nat) : Option V :=
  (agg? P t).bind fun ag => match ag with
    | true => (cellsOf P t).bind fun s => grd (Nat.ble (off + s) cs.length) (some (.agg ((cs.drop off).take s)))
    | false => cs[off]?

/-- values of a struct, field by field -/
def eqFs (P : Program) (eq : TypeId → V → V → Option Bool) (xs ys : List V) : List Field → Option Bool
  | [] => some true
  | f :: l => match decide (f.name = "_") with
    | true => eqFs P eq xs ys l
    | false => (partV P f.type xs f.offset).bind fun x => (partV P f.type ys f.offset).bind fun y =>
      (eq f.type x y).bind fun r => match r with
        | true => eqFs P eq xs ys l
        | false => some false

def eqV (P : Program) : Nat → TypeId → V → V → Option Bool
  | 0, _, _, _ => none
  | n + 1, t, a, b => match a, b with
    | .agg xs, .agg ys => (stT P t).bind fun fs => grd (!P.stoodInHeld t) (eqFs P (eqV P n) xs ys fs.toList)
    | a, b => eqS P t a b

def bytesLess : List Nat → List Nat → Bool
  | _, [] => false
  | [], _ :: _ => true
  | a :: x, b :: y => Nat.blt a b || (Nat.beq a b && bytesLess x y)

def strOp (op : BinOp) (a b : List Nat) : Option V := match op with
  | .add => grd (Nat.ble (a.length + b.length) 1000000) (some (.str (a ++ b)))
  | .eql => some (.bool (strEq a b))
  | .neq => some (.bool (!strEq a b))
  | .lss => some (.bool (bytesLess a b))
  | .leq => some (.bool (bytesLess a b || strEq a b))
  | .gtr => some (.bool (!(bytesLess a b || strEq a b)))
  | .geq => some (.bool (!bytesLess a b))
  | _ => none

def intOp (op : BinOp) (k : IntKind) (x y : Int) : Option V := match op with
  | .add => some (.int k (k.wrap (x + y)))
  | .sub => some (.int k (k.wrap (x - y)))
  | .mul => some (.int k (k.wrap (x * y)))
  | .quo => grd (!intEq y 0) (some (.int k (k.wrap (x.tdiv y))))
  | .rem => grd (!intEq y 0) (some (.int k (x.tmod y)))
  | .and => some (.int k (k.wrap (BitVec.ofInt k.bits x &&& BitVec.ofInt k.bits y).toNat))
  | .or => some (.int k (k.wrap (BitVec.ofInt k.bits x ||| BitVec.ofInt k.bits y).toNat))
  | .xor => some (.int k (k.wrap (BitVec.ofInt k.bits x ^^^ BitVec.ofInt k.bits y).toNat))
  | .andNot => some (.int k (k.wrap (BitVec.ofInt k.bits x &&& ~~~ BitVec.ofInt k.bits y).toNat))
  | .eql => some (.bool (intEq x y))
  | .neq => some (.bool (!intEq x y))
  | .lss => some (.bool (decide (x < y)))
  | .leq => some (.bool (decide (x ≤ y)))
  | .gtr => some (.bool (decide (x > y)))
  | .geq => some (.bool (decide (x ≥ y)))
  | _ => none

def shiftOp (op : BinOp) (k : IntKind) (x y : Int) : Option V := match op with
  | .shl => grd (decide (0 ≤ y)) (some (.int k (k.wrap (x * 2 ^ (min y.toNat k.bits)))))
  | .shr => grd (decide (0 ≤ y)) (some (.int k (x.fdiv (2 ^ (min y.toNat k.bits)))))
  | _ => none

def isConst : Operand → Bool
  | .const _ => true
  | _ => false

/-- same or not, by '==' -/
def sameV (P : Program) (t : TypeId) (x y : Operand) (a b : V) : Option Bool := match a, b with
  | .inil, .inil => grd (isConst x || isConst y) (grd (match isIface P t with | some r => r | none => false) (some true))
  | .agg _, .agg _ => grd (!P.eqGuardType P.depth t) (eqV P 8 t a b)
  | _, _ => eqV P 8 t a b

def binV (P : Program) (op : BinOp) (t : TypeId) (x y : Operand) (a b : V) : Option V :=
  match a, b with
  | .int j a, .int k b => match op with
    | .shl => shiftOp .shl j a b
    | .shr => shiftOp .shr j a b
    | op => grd (decide (j = k)) (intOp op j a b)
  | .str a, .str b => strOp op a b
  | a, b => match op with
    | .eql => (sameV P t x y a b).bind fun r => some (.bool r)
    | .neq => (sameV P t x y a b).bind fun r => some (.bool !r)
    | _ => none

def unV (op : UnOp) (a : V) : Option V := match op, a with
  | .neg, .int k n => some (.int k (k.wrap (0 - n)))
  | .xor, .int k n => some (.int k (k.wrap (BitVec.ofInt k.bits (if k.signed then -1 else k.max) ^^^ BitVec.ofInt k.bits n).toNat))
  | .not, .bool b => some (.bool !b)
  | _, _ => none

def loadV (P : Program) (h : H) (t : TypeId) (x : Pos) (off : Nat) : Option V :=
  (agg? P t).bind fun ag => match ag with
    | true => (cellsOf P t).bind fun s => (h.cells x off s).bind fun l => some (.agg l)
    | false => (h.row? x).bind fun r => r.2.1[off]?

def bytesV : List V → Option (List Nat)
  | [] => some []
  | .int .u8 (.ofNat n) :: l => grd (Nat.blt n 256) ((bytesV l).bind fun r => some (n :: r))
  | _ => none

def askB (v : V) (top : Nat) : Option Nat := v.int?.bind fun i => match i.2 with
  | .ofNat n => grd (Nat.ble n top) (some n)
  | .negSucc _ => none

def sliceBoundsV (len cap : Nat) (lo hi mx : Option V) : Option (Nat × Nat × Nat) :=
  (match mx with | some v => askB v cap | none => some cap).bind fun m =>
  (match hi, mx with | some v, some _ => askB v m | some v, none => askB v cap | none, none => some len | none, some _ => none).bind fun h' =>
  (match lo with | some v => askB v h' | none => some 0).bind fun l => some (l, h', m)

mutual
def V.eqb : V → V → Bool
  | .bool a, .bool b => a == b
  | .int j a, .int k b => decide (j = k) && intEq a b
  | .str a, .str b => strEq a b
  | .ptr x i, .ptr y j => x.beq y && Nat.beq i j
  | .pnil, .pnil => true
  | .sl x a b c d, .sl y a' b' c' d' => x.beq y && (Nat.beq a a' && (Nat.beq b b' && (Nat.beq c c' && (d == d'))))
  | .snil, .snil => true
  | .map x, .map y => x.beq y
  | .mnil, .mnil => true
  | .fn (.func f) a b, .fn (.func g) a' b' => Nat.beq f g && (V.eqbs a a' && V.eqbs b b')
  | .fnil, .fnil => true
  | .ifc t v, .ifc u w => Nat.beq t u && V.eqb v w
  | .inil, .inil => true
  | .agg a, .agg b => V.eqbs a b
  | .tup a, .tup b => V.eqbs a b
  | .sym a, .sym b => Nat.beq a b
  | _, _ => false
def V.eqbs : List V → List V → Bool
  | [], [] => true
  | x :: l, y :: m => V.eqb x y && V.eqbs l m
  | _, _ => false
end

def findV (P : Program) (kt : TypeId) (k : V) : List (V × V × Nat) → Nat → Option (Option (Nat × V))
  | [], _ => some none
  | e :: es, i => (eqV P 8 kt k e.1).bind fun r => match r with
    | true => some (some (i, e.2.1))
    | false => findV P kt k es (i + 1)

/-- a key whose type is a number, a text or a struct of such -/
def keyOk (P : Program) : Nat → TypeId → V → Bool
  | 0, _, _ => false
  | n + 1, t, k => match P.underlying t with
    | some (.int _) => true
    | some .string => true
    | some .bool => true
    | some (.struct fs) => match k with
      | .agg cs => fs.toList.all fun f => decide (f.name = "_") || (match partV P f.type cs f.offset with
        | some x => keyOk P n f.type x
        | none => false)
      | _ => false
    | _ => false

def esOf (h : H) (m : V) : Option (List (V × V × Nat)) := match m with
  | .mnil => some []
  | .map x => (h.map? x).bind fun e => some e.1
  | _ => none

def lookupV (P : Program) (h : H) (t : TypeId) (m k : V) (ok : Bool) : Option V :=
  (mapT P t).bind fun ke => grd (keyOk P 8 ke.1 k) <| (esOf h m).bind fun es => (findV P ke.1 k es 0).bind fun r => match r with
    | some (_, v) => some (match ok with | true => .tup [v, .bool true] | false => v)
    | none => (zeroV P ke.2).bind fun v => some (match ok with | true => .tup [v, .bool false] | false => v)

def setNth : List (V × V × Nat) → Nat → V → V → List (V × V × Nat)
  | [], _, _, _ => []
  | e :: l, 0, k, v => (k, v, e.2.2) :: l
  | e :: l, i + 1, k, v => e :: setNth l i k v

def updateV (P : Program) (h : H) (t : TypeId) (m k v : V) : Option H :=
  (mapT P t).bind fun ke => grd (keyOk P 8 ke.1 k) <| m.map?.bind fun x => (h.map? x).bind fun e => (findV P ke.1 k e.1 0).bind fun r => match r with
    | some (i, _) => (e.1[i]?).bind fun old => grd (V.eqb old.1 k) (some (h.set x (.map (setNth e.1 i k v) e.2)))
    | none => some (h.set x (.map (e.1 ++ [(k, v, e.2)]) (e.2 + 1)))

def byteCellsV (l : List Nat) : List V := l.map fun b => .int .u8 (Int.ofNat b)

/-- what an append puts behind: the cells, and how many elements -/
def srcV (P : Program) (h : H) (xT : TypeId) (size : Nat) (x : V) : Option (List V × Nat) := match x with
  | .snil => (slT P xT).bind fun _ => some ([], 0)
  | .str l => grd (isStr P xT && Nat.beq size 1) (some (byteCellsV l, l.length))
  | .sl y off len _ _ => (slT P xT).bind fun _ => (h.cells y off (len * size)).bind fun cs => some (cs, len)
  | _ => none

def gOf (z : Pos) : Option Pos → Pos
  | some g => g
  | none => z

def lOf (h : H) (y z : Pos) : Option Pos → List Pos
  | some g => h.members g
  | none => y :: h.members z

/-- a new row behind an append to a row that may have room: both are of one group -/
def shareV (h : H) (y : Pos) (off tip : Nat) (e : TypeId) (cs : List V) : Option H :=
  (h.row? y).bind fun r => grd (Nat.beq r.1 e && !r.2.2.2.2) <|
    let z := Pos.of h.next
    let g := gOf z r.2.2.2.1
    let l := lOf h y z r.2.2.2.1
    let t := (h.heap.put (some (.row r.1 r.2.1 r.2.2.1 (some g) false)) y).put (some (.row e cs true (some g) false)) z
    some { heap := match Nat.beq off 0 with | true => dropOthers z tip l t | false => dropAll z l t, next := h.next + 1, grps := h.grps.put (some (z :: l)) g }

def appendV (P : Program) (h : H) (sT xT : TypeId) (s x : V) : Option (V × H) :=
  (slT P sT).bind fun e => (P.info? e).bind fun info => grd (Nat.blt 0 info.size && (match info.zero with | some z => Nat.beq z.cells.size info.size | none => false)) <|
  (srcV P h xT info.size x).bind fun src => match s with
    | .snil => match Nat.beq src.2 0 with
      | true => some (.snil, h)
      | false => grd (Nat.ble (src.2 * info.bytes) 100000000 && Nat.ble src.2 100000000) (some (.sl (Pos.of h.next) 0 src.2 src.2 true, h.new (.row e src.1 true none false)))
    | .sl y off len cap op => match Nat.ble (len + src.2) cap with
      | true => (h.write y (off + len * info.size) src.1).bind fun h => some (.sl y off (len + src.2) cap op, h)
      | false => grd (Nat.ble ((len + src.2) * info.bytes) 100000000 && Nat.ble (len + src.2) 100000000) <| (h.cells y off (len * info.size)).bind fun old => match op with
        | false => some (.sl (Pos.of h.next) 0 (len + src.2) (len + src.2) true, h.new (.row e (old ++ src.1) true none false))
        | true => grd (Nat.ble len cap && src.1.all V.one) <| (shareV h y off (len * info.size) e (old ++ src.1)).bind fun h' => some (.sl (Pos.of h.next) 0 (len + src.2) (len + src.2) true, h')
    | _ => none

def convV (P : Program) (h : H) (s d : TypeId) (v : V) : Option (V × H) := match P.underlying s, P.underlying d, v with
  | some _, some (.int k), .int _ n => some (.int k (k.wrap n), h)
  | some _, some .string, .str l => some (.str l, h)
  | some _, some .string, .int _ (.ofNat n) => grd (Nat.blt n 128) (some (.str [n], h))
  | some _, some (.slice e), .str l => (cellsOf P e).bind fun s => grd (isByte P e && Nat.beq s 1) (some (.sl (Pos.of h.next) 0 l.length l.length true, h.new (.row e (byteCellsV l) true none false)))
  | some (.slice e), some .string, .snil => grd (isByte P e) (some (.str [], h))
  | some (.slice e), some .string, .sl x off len _ _ => grd (isByte P e) <| (h.cells x off len).bind fun cs => (bytesV cs).bind fun l => some (.str l, h)
  | some (.pointer t), some .unsafePointer, .ptr x off => (cellsOf P t).bind fun n => grd (Nat.blt 0 n) <| (h.cells x off 1).bind fun _ => some (.ptr x off, h)
  | some .unsafePointer, some (.pointer t), .ptr x off => (cellsOf P t).bind fun n => grd (Nat.blt 0 n) <| (h.row? x).bind fun r =>
      grd (!r.2.2.1 && liesAt P P.depth r.1 (r.2.1.length / P.cellsOf r.1) off t 1) (some (.ptr x off, h))
  | _, _, _ => none

def sliceV (P : Program) (h : H) (t : TypeId) (x : V) (lo hi mx : Option V) : Option V := match P.underlying t, x with
  | some .string, .str s => match mx with
    | some _ => none
    | none => (sliceBoundsV s.length s.length lo hi none).bind fun b => some (.str ((s.drop b.1).take (b.2.1 - b.1)))
  | some (.slice e), .snil => (cellsOf P e).bind fun _ => (sliceBoundsV 0 0 lo hi mx).bind fun _ => some .snil
  | some (.slice e), .sl x off len cap op => (cellsOf P e).bind fun size => (sliceBoundsV len cap lo hi mx).bind fun b => match Nat.beq b.2.2 b.1 with
      | true => match op with
        | false => some (.sl x off (b.2.1 - b.1) 0 false)
        | true => match mx with
          | some _ => some (.sl x off (b.2.1 - b.1) 0 false)
          | none => none
      | false => match op with
        | false => some (.sl x (off + b.1 * size) (b.2.1 - b.1) (b.2.2 - b.1) false)
        | true => match mx with
          | some _ => some (.sl x (off + b.1 * size) (b.2.1 - b.1) (b.2.2 - b.1) false)
          | none => (h.row? x).bind fun r => (cellsOf P r.1).bind fun s => grd (Nat.beq s size && Nat.ble b.1 b.2.2) (some (.sl x (off + b.1 * size) (b.2.1 - b.1) (b.2.2 - b.1) true))
  | some (.array n e), .ptr x off => (cellsOf P e).bind fun size => (sliceBoundsV n n lo hi mx).bind fun b =>
      some (.sl x (match Nat.beq b.2.2 b.1 with | true => off | false => off + b.1 * size) (b.2.1 - b.1) (b.2.2 - b.1) false)
  | _, _ => none

def natI (v : V) : Option Nat := v.int?.bind fun i => match i.2 with
  | .ofNat n => some n
  | .negSucc _ => none

def indexAddrV (P : Program) (t : TypeId) (x : V) (i : Nat) : Option V := match P.underlying t, x with
  | some (.array n e), .ptr x off => (cellsOf P e).bind fun size => grd (Nat.blt i n) (some (.ptr x (off + i * size)))
  | some (.slice e), .sl x off len _ _ => (cellsOf P e).bind fun size => grd (Nat.blt i len) (some (.ptr x (off + i * size)))
  | _, _ => none

def indexV (P : Program) (t : TypeId) (x : V) (i : Nat) : Option V := match P.underlying t, x with
  | some .string, .str s => s[i]?.bind fun b => some (.int .u8 (Int.ofNat b))
  | some (.array n e), .agg cs => (cellsOf P e).bind fun size => grd (Nat.blt i n) (partV P e cs (i * size))
  | _, _ => none

def rangeV (P : Program) (h : H) (t : TypeId) (x : V) : Option H := match P.underlying t, x with
  | some .string, .str s => some (h.new (.sit s 0))
  | some (.map ..), .mnil => some (h.new (.it none 0 [] 0))
  | some (.map ..), .map m => (h.map? m).bind fun e => some (h.new (.it (some m) e.2 [] e.2))
  | _, _ => none

def H.it? (h : H) (x : Pos) : Option (Option Pos × Nat × List Nat × Nat) := match h.heap.get x with
  | some (.it m a b c) => some (m, a, b, c)
  | _ => none
def H.sit? (h : H) (x : Pos) : Option (List Nat × Nat) := match h.heap.get x with
  | some (.sit s p) => some (s, p)
  | _ => none

def nextS (h : H) (x : Pos) : Option (V × H) := (h.sit? x).bind fun s => match Nat.blt s.2 s.1.length with
  | false => some (.tup [.bool false], h)
  | true => s.1[s.2]?.bind fun b => grd (Nat.blt b 128) (some (.tup [.bool true, .int .i64 (Int.ofNat s.2), .int .i32 (Int.ofNat b)], h.set x (.sit s.1 (s.2 + 1))))

def findE (stamp : Nat) : List (V × V × Nat) → Option (V × V × Nat)
  | [] => none
  | e :: l => match Nat.beq e.2.2 stamp with
    | true => some e
    | false => findE stamp l

def entryV (h : H) (x : Pos) : Option V := (h.it? x).bind fun it => it.1.bind fun m => it.2.2.1.getLast?.bind fun stamp =>
  (h.map? m).bind fun e => grd (Nat.beq e.2 it.2.2.2) <| (findE stamp e.1).bind fun e => some (.tup [e.1, e.2.1])

def assertV (P : Program) (t : TypeId) (ok : Bool) (x : V) : Option V := match isIface P t, x with
  | some false, .inil => match ok with
    | true => (zeroV P t).bind fun z => some (.tup [z, .bool false])
    | false => none
  | some false, .ifc u v => match Nat.beq u t with
    | true => some (match ok with | true => .tup [v, .bool true] | false => v)
    | false => match ok with
      | true => (zeroV P t).bind fun z => some (.tup [z, .bool false])
      | false => none
  | _, _ => none

def lenV (P : Program) (h : H) (t : TypeId) (x : V) : Option Nat := match P.underlying t, x with
  | some .string, .str s => some s.length
  | some (.array n _), _ => some n
  | some (.slice _), .sl _ _ n _ _ => some n
  | some (.slice _), .snil => some 0
  | some (.map ..), .mnil => some 0
  | some (.map ..), .map x => (h.map? x).bind fun e => some e.1.length
  | some (.pointer a), _ => (arT P a).bind fun n => some n.1
  | _, _ => none

def capV (P : Program) (t : TypeId) (x : V) : Option Nat := match P.underlying t, x with
  | some (.slice _), .sl _ _ _ n false => some n
  | some (.slice _), .snil => some 0
  | _, _ => none

/-- how many elements there are to copy from, and the cells of n of them -/
def copySrc (h : H) (size n : Nat) : V → Option (List V)
  | .snil => some []
  | .str l => grd (Nat.beq size 1) (some (byteCellsV (l.take n)))
  | .sl y off _ _ _ => h.cells y off (n * size)
  | _ => none

def lenSrc : V → Option Nat
  | .snil => some 0
  | .str l => some l.length
  | .sl _ _ len _ _ => some len
  | _ => none

def copyV (P : Program) (h : H) (t : TypeId) (d s : V) : Option (V × H) := (slT P t).bind fun e => (cellsOf P e).bind fun size => (lenSrc s).bind fun n => match d with
  | .snil => some (.int .i64 0, h)
  | .sl x off len _ _ => (copySrc h size (Nat.min n len) s).bind fun cs => (h.write x off cs).bind fun h => some (.int .i64 (Int.ofNat (Nat.min n len)), h)
  | _ => none

def eraseNth : List (V × V × Nat) → Nat → List (V × V × Nat)
  | [], _ => []
  | _ :: l, 0 => l
  | e :: l, i + 1 => e :: eraseNth l i

def deleteV (P : Program) (h : H) (t : TypeId) (m k : V) : Option H := (mapT P t).bind fun ke => grd (keyOk P 8 ke.1 k) <| match m with
  | .mnil => some h
  | .map x => (h.map? x).bind fun e => (findV P ke.1 k e.1 0).bind fun r => match r with
    | some (i, _) => some (h.set x (.map (eraseNth e.1 i) e.2))
    | none => some (h.set x (.map e.1 e.2))
  | _ => none

def textV (P : Program) (h : H) (pt : TypeId) (p : V) (n : Nat) : Option (V × H) := match p with
  | .pnil => grd (Nat.beq n 0) (some (.str [], h))
  | .ptr x off => (ptT P pt).bind fun u => (h.row? x).bind fun r => grd (isByte P u && isByte P r.1 && Nat.blt 0 n && Nat.beq (P.cellsOf r.1) 1) <| (h.cells x off n).bind fun cs => (bytesV cs).bind fun l =>
      some (.str l, { h with heap := dropA h r.2.2.2.1 x (h.heap.put (some (.row r.1 r.2.1 r.2.2.1 r.2.2.2.1 true)) x) })
  | _ => none

def minV (a b : V) : Option V := match a, b with
  | .int k x, .int _ y => some (.int k (if y < x then y else x))
  | _, _ => none
def maxV (a b : V) : Option V := match a, b with
  | .int k x, .int _ y => some (.int k (if y > x then y else x))
  | _, _ => none

def sliceDataV (h : H) : V → Option (V × H)
  | .snil => some (.pnil, h)
  | .sl x off _ c _ => grd (Nat.blt 0 c) (some (.ptr x off, h))
  | _ => none

def builtinV (P : Program) (h : H) (b : Builtin) (ts : List TypeId) (args : List V) : Option (V × H) := match b, ts, args with
  | .append, sT :: xT :: _, [s, x] => appendV P h sT xT s x
  | .len, t :: _, [x] => (lenV P h t x).bind fun n => some (.int .i64 (Int.ofNat n), h)
  | .cap, t :: _, [x] => (capV P t x).bind fun n => some (.int .i64 (Int.ofNat n), h)
  | .copy, t :: _, [d, s] => copyV P h t d s
  | .delete, t :: _, [m, k] => (deleteV P h t m k).bind fun h => some (undefV, h)
  | .min, _, [a, b] => (minV a b).bind fun v => some (v, h)
  | .max, _, [a, b] => (maxV a b).bind fun v => some (v, h)
  | .unsafeSliceData, _, [x] => sliceDataV h x
  | .unsafeString, pt :: _, [p, n] => (natI n).bind fun n => grd (Nat.ble n 100000000) (textV P h pt p n)
  | _, _, _ => none

def evMove (tm : T V) (h : H) (x : Operand) : Option (V × H) := (rho tm x).bind fun v => some (v, h)
def evPick (tm : T V) (h : H) (c a b : Operand) : Option (V × H) := (rho tm c).bind fun c => c.bool?.bind fun c => match c with
  | true => (rho tm a).bind fun v => some (v, h)
  | false => (rho tm b).bind fun v => some (v, h)
def evAlloc (P : Program) (h : H) (t : TypeId) : Option (V × H) := (zeroV P t).bind fun z => some (.ptr (Pos.of h.next) 0, h.new (.row t z.cells false none false))
def evBox (P : Program) (tm : T V) (h : H) (t : TypeId) (x : Operand) : Option (V × H) := (rho tm x).bind fun v => (cellsOf P t).bind fun _ => some (.ptr (Pos.of h.next) 0, h.new (.row t v.cells false none false))
def evBuild (P : Program) (tm : T V) (h : H) (t : TypeId) (parts : Array (Nat × Operand)) : Option (V × H) := (zeroV P t).bind fun z => (pvals tm parts.toList).bind fun ps => match P.underlying t with
    | some (.struct fs) => (placesOf P fs.toList).bind fun pl => (fillV (fun i => pl[i]?) z.cells ps).bind fun cs => some (.agg cs, h)
    | some (.array _ e) => (cellsOf P e).bind fun size => (fillV (fun i => some (i * size, size)) z.cells ps).bind fun cs => some (.agg cs, h)
    | _ => none
def evBuildSlice (P : Program) (tm : T V) (h : H) (t : TypeId) (len : Nat) (parts : Array (Nat × Operand)) : Option (V × H) := (slT P t).bind fun e => (pvals tm parts.toList).bind fun ps => (cellsOf P e).bind fun size => (zeroV P e).bind fun z =>
      grd (Nat.ble (len * size) 10000 && Nat.beq z.cells.length size) <| (fillV (fun i => some (i * size, size)) (rep z.cells len) ps).bind fun cs =>
        some (.sl (Pos.of h.next) 0 len len false, h.new (.row e cs false none false))
def evLoad (P : Program) (tm : T V) (h : H) (t : TypeId) (a : Operand) : Option (V × H) := (rho tm a).bind fun a => a.ptr?.bind fun p => (loadV P h t p.1 p.2).bind fun v => some (v, h)
def evStore (P : Program) (tm : T V) (h : H) (t : TypeId) (a v : Operand) : Option (V × H) := (rho tm a).bind fun a => a.ptr?.bind fun p => (rho tm v).bind fun v => (cellsOf P t).bind fun s =>
      grd (Nat.beq v.cells.length s) <| (h.write p.1 p.2 v.cells).bind fun h => some (undefV, h)
def evNil (tm : T V) (h : H) (x : Operand) : Option (V × H) := (rho tm x).bind fun v => match v with
    | .ptr x off => some (.ptr x off, h)
    | .fn (.func f) a b => some (.fn (.func f) a b, h)
    | .ifc t v => some (.ifc t v, h)
    | _ => none
def evBin (P : Program) (tm : T V) (h : H) (op : BinOp) (t : TypeId) (x y : Operand) : Option (V × H) := (rho tm x).bind fun a => (rho tm y).bind fun b => (binV P op t x y a b).bind fun v => some (v, h)
def evUn (tm : T V) (h : H) (op : UnOp) (x : Operand) : Option (V × H) := (rho tm x).bind fun a => (unV op a).bind fun v => some (v, h)
def evConv (P : Program) (tm : T V) (h : H) (s d : TypeId) (x : Operand) : Option (V × H) := (rho tm x).bind fun v => convV P h s d v
def evMkI (P : Program) (tm : T V) (h : H) (t : TypeId) (x : Operand) : Option (V × H) := (isIface P t).bind fun i => grd (!i) <| (rho tm x).bind fun v => some (.ifc t v, h)
def evMkF (tm : T V) (h : H) (fn : Fn) (first cap : Array Operand) : Option (V × H) := (rhos tm first.toList).bind fun a => (rhos tm cap.toList).bind fun b => some (.fn fn a b, h)
def evMkMap (P : Program) (tm : T V) (h : H) (t : TypeId) (r : Option Operand) : Option (V × H) := (rhoO tm r).bind fun r => match r with
    | none => some (.map (Pos.of h.next), h.new (.map [] 0))
    | some v => v.int?.bind fun _ => (mapT P t).bind fun _ => some (.map (Pos.of h.next), h.new (.map [] 0))
def evMkSlice (P : Program) (tm : T V) (h : H) (t : TypeId) (l c : Operand) : Option (V × H) := (slT P t).bind fun e => (rho tm l).bind fun l => (natI l).bind fun l => (rho tm c).bind fun c => (natI c).bind fun c => (P.info? e).bind fun info => (zeroV P e).bind fun z =>
      grd (Nat.ble l c && Nat.ble c 1000000 && Nat.ble (info.bytes * c) 100000000 && Nat.beq z.cells.length info.size && Nat.blt 0 info.size)
        (some (.sl (Pos.of h.next) 0 l c false, h.new (.row e (rep z.cells c) false none false)))
def evSlice (P : Program) (tm : T V) (h : H) (t : TypeId) (x : Operand) (lo hi mx : Option Operand) : Option (V × H) := (rho tm x).bind fun x => (rhoO tm lo).bind fun lo => (rhoO tm hi).bind fun hi => (rhoO tm mx).bind fun mx => (sliceV P h t x lo hi mx).bind fun v => some (v, h)
def evFieldAddr (P : Program) (tm : T V) (h : H) (t : TypeId) (x : Operand) (f : Nat) : Option (V × H) := (stT P t).bind fun fs => (rho tm x).bind fun x => x.ptr?.bind fun p => fs[f]?.bind fun fd => (cellsOf P fd.type).bind fun s =>
      grd (Nat.blt 0 s) (some (.ptr p.1 (p.2 + fd.offset), h))
def evField (P : Program) (tm : T V) (h : H) (t : TypeId) (x : Operand) (f : Nat) : Option (V × H) := (stT P t).bind fun fs => (rho tm x).bind fun x => x.agg?.bind fun cs => fs[f]?.bind fun fd => (partV P fd.type cs fd.offset).bind fun v => some (v, h)
def evIndexAddr (P : Program) (tm : T V) (h : H) (t : TypeId) (x i : Operand) : Option (V × H) := (rho tm x).bind fun x => (rho tm i).bind fun i => (natI i).bind fun i => (indexAddrV P t x i).bind fun v => some (v, h)
def evIndex (P : Program) (tm : T V) (h : H) (t : TypeId) (x i : Operand) : Option (V × H) := (rho tm x).bind fun x => (rho tm i).bind fun i => (natI i).bind fun i => (indexV P t x i).bind fun v => some (v, h)
def evLookup (P : Program) (tm : T V) (h : H) (t : TypeId) (x i : Operand) (ok : Bool) : Option (V × H) := (rho tm x).bind fun m => (rho tm i).bind fun k => (lookupV P h t m k ok).bind fun v => some (v, h)
def evUpd (P : Program) (tm : T V) (h : H) (t : TypeId) (m k v : Operand) : Option (V × H) := (rho tm m).bind fun m => (rho tm k).bind fun k => (rho tm v).bind fun v => (updateV P h t m k v).bind fun h => some (undefV, h)
def evRange (P : Program) (tm : T V) (h : H) (t : TypeId) (x : Operand) : Option (V × H) := (rho tm x).bind fun x => (rangeV P h t x).bind fun h' => some (.ptr (Pos.of h.next) 0, h')
def evNextS (tm : T V) (h : H) (x : Operand) : Option (V × H) := (rho tm x).bind fun x => x.ptr?.bind fun p => grd (Nat.beq p.2 0) (nextS h p.1)
def evEntry (tm : T V) (h : H) (x : Operand) : Option (V × H) := (rho tm x).bind fun x => x.ptr?.bind fun p => grd (Nat.beq p.2 0) <| (entryV h p.1).bind fun v => some (v, h)
def evAssert (P : Program) (tm : T V) (h : H) (x : Operand) (t : TypeId) (ok : Bool) : Option (V × H) := (rho tm x).bind fun x => (assertV P t ok x).bind fun v => some (v, h)
def evExtract (tm : T V) (h : H) (x : Operand) (i : Nat) : Option (V × H) := (rho tm x).bind fun x => x.tup?.bind fun vs => vs[i]?.bind fun v => some (v, h)
def evBuiltin (P : Program) (tm : T V) (h : H) (c : Call) : Option (V × H) := match c.callee with
    | .builtin b => (rhos tm c.args.toList).bind fun args => builtinV P h b c.argTypes.toList args
    | _ => none

/-- the operations that neither call nor choose -/
def evOp (P : Program) (tm : T V) (h : H) (op : Op) : Option (V × H) :=
  match op with
  | .move x => evMove tm h x
  | .assign x => evMove tm h x
  | .pick c a b => evPick tm h c a b
  | .alloc t => evAlloc P h t
  | .box t x => evBox P tm h t x
  | .build t parts => evBuild P tm h t parts
  | .buildSlice t len parts => evBuildSlice P tm h t len parts
  | .load t a => evLoad P tm h t a
  | .store t a v => evStore P tm h t a v
  | .nilCheck x => evNil tm h x
  | .binOp op t x y _ => evBin P tm h op t x y
  | .unOp op _ x => evUn tm h op x
  | .convert s d x => evConv P tm h s d x
  | .makeInterface t x => evMkI P tm h t x
  | .makeFunc fn first cap => evMkF tm h fn first cap
  | .makeMap t r => evMkMap P tm h t r
  | .makeSlice t l c => evMkSlice P tm h t l c
  | .slice t x lo hi mx => evSlice P tm h t x lo hi mx
  | .fieldAddr t x f => evFieldAddr P tm h t x f
  | .field t x f => evField P tm h t x f
  | .indexAddr t x i => evIndexAddr P tm h t x i
  | .index t x i => evIndex P tm h t x i
  | .lookup t x i ok => evLookup P tm h t x i ok
  | .mapUpdate t m k v => evUpd P tm h t m k v
  | .insert t m k v => evUpd P tm h t m k v
  | .range t x => evRange P tm h t x
  | .next x true => evNextS tm h x
  | .entry x => evEntry tm h x
  | .typeAssert x _ t ok => evAssert P tm h x t ok
  | .extract x i => evExtract tm h x i
  | .call c => evBuiltin P tm h c
  | _ => none

def memN (n : Nat) : List Nat → Bool
  | [] => false
  | m :: l => Nat.beq m n || memN n l

/-- the candidates of a map's iterator -/
def nextV (h : H) (x : Pos) : Option (List (V × H)) :=
  (h.it? x).bind fun it => match it.1 with
    | none => some [(.tup [.bool false], h)]
    | some m => (h.map? m).bind fun e =>
      grd (!(!it.2.2.1.isEmpty && (!e.1.isEmpty && e.1.all (fun e => Nat.ble it.2.2.2 e.2.2)))) <|
        let left := e.1.filter fun e => !memN e.2.2 it.2.2.1
        let old := left.filter fun e => Nat.blt e.2.2 it.2.1
        let new := left.filter fun e => !Nat.blt e.2.2 it.2.1
        some ((match old.isEmpty with | true => [(.tup [.bool false], h)] | false => []) ++
          (old ++ new).map fun f => (.tup [.bool true, f.1, f.2.1], h.set x (.it (some m) it.2.1 (it.2.2.1 ++ [f.2.2]) e.2)))

def ents : List (V × V × Nat) → List (V × V × Nat) → Bool
  | [], [] => true
  | a :: l, b :: m => V.eqb a.1 b.1 && (V.eqb a.2.1 b.2.1 && (Nat.beq a.2.2 b.2.2 && ents l m))
  | _, _ => false

def oposeq : Option Pos → Option Pos → Bool
  | none, none => true
  | some x, some y => x.beq y
  | _, _ => false

def O.eqb : O → O → Bool
  | .row e c o g z, .row e' c' o' g' z' => Nat.beq e e' && (V.eqbs c c' && ((o == o') && (oposeq g g' && (z == z'))))
  | .map es c, .map es' c' => ents es es' && Nat.beq c c'
  | .it m a b c, .it m' a' b' c' => oposeq m m' && (Nat.beq a a' && (strEq b b' && Nat.beq c c'))
  | .sit s p, .sit s' p' => strEq s s' && Nat.beq p p'
  | _, _ => false

def meetO : Option O → Option O → Option O
  | some a, some b => match O.eqb a b with
    | true => some a
    | false => none
  | _, _ => none

def meetT : T O → T O → T O
  | .node l v r, .node l' v' r' => .node (meetT l l') (meetO v v') (meetT r r')
  | _, _ => .leaf

def catG : Option (List Pos) → Option (List Pos) → Option (List Pos)
  | some a, some b => some (a ++ b)
  | none, b => b
  | a, none => a

def joinG : T (List Pos) → T (List Pos) → T (List Pos)
  | .node l v r, .node l' v' r' => .node (joinG l l') (catG v v') (joinG r r')
  | .leaf, t => t
  | t, .leaf => t

def meetH (a b : H) : H := { heap := meetT a.heap b.heap, next := Nat.max a.next b.next, grps := joinG a.grps b.grps }

/-- outcomes with one value are one -/
def merge : List (V × H) → List (V × H)
  | [] => []
  | p :: l => match merge l with
    | [] => [p]
    | q :: r => match V.eqb p.1 q.1 with
      | true => (p.1, meetH p.2 q.2) :: r
      | false => p :: q :: r

inductive Ex where
  | normal
  | exit (id : Nat)
  | ret

inductive Dfr where
  | call (f : FuncId) (l : List V)
  | mark (x : Pos)

structure S where
  tmps : T V
  n : Nat
  h : H
  defs : List Dfr
  rnd : Bool

abbrev CallF := FuncId → List V → H → Option (List (V × H))

structure Env where
  call : CallF
  go : CallF
  yld : Pos → List V → H → Option (List (V × H))

def setT (n : Nat) (tm : T V) (d : Option Tmp) (v : V) : Option (T V) := match d with
  | none => some tm
  | some d => grd (Nat.blt d n) (some (tm.put (some v) (slot d)))

/-- a new heap, and a place -/
def S.upd (s : S) (h : H) (d : Option Tmp) (v : V) : Option S := match s with
  | ⟨tm, n, _, ds, r⟩ => (setT n tm d v).bind fun tm => some ⟨tm, n, h, ds, r⟩

def S.setH (s : S) (h : H) : S := match s with
  | ⟨tm, n, _, ds, r⟩ => ⟨tm, n, h, ds, r⟩

/-- the method behind an interface value -/
def methodV (P : Program) (t : TypeId) (v : V) (name : String) : Option (FuncId × V) :=
  (P.info? t).bind fun info => (info.methods.find? (·.name == name)).bind fun m => match m.path.toList, m.func, P.underlying t with
    | [], some (f, true), some (.pointer _) => some (f, v)
    | [], some (_, false), some (.pointer _) => none
    | [], some (f, false), some _ => some (f, v)
    | _, _, _ => none

/-- the function and the arguments of a call -/
def target (P : Program) (tm : T V) (c : Call) : Option (FuncId × List V) :=
  match c.callee with
  | .value f => (rho tm f).bind fun v => (rhos tm c.args.toList).bind fun args => match v with
    | .fn (.func f) first cap => some (f, first ++ (args ++ cap))
    | _ => none
  | .invoke x name => (rho tm x).bind fun v => (rhos tm c.args.toList).bind fun args => match v with
    | .ifc t v => (methodV P t v name).bind fun r => some (r.1, r.2 :: args)
    | _ => none
  | .builtin _ => none

def wantedV (ops : List Oper) (tm : T V) (o : Oper) : Option Bool :=
  match o.guard with
  | none => some true
  | some (j, want) => match ops[j]? with
    | some p => match p.dst with
      | some d => (tm.get (slot d)).bind fun v => match v with
        | .bool b => some (b == want)
        | .tup [] => some false
        | _ => none
      | none => some false
    | none => some false

def putAll (s : S) (d : Option Tmp) : List (V × H) → Option (List S)
  | [] => some []
  | p :: l => (s.upd p.2 d p.1).bind fun s' => (putAll s d l).bind fun r => some (s' :: r)

def sing (o : Option S) : Option (List S) := o.bind fun s => some [s]

def evNext (s : S) (d : Option Tmp) (x : Operand) : Option (List S) := (rho s.tmps x).bind fun x => x.ptr?.bind fun p => grd (Nat.beq p.2 0) <| (nextV s.h p.1).bind fun l => putAll s d l

def pushD (s : S) (d : Option Tmp) (x : Dfr) : Option S := match s with
  | ⟨tm, n, h, ds, false⟩ => (setT n tm d undefV).bind fun tm => some ⟨tm, n, h, x :: ds, false⟩
  | _ => none

def evDefer (P : Program) (s : S) (d : Option Tmp) (c : Call) : Option (List S) := match c.callee with
  | .value _ => (target P s.tmps c).bind fun t => sing (pushD s d (.call t.1 t.2))
  | _ => none

/-- the round that a call of yield makes -/
def yieldT (tm : T V) (c : Call) : Option (Pos × List V) := match c.callee with
  | .value f => (rho tm f).bind fun v => match v with
    | .yield x => (rhos tm c.args.toList).bind fun args => some (x, args)
    | _ => none
  | _ => none

def evPlain (P : Program) (s : S) (o : Oper) : Option (List S) := (evOp P s.tmps s.h o.op).bind fun r => sing (s.upd r.2 o.dst r.1)

def evCall (P : Program) (env : Env) (s : S) (o : Oper) (c : Call) : Option (List S) := match c.callee with
  | .builtin _ => evPlain P s o
  | _ => match yieldT s.tmps c with
    | some t => (env.yld t.1 t.2 s.h).bind fun l => putAll s o.dst l
    | none => (target P s.tmps c).bind fun t => (env.call t.1 t.2 s.h).bind fun l => putAll s o.dst l

def evWant (P : Program) (env : Env) (s : S) (o : Oper) : Option (List S) := match o.op with
  | .next x b => match b with
    | false => evNext s o.dst x
    | true => evPlain P s o
  | .defer c => evDefer P s o.dst c
  | .call c => evCall P env s o c
  | _ => evPlain P s o

/-- one operation -/
def evOne (P : Program) (env : Env) (ops : List Oper) (s : S) (o : Oper) : Option (List S) :=
  (wantedV ops s.tmps o).bind fun wt => match wt with
  | false => sing (s.upd s.h o.dst undefV)
  | true => evWant P env s o

def bindL {α β : Type} (f : α → Option (List β)) : List α → Option (List β)
  | [] => some []
  | x :: l => (f x).bind fun a => match l with
    | [] => some a
    | _ => (bindL f l).bind fun b => some (a ++ b)

def evOps (P : Program) (env : Env) (all : List Oper) : List Oper → S → Option (List S)
  | [], s => some [s]
  | o :: l, s => (evOne P env all s o).bind fun ss => bindL (evOps P env all l) ss

-- a region whose order is open

/-- the masks of what must come before -/
def orAll (acc : List Nat) : List Edge → Nat
  | [] => 0
  | e :: es => match Region.binds .any e with
    | true => Nat.lor (Nat.lor (Nat.shiftLeft 1 e.on) ((acc[e.on]?).getD 0)) (orAll acc es)
    | false => orAll acc es

def masksFrom (acc : List Nat) : List Oper → List Nat
  | [] => acc
  | o :: l => masksFrom (acc ++ [orAll acc o.after.toList]) l

def masks (ops : List Oper) : List Nat := masksFrom [] ops

def bit (m i : Nat) : Bool := Nat.beq (Nat.land 1 (Nat.shiftRight m i)) 1

def tmpsOf : List Operand → List Nat
  | [] => []
  | .tmp t :: l => t :: tmpsOf l
  | _ :: l => tmpsOf l

def named (ops : List Oper) (o : Oper) : List Nat :=
  tmpsOf o.op.operands.toList ++ (match o.guard with
    | some (g, _) => match ops[g]? with
      | some p => match p.dst with
        | some d => [d]
        | none => []
      | none => []
    | none => [])

def notDst (d : Nat) : List Oper → Bool
  | [] => true
  | o :: l => (match o.dst with | some c => !Nat.beq c d | none => true) && notDst d l

/-- of each place at most one writes -/
def uniq : List Oper → Bool
  | [] => true
  | o :: l => (match o.dst with | some d => notDst d l | none => true) && uniq l

/-- an operation that names t is ordered with each that writes t -/
def ordT (i bm : Nat) (t : Nat) : Nat → List Oper → List Nat → Bool
  | k, o :: os, b :: bs => (match o.dst with
      | some d => match Nat.beq d t with
        | true => Nat.beq k i || (bit bm k || bit b i)
        | false => true
      | none => true) && ordT i bm t (k + 1) os bs
  | _, _, _ => true

def tmpsOkFrom (ops : List Oper) (bms : List Nat) : Nat → List Oper → List Nat → Bool
  | i, o :: os, b :: bs => (named ops o).all (fun t => ordT i b t 0 ops bms) && tmpsOkFrom ops bms (i + 1) os bs
  | _, _, _ => true

def tmpsOk (ops : List Oper) : Bool := uniq ops && tmpsOkFrom ops (masks ops) 0 ops (masks ops)

def isWriter (o : Oper) : Bool := match o.op with
  | .store .. | .mapUpdate .. | .insert .. | .mapEntry .. | .entryStore .. | .next .. | .range .. | .defer _ | .go _ => true
  | .call c => match c.callee with
    | .builtin b => match b with
      | .len | .cap | .min | .max | .unsafeSliceData => false
      | _ => true
    | _ => true
  | _ => false

def isRead (o : Oper) : Bool := match o.op with
  | .load .. | .lookup .. | .entry _ | .convert .. => true
  | .call c => match c.callee with
    | .builtin .len => true
    | _ => false
  | _ => false

def writersFrom : Nat → List Oper → List Nat
  | _, [] => []
  | i, o :: l => match isWriter o with
    | true => i :: writersFrom (i + 1) l
    | false => writersFrom (i + 1) l

def canonFrom (bms : List Nat) (all : List Nat) : List Nat → Nat → List Nat
  | [], done => all.filter fun i => !bit done i
  | c :: ws, done =>
    let bm := (bms[c]?).getD 0
    all.filter (fun i => bit bm i && !bit done i) ++ c :: canonFrom bms all ws (Nat.lor (Nat.lor done bm) (Nat.shiftLeft 1 c))

def upTo : Nat → List Nat → List Nat
  | 0, l => l
  | n + 1, l => upTo n (n :: l)

def canon (ops : List Oper) : List Nat := canonFrom (masks ops) (upTo ops.length []) (writersFrom 0 ops) 0

/-- what one operation did in the order that is gone -/
structure Rec where
  i : Nat
  o : Oper
  bm : Nat
  wr : Bool
  tm : T V
  K : H
  v : V
  ob : Option O
  post : H

def emptyH (n : Nat) : H := { heap := .leaf, next := n, grps := .leaf }

/-- the places that an operation names -/
def restr (tm : T V) : List Nat → T V
  | [] => .leaf
  | t :: l => T.put (tm.get (slot t)) (slot t) (restr tm l)

def plainO : O → Bool
  | .row _ _ _ none _ => true
  | .map .. => true
  | _ => false

/-- a quiet operation: it makes at most one object, of the name told, and reads at most K; told: what it gives, and what it makes -/
def quietV (P : Program) (tm : T V) (K : H) (n : Nat) (o : Oper) : Option (V × Option O) :=
  match evOp P tm (emptyH n) o.op with
  | some r => match Nat.beq r.2.next n with
    | true => some (r.1, none)
    | false => grd (Nat.beq r.2.next (n + 1)) ((r.2.heap.get (Pos.of n)).bind fun ob => grd (plainO ob) (some (r.1, some ob)))
  | none => grd (isRead o) ((evOp P tm K o.op).bind fun r => grd (Nat.beq r.2.next K.next) (some (r.1, none)))

def putO (h : H) (n : Nat) : Option O → H
  | none => h
  | some o => { h with heap := h.heap.put (some o) (Pos.of n) }

/-- an operation that may do anything: one outcome -/
def loudV (P : Program) (call : CallF) (tm : T V) (h : H) (o : Oper) : Option (V × H) := match o.op with
  | .call c => match c.callee with
    | .builtin _ => evOp P tm h o.op
    | _ => (target P tm c).bind fun t => (call t.1 t.2 h).bind fun l => match l with
      | [r] => some r
      | _ => none
  | _ => evOp P tm h o.op

/-- what one does, in the state that is reached: does it write, its value, what it makes, the heap behind it -/
def actV (P : Program) (call : CallF) (ops : List Oper) (nm done bm : Nat) (K : H) (tm : T V) (h : H) (o : Oper) : Option (Bool × V × Option O × H) :=
  (wantedV ops tm o).bind fun wt => match wt with
    | false => some (false, undefV, none, h)
    | true => match quietV P tm K nm o with
      | some r => some (false, r.1, r.2, putO h nm r.2)
      | none => grd (Nat.beq done bm) ((loudV P call tm h o).bind fun r => some (true, r.1, none, r.2))

def evC (P : Program) (call : CallF) (ops : List Oper) (bms : List Nat) (base n : Nat) : List Nat → Nat → H → T V → H → Option (List Rec × T V × H × Nat)
  | [], done, _, tm, h => some ([], tm, h, done)
  | i :: C, done, K, tm, h => ops[i]?.bind fun o => bms[i]?.bind fun bm => grd (Nat.beq (Nat.land bm done) bm && !bit done i) <|
      (actV P call ops (base + i) done bm K (restr tm (named ops o)) h o).bind fun r => (setT n tm o.dst r.2.1).bind fun tm' =>
      (evC P call ops bms base n C (Nat.lor done (Nat.shiftLeft 1 i)) (match r.1 with | true => r.2.2.2 | false => K) tm' r.2.2.2).bind fun rest =>
        some ({ i, o, bm, wr := r.1, tm := restr tm (named ops o), K, v := r.2.1, ob := r.2.2.1, post := r.2.2.2 } :: rest.1, rest.2)

/-- what q may do ahead of c gives the same there -/
def same1 (P : Program) (ops : List Oper) (base : Nat) (q c : Rec) : Bool := match c.wr && !bit q.bm c.i with
  | false => true
  | true => match wantedV ops q.tm q.o with
    | some true => match evOp P q.tm (emptyH (base + q.i)) q.o.op with
      | some _ => true
      | none => match evOp P q.tm c.K q.o.op with
        | some r => V.eqb r.1 q.v && Nat.beq r.2.next c.K.next
        | none => false
    | _ => true

def stable (P : Program) (ops : List Oper) (base : Nat) (q : Rec) : List Rec → Bool
  | [] => true
  | c :: l => same1 P ops base q c && stable P ops base q l

def stables (P : Program) (ops : List Oper) (base : Nat) : List Rec → List Rec → Bool
  | _, [] => true
  | past, r :: l => (r.wr || stable P ops base r past) && stables P ops base (r :: past) l

def drawnEnd (P : Program) (ops : List Oper) (s : S) (r : List Rec × T V × H × Nat) : Option S :=
  grd (stables P ops s.h.next [] r.1 && (Nat.beq (r.2.2.2 + 1) (Nat.shiftLeft 1 ops.length) && Nat.ble r.1.length ops.length)) (match s with
    | ⟨_, n, _, ds, rd⟩ => some ⟨r.2.1, n, r.2.2.1, ds, rd⟩)

def H.up (h : H) (k : Nat) : H := match h with
  | ⟨t, n, g⟩ => ⟨t, n + k, g⟩

def evDrawn (P : Program) (call : CallF) (ops : List Oper) (s : S) : Option S :=
  grd (tmpsOk ops) <| (evC P call ops (masks ops) s.h.next s.n (canon ops) 0 (s.h.up ops.length) s.tmps (s.h.up ops.length)).bind fun r => drawnEnd P ops s r

abbrev Res := Option (List (Ex × S))

def unblock (id : Nat) : List (Ex × S) → List (Ex × S)
  | [] => []
  | p :: l => (match p.1 with
    | .exit i => match Nat.beq i id with
      | true => (.normal, p.2)
      | false => p
    | _ => p) :: unblock id l

def thenL (k : S → Res) (p : Ex × S) : Res := match p.1 with
  | .normal => k p.2
  | _ => some [p]

def normals : List S → List (Ex × S)
  | [] => []
  | s :: l => (.normal, s) :: normals l

def H.drop (h : H) (x : Pos) : H := match h with
  | ⟨t, n, g⟩ => ⟨t.put none x, n, g⟩

/-- the loop's end: its record is shut -/
def endLoopV (s : S) (xd xl : Pos) (h : H) : Option S := match h.heap.get xl with
  | some (.loop false _ _ _ _ _) => match s with
    | ⟨tm, n, _, ds, r⟩ => some ⟨tm, n, h.drop xl, .mark xd :: ds, r⟩
  | _ => none

def endLoops (s : S) (xd xl : Pos) : List (V × H) → Option (List S)
  | [] => some []
  | p :: l => (endLoopV s xd xl p.2).bind fun s' => (endLoops s xd xl l).bind fun r => some (s' :: r)

def rangeCall (env : Env) (s : S) (ps : List Nat) (assign body : Code) (gf : FuncId) (caps : List V) : Res :=
  (env.go gf (.yield (Pos.of (s.h.next + 1)) :: caps) ((s.h.new .dfr).new (.loop false s.tmps s.n ps assign body))).bind fun l =>
    (endLoops s (Pos.of s.h.next) (Pos.of (s.h.next + 1)) l).bind fun ss => some (normals ss)

def stepRange (env : Env) (s : S) (g : Operand) (ps : List Nat) (assign body : Code) : Res := match s.rnd with
  | true => none
  | false => (rho s.tmps g).bind fun v => match v with
    | .fn (.func gf) [] caps => rangeCall env s ps assign body gf caps
    | _ => none

def stepRegion (P : Program) (env : Env) (s : S) (ops : List Oper) (d : Bool) : Res := match d with
  | false => (evOps P env ops ops s).bind fun l => some (normals l)
  | true => (evDrawn P env.call ops s).bind fun s => some [(.normal, s)]

def stepSeq (self : Code → S → Res) (s : S) (a b : Code) : Res := (self a s).bind fun l => bindL (thenL (self b)) l

def stepCond (self : Code → S → Res) (s : S) (c : Operand) (a b : Code) : Res := (rho s.tmps c).bind fun v => v.bool?.bind fun r => match r with
  | true => self a s
  | false => self b s

def stepBlock (self : Code → S → Res) (s : S) (id : Nat) (a : Code) : Res := (self a s).bind fun l => some (unblock id l)

def step (P : Program) (env : Env) (self : Code → S → Res) (c : Code) (s : S) : Res :=
  match c with
  | .skip => some [(.normal, s)]
  | .label _ => some [(.normal, s)]
  | .region _ ops d => stepRegion P env s ops.toList d
  | .seq a b => stepSeq self s a b
  | .cond c a b => stepCond self s c a b
  | .block id a => stepBlock self s id a
  | .loop a => stepSeq self s a (.loop a)
  | .scope a => self a s
  | .exit id => some [(.exit id, s)]
  | .ret => some [(.ret, s)]
  | .rangeFunc g ps asg b => stepRange env s g ps.toList asg b
  | _ => none

def resultsV (P : Program) (tm : T V) (h : H) : List ResultVar → Option (List V)
  | [] => some []
  | .tmp t :: l => (tm.get (slot t)).bind fun v => (resultsV P tm h l).bind fun r => some (v :: r)
  | .cell a t :: l => (tm.get (slot a)).bind fun p => p.ptr?.bind fun p => (loadV P h t p.1 p.2).bind fun v => (resultsV P tm h l).bind fun r => some (v :: r)

def oneOf : List V → V
  | [v] => v
  | l => .tup l

def args0 : List V → Nat → T V → T V
  | [], _, t => t
  | v :: l, n, t => args0 l (n + 1) (t.put (some v) (slot n))

abbrev Prim := CallF

structure Cfg where
  prim : Prim
  defer : CallF
  mrg : FuncId → Bool

def results1 (P : Program) (fn : Func) (tm : T V) (h : H) : Option (List (V × H)) := (resultsV P tm h fn.results.toList).bind fun vs => some [(oneOf vs, h)]

/-- a function's end: its deferred call, its results -/
def finish (P : Program) (defer : CallF) (fn : Func) (p : Ex × S) : Option (List (V × H)) := match p.1 with
  | .exit _ => none
  | _ => match p.2.defs with
    | [] => results1 P fn p.2.tmps p.2.h
    | [.call g a] => (defer g a p.2.h).bind fun l => match l with
      | [r] => results1 P fn p.2.tmps r.2
      | _ => none
    | [.mark x] => match p.2.h.heap.get x with
      | some .dfr => results1 P fn p.2.tmps (p.2.h.drop x)
      | _ => none
    | _ => none

def mergeIf (b : Bool) (l : List (V × H)) : List (V × H) := match b with
  | true => merge l
  | false => l

def bodyGo (P : Program) (F : Cfg) (self : Code → S → Res) : CallF := fun f args h =>
  P.funcs[f]?.bind fun fn => fn.body.bind fun c => grd (!(fn.name == "runtime.NumGoroutine") && Nat.ble args.length fn.ntmps) <|
    (self c ⟨args0 args 0 .leaf, fn.ntmps, h, [], false⟩).bind fun l => (bindL (finish P F.defer fn) l).bind fun l => some (mergeIf (F.mrg f) l)

def body (P : Program) (F : Cfg) (self : Code → S → Res) : CallF := fun f args h =>
  match F.prim f args h with
  | some r => some r
  | none => bodyGo P F self f args h

def putArgs (tm : T V) : List Nat → List V → T V
  | t :: ts, v :: vs => putArgs (tm.put (some v) (slot t)) ts vs
  | _, _ => tm

/-- a round's end: the record is ready again -/
def endRoundV (x : Pos) (p : Ex × S) : Option (List (V × H)) := match p.1 with
  | .normal => match p.2.h.heap.get x with
    | some (.loop true tm n ps asg b) => some [(.bool true, p.2.h.set x (.loop false tm n ps asg b))]
    | _ => none
  | _ => none

/-- behind the assignments of a round -/
def roundV (self : Code → S → Res) (x : Pos) (body : Code) (p : Ex × S) : Option (List (V × H)) := match p.1 with
  | .normal => match p.2.h.heap.get x with
    | some (.loop false tm n ps asg b) => (self body (p.2.setH (p.2.h.set x (.loop true tm n ps asg b)))).bind fun l => bindL (endRoundV x) l
    | _ => none
  | _ => none

def yieldV (self : Code → S → Res) (x : Pos) (args : List V) (h : H) : Option (List (V × H)) := match h.heap.get x with
  | some (.loop false tm n ps asg b) => grd (Nat.beq args.length ps.length && ps.all fun t => Nat.blt t n) <| (self asg ⟨putArgs tm ps args, n, h, [], true⟩).bind fun l => bindL (roundV self x b) l
  | _ => none

def envOf (P : Program) (F : Cfg) (self : Code → S → Res) : Env := ⟨body P F self, bodyGo P F self, yieldV self⟩

def ev (P : Program) (F : Cfg) (n : Nat) : Code → S → Res :=
  Nat.rec (motive := fun _ => Code → S → Res) (fun _ _ => none) (fun _ ih => step P (envOf P F ih) ih) n

end
end Go.Ev
