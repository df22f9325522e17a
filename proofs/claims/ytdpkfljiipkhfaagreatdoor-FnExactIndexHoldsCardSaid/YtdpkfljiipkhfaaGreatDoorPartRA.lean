/- The pure evaluator: what a Go function of the seat's program computes, over plain trees; no memory of the model. Definitions alone. -/
import Derived.Calls
import Derived.Tactics
import GoSem.ClaimWide
import Derived.Laws.Sem
import Derived.Laws.World
import Derived.Laws.Concat
import Derived.Laws.Strings
namespace Go.Ev
set_option linter.unusedSimpArgs false
set_option linter.unusedVariables false

/-- Plain data. A struct's cells stand in a row, flat; a text is its bytes. -/
inductive T where
  | int (k : IntKind) (n : Int)
  | bool (b : Bool)
  | str (s : List UInt8)
  | list (xs : List T)
  | agg (cs : List T)
  deriving Inhabited

def T.cells : T → List T
  | .agg cs => cs
  | t => [t]
def T.one : T → Bool
  | .agg _ => false
  | _ => true

/-- What a slot holds. -/
inductive SV where
  | undef
  | t (t : T)
  | nil
  | row (r : Nat)
  | view (r lo hi : Nat)
  | ptr (b off : Nat)
  | eptr (r i off : Nat)
  | dptr (cs : List T)
  | agg (cs : List SV)
  | tup (vs : List SV)
  | fn (g : Nat) (caps : List SV)
  | meth (g : Nat) (first : List T)
  | glob (g : Nat)
  | sl (b n sz : Nat)
  deriving Inhabited
def SV.one : SV → Bool
  | .undef | .agg _ | .tup _ => false
  | .t x => x.one
  | _ => true

inductive Ob where
  | dead
  | box (ty : Nat) (cells : List SV)
  | row (e : Nat) (xs : List T) (live : Bool)
  deriving Inhabited

/-- What goes over at a call. -/
inductive X where
  | t (t : T)
  | nil
  | row (e : Nat) (xs : List T)
  | agg (cs : List X)
  | ref (ty : Nat) (cs : List X)
  | dref (cs : List T)
  | fn (g : Nat) (caps : List (List T))
  | meth (g : Nat) (first : List T)
  | sref (ty n sz : Nat) (cs : List X)
  deriving Inhabited

inductive TK where
  | int (k : IntKind) | bool | str | slice | struct | flat | other
  deriving DecidableEq, Inhabited

structure TI where
  k : TK
  size : Nat
  bytes : Nat
  zero : List SV
  elem : Nat
  fields : List (Nat × Nat)
  deriving Inhabited
def TI.agg (i : TI) : Bool := match i.k with
  | .struct => true
  | _ => false
def TI.known (i : TI) : Bool := match i.k with
  | .other => false
  | _ => true

structure St where
  s : Nat → SV
  o : Nat → Ob
  n : Nat
  N : Nat

def upd {α : Type} (f : Nat → α) (i : Nat) (v : α) : Nat → α := fun j => if j = i then v else f j
theorem upd_self {α : Type} (f : Nat → α) (i : Nat) (v : α) : upd f i v i = v := by simp [upd]
theorem upd_ne {α : Type} (f : Nat → α) {i j : Nat} (v : α) (h : j ≠ i) : upd f i v j = f j := by simp [upd, h]

def ofConst : Value → SV
  | .int k n => .t (.int k n)
  | .bool b => .t (.bool b)
  | .string s => .t (.str s.data.toList)
  | .slice none 0 0 => .nil
  | _ => .undef
def ofT : T → SV
  | .agg cs => .agg (cs.map SV.t)
  | t => .t t

def St.val (st : St) : Operand → SV
  | .tmp i => if i < st.N then st.s i else .undef
  | .const v => ofConst v
  | .func f => .fn f []
  | .global g => .glob g
def St.put (st : St) (d : Option Nat) (v : SV) : St :=
  match d with
  | none => st
  | some d => { st with s := upd st.s d v }
def St.alloc (st : St) (ob : Ob) : St := { st with o := upd st.o st.n ob, n := st.n + 1 }
def St.setO (st : St) (i : Nat) (ob : Ob) : St := { st with o := upd st.o i ob }

/-- Plain data that no row holds. -/
def SV.plain1 : SV → Option T
  | .t x => if x.one then some x else none
  | .nil => some (.list [])
  | _ => none
def SV.plainL : List SV → Option (List T)
  | [] => some []
  | v :: r => match v.plain1, SV.plainL r with
    | some x, some ts => some (x :: ts)
    | _, _ => none
def SV.plain : SV → Option T
  | .agg cs => (SV.plainL cs).map .agg
  | v => v.plain1
def SV.plains : List SV → Option (List T)
  | [] => some []
  | v :: r => match v.plain, SV.plains r with
    | some x, some ts => some (x :: ts)
    | _, _ => none
/-- One cell as plain data, looked at. -/
def St.peek1 (st : St) : SV → Option T
  | .t t => if t.one then some t else none
  | .nil => some (.list [])
  | .row r => match st.o r with
    | .row _ xs _ => some (.list xs)
    | _ => none
  | .view r lo hi => match st.o r with
    | .row _ xs _ => some (.list ((xs.take hi).drop lo))
    | _ => none
  | _ => none
def St.peekL (st : St) : List SV → Option (List T)
  | [] => some []
  | v :: r => match st.peek1 v with
    | none => none
    | some t => match st.peekL r with
      | none => none
      | some ts => some (t :: ts)
def St.peek (st : St) : SV → Option T
  | .agg cs => match st.peekL cs with
    | none => none
    | some ts => some (.agg ts)
  | v => st.peek1 v
def T.listOf : T → Option (List T)
  | .list xs => some xs
  | _ => none
/-- The elements of a slice. -/
def St.elems (st : St) (v : SV) : Option (List T) := (st.peek1 v).bind T.listOf
def St.freeze (st : St) (r : Nat) : St := match st.o r with
  | .row e xs _ => st.setO r (.row e xs false)
  | _ => st
/-- One cell taken into a row's element: what was a row of its own is only read from now on. -/
def St.absorb1 (st : St) (v : SV) : Option (T × St) :=
  match st.peek1 v with
  | none => none
  | some t => match v with
    | .row r => some (t, st.freeze r)
    | .view r _ _ => some (t, st.freeze r)
    | _ => some (t, st)
def St.absorbL (st : St) : List SV → Option (List T × St)
  | [] => some ([], st)
  | v :: r => match st.absorb1 v with
    | none => none
    | some (t, st) => match st.absorbL r with
      | none => none
      | some (ts, st) => some (t :: ts, st)
def SV.cells : SV → List SV
  | .agg cs => cs
  | v => [v]
def mkT : Bool → List T → Option T
  | true, ts => some (.agg ts)
  | false, [t] => some t
  | _, _ => none
def mkSV : Bool → List SV → Option SV
  | true, ts => some (.agg ts)
  | false, [t] => some t
  | _, _ => none
/-- A value taken into a row's element. -/
def St.absorb (st : St) : SV → Option (T × St)
  | .agg cs => match st.absorbL cs with
    | none => none
    | some (ts, st) => some (.agg ts, st)
  | v => st.absorb1 v
def St.absorbAll (st : St) : List SV → Option (List T × St)
  | [] => some ([], st)
  | v :: r => match st.absorb v with
    | none => none
    | some (t, st) => match st.absorbAll r with
      | none => none
      | some (ts, st) => some (t :: ts, st)

/-- Written over a part of a row of cells. -/
def splice {α : Type} (xs : List α) (off : Nat) (ys : List α) : List α := xs.take off ++ ys ++ xs.drop (off + ys.length)

def eqCells : List T → List T → Option Bool
  | [], [] => some true
  | .int k a :: r, .int k' b :: q => if k = k' then (eqCells r q).map (fun z => (a == b) && z) else none
  | .bool a :: r, .bool b :: q => (eqCells r q).map (fun z => (a == b) && z)
  | .str a :: r, .str b :: q => (eqCells r q).map (fun z => (a == b) && z)
  | _, _ => none
def binI (op : BinOp) (k : IntKind) (x y : Int) : Option T :=
  match op with
  | .add => some (.int k (k.wrap (x + y)))
  | .sub => some (.int k (k.wrap (x - y)))
  | .mul => some (.int k (k.wrap (x * y)))
  | .quo => if y = 0 then none else some (.int k (k.wrap (x.tdiv y)))
  | .rem => if y = 0 then none else some (.int k (x.tmod y))
  | .and => some (.int k (k.wrap ((BitVec.ofInt k.bits x &&& BitVec.ofInt k.bits y).toNat)))
  | .or => some (.int k (k.wrap ((BitVec.ofInt k.bits x ||| BitVec.ofInt k.bits y).toNat)))
  | .xor => some (.int k (k.wrap ((BitVec.ofInt k.bits x ^^^ BitVec.ofInt k.bits y).toNat)))
  | .andNot => some (.int k (k.wrap ((BitVec.ofInt k.bits x &&& ~~~ BitVec.ofInt k.bits y).toNat)))
  | .eql => some (.bool (x == y))
  | .neq => some (.bool (x != y))
  | .lss => some (.bool (x < y))
  | .leq => some (.bool (x ≤ y))
  | .gtr => some (.bool (x > y))
  | .geq => some (.bool (x ≥ y))
  | _ => none
def shiftI (op : BinOp) (k : IntKind) (x y : Int) : Option T :=
  match op with
  | .shl => if y < 0 then none else some (.int k (k.wrap (x * 2 ^ min y.toNat k.bits)))
  | .shr => if y < 0 then none else some (.int k (x.fdiv (2 ^ min y.toNat k.bits)))
  | _ => none
def binS (op : BinOp) (x y : List UInt8) : Option T :=
  match op with
  | .add => if x.length + y.length ≤ 140737488355328 then some (.str (x ++ y)) else none
  | .eql => some (.bool (x == y))
  | .neq => some (.bool (!(x == y)))
  | .lss => some (.bool (Op.bytesLess x y))
  | .leq => some (.bool (Op.bytesLess x y || x == y))
  | .gtr => some (.bool (!(Op.bytesLess x y || x == y)))
  | .geq => some (.bool (!Op.bytesLess x y))
  | _ => none
def isShift : BinOp → Bool
  | .shl | .shr => true
  | _ => false
/-- Cells of the kinds that a struct's fields have. -/
def kindsOK : List TK → List T → Bool
  | [], [] => true
  | .int _ :: ks, .int _ _ :: ts => kindsOK ks ts
  | .bool :: ks, .bool _ :: ts => kindsOK ks ts
  | .str :: ks, .str _ :: ts => kindsOK ks ts
  | _, _ => false
def St.bin (st : St) (eqT : Nat → List TK) (kT : Nat → TK) (op : BinOp) (t : Nat) : SV → SV → Option T
  | .t (.int k x), .t (.int k' y) => match isShift op with
    | true => shiftI op k x y
    | false => if k = k' then binI op k x y else none
  | .t (.str x), .t (.str y) => binS op x y
  | .t (.bool x), .t (.bool y) => match kT t, op with
    | .bool, .eql => some (.bool (x == y))
    | .bool, .neq => some (.bool (!(x == y)))
    | _, _ => none
  | .agg xs, .agg ys => match kT t, st.peekL xs, st.peekL ys with
    | .struct, some xs, some ys => if kindsOK (eqT t) xs = true ∧ kindsOK (eqT t) ys = true ∧ xs ≠ [] then
        match eqCells xs ys, op with
        | some b, .eql => some (.bool b)
        | some b, .neq => some (.bool (!b))
        | _, _ => none
      else none
    | _, _, _ => none
  | _, _ => none
def un : UnOp → SV → Option T
  | .not, .t (.bool b) => some (.bool (!b))
  | .neg, .t (.int k n) => some (.int k (k.wrap (0 - n)))
  | _, _ => none
def asNat : SV → Option Nat
  | .t (.int _ n) => if 0 ≤ n then some n.toNat else none
  | _ => none

structure Env where
  ty : Nat → TI
  eqT : Nat → List TK
  fn : Nat → Option Func
  md : Nat → List Bool
  flat : Nat → Bool
  ext : Nat → Option (List X → Option (List X × List (Option X)))
  draw : Array Oper → Option (List Oper)
  drawS : Array Oper → Option (List (Nat × Nat) × List Oper)
  glob : Nat → List T
  arr : Nat → Option (Nat × Nat)

mutual
def T.flat : T → Bool
  | .list _ => false
  | .agg cs => T.flats cs
  | _ => true
def T.flats : List T → Bool
  | [] => true
  | t :: r => t.flat && T.flats r
end
section
variable (E : Env)
def St.loadAt (st : St) (t : Nat) (v : SV) : Option SV :=
  if (E.ty t).known = false then none else match v with
  | .ptr b off => match st.o b with
    | .box _ cells => if off + (E.ty t).size ≤ cells.length then mkSV (E.ty t).agg ((cells.drop off).take (E.ty t).size) else none
    | _ => none
  | .eptr r i off => match st.o r with
    | .row _ xs _ => match xs[i]? with
      | some x => if off + (E.ty t).size ≤ x.cells.length then mkSV (E.ty t).agg (((x.cells.drop off).take (E.ty t).size).map SV.t) else none
      | none => none
    | _ => none
  | .dptr cs => if (E.ty t).size ≤ cs.length then mkSV (E.ty t).agg ((cs.take (E.ty t).size).map SV.t) else none
  | _ => none
def T.setCells (x : T) (off : Nat) (ts : List T) : Option T := match x with
  | .agg cs => if off + ts.length ≤ cs.length then some (.agg (splice cs off ts)) else none
  | _ => match off, ts with
    | 0, [t] => some t
    | _, _ => none
def St.storeAt (st : St) (t : Nat) (a v : SV) : Option St :=
  if v.cells.length = (E.ty t).size ∧ v.cells.all SV.one = true ∧ (E.ty t).known = true then
    match a with
    | .ptr b off => match st.o b with
      | .box ty cells => if off + v.cells.length ≤ cells.length then some (st.setO b (.box ty (splice cells off v.cells))) else none
      | _ => none
    | .eptr r i off => match st.absorbL v.cells with
      | some (ts, st) => match st.o r with
        | .row e xs true => match xs[i]? with
          | some x => match x.setCells off ts with
            | some x' => some (st.setO r (.row e (xs.set i x') true))
            | none => none
          | none => none
        | _ => none
      | none => none
    | _ => none
  else none
def fieldAt (s : Nat) (v : SV) (f : Nat) : Option SV :=
  match (E.ty s).agg, (E.ty s).fields[f]? with
  | true, some (o, ft) => if (E.ty ft).known = false then none else match v with
    | .ptr b off => some (.ptr b (off + o))
    | .eptr r i off => some (.eptr r i (off + o))
    | .dptr cs => some (.dptr (cs.drop o))
    | _ => none
  | _, _ => none
def isSlice : TK → Bool
  | .slice => true
  | _ => false
/-- An element's address: the element has the width that the type says. -/
def St.indexAt0 (st : St) (t : Nat) (v i : SV) : Option SV :=
  if isSlice (E.ty t).k = true ∧ (E.ty (E.ty t).elem).known = true then
    match asNat i with
    | none => none
    | some i => match v with
      | .row r => match st.o r with
        | .row _ xs _ => match xs[i]? with
          | some x => if x.cells.length = (E.ty (E.ty t).elem).size then some (.eptr r i 0) else none
          | none => none
        | _ => none
      | .view r lo hi => match st.o r with
        | .row _ xs _ => if lo + i < hi then
            match xs[lo + i]? with
            | some x => if x.cells.length = (E.ty (E.ty t).elem).size then some (.eptr r (lo + i) 0) else none
            | none => none
          else none
        | _ => none
      | .t (.list xs) => match xs[i]? with
        | some x => if x.cells.length = (E.ty (E.ty t).elem).size then some (.dptr x.cells) else none
        | none => none
      | .sl b n _ => if i < n then some (.ptr b (i * (E.ty (E.ty t).elem).size)) else none
      | _ => none
  else none
/-- A cell of a table of the package. -/
def globAt (t g : Nat) (i : SV) : Option SV := match E.arr t, asNat i with
  | some (n, _), some i => if i < n then match (E.glob g)[i]? with
      | some y => if y.one = true ∧ y.flat = true then some (.dptr [y]) else none
      | none => none
    else none
  | _, _ => none
def St.indexAt (st : St) (t : Nat) (v i : SV) : Option SV := match v with
  | .glob g => globAt E t g i
  | v => st.indexAt0 E t v i
def fillP (fields : List (Nat × Nat)) (cells : List SV) (sz : Nat → Nat) : List (Nat × SV) → Option (List SV)
  | [] => some cells
  | (i, v) :: r => match fields[i]? with
    | none => none
    | some (o, ft) => if v.cells.length = sz ft ∧ o + v.cells.length ≤ cells.length ∧ v.cells.all SV.one = true then fillP fields (splice cells o v.cells) sz r else none
def St.boundOr (st : St) (d : Nat) : Option Operand → Option Nat
  | none => some d
  | some x => asNat (st.val x)
/-- A part of a slice, from l up to h. -/
def St.part (st : St) (t : Nat) (v : SV) (l h : Nat) : Option SV :=
  match v with
  | .row r => match st.o r with
    | .row e xs _ => if e = (E.ty t).elem ∧ h ≤ xs.length then some (.view r l h) else none
    | _ => none
  | .view r lo hi => match st.o r with
    | .row e xs _ => if e = (E.ty t).elem ∧ lo + h ≤ xs.length then some (.view r (lo + l) (lo + h)) else none
    | _ => none
  | .t (.list xs) => if h ≤ xs.length ∧ xs.all (fun x => x.cells.length == (E.ty (E.ty t).elem).size) = true then some (.t (.list ((xs.take h).drop l))) else none
  | .nil => if h = 0 then some .nil else none
  | _ => none
def St.slen (st : St) : SV → Option Nat
  | .row r => match st.o r with
    | .row _ xs _ => some xs.length
    | _ => none
  | .view _ lo hi => some (hi - lo)
  | .sl _ n _ => some n
  | .t (.list xs) => some xs.length
  | .nil => some 0
  | _ => none
/-- How far a slice may surely be stretched. -/
def St.roomOf (st : St) : SV → Option Nat
  | .view r lo _ => match st.o r with
    | .row _ xs _ => some (xs.length - lo)
    | _ => none
  | v => st.slen v
def St.sliceAt (st : St) (t : Nat) (x : SV) (lo hi mx : Option Operand) : Option SV :=
  match (E.ty t).k, x with
  | .str, .t (.str s) => match mx with
    | some _ => none
    | none => match st.boundOr 0 lo, st.boundOr s.length hi with
      | some l, some h => if l ≤ h ∧ h ≤ s.length then some (.t (.str ((s.take h).drop l))) else none
      | _, _ => none
  | .slice, v => if (E.ty (E.ty t).elem).known = false then none else match st.slen v, st.roomOf v with
    | some n, some k => match st.boundOr 0 lo, st.boundOr n hi with
      | some l, some h => if l ≤ h ∧ h ≤ k then
          match mx with
          | some m => if asNat (st.val m) = some l ∧ h = l ∧ hi.isSome = true then some .nil else match asNat (st.val m) with
            | some q => if h ≤ q ∧ q ≤ k ∧ hi.isSome = true then some .undef else none
            | none => none
          | none => st.part E t v l h
        else none
      | _, _ => none
    | _, _ => none
  | _, _ => none
def bytesT (l : List UInt8) : List T := l.map fun b => .int .u8 b.toNat
def toBytes : List T → Option (List UInt8)
  | [] => some []
  | .int .u8 n :: r => match toBytes r with
    | some l => some (UInt8.ofNat n.toNat :: l)
    | none => none
  | _ => none
def St.convert (st : St) (src dst : Nat) (x : SV) : Option (SV × St) :=
  match (E.ty src).k, (E.ty dst).k, x with
  | .int _, .int k, .t (.int _ n) => some (.t (.int k (k.wrap n)), st)
  | .str, .str, .t (.str s) => some (.t (.str s), st)
  | .str, .slice, .t (.str s) => match (E.ty (E.ty dst).elem).k with
    | .int .u8 => if s.length ≤ 140737488355328 then some (.row st.n, st.alloc (.row (E.ty dst).elem (bytesT s) true)) else none
    | _ => none
  | .slice, .str, v => match (E.ty (E.ty src).elem).k with
    | .int .u8 => match (st.elems v).bind toBytes with
      | some l => some (.t (.str l), st)
      | none => none
    | _ => none
  | _, _, _ => none
/-- Base of an append: what it holds, and the state without it. -/
def St.base (st : St) (e : Nat) : SV → Option (List T × St)
  | .nil => some ([], st)
  | .row r => match st.o r with
    | .row e' xs true => if e' = e then some (xs, st.setO r .dead) else none
    | _ => none
  | .view r lo hi => match st.o r with
    | .row e' xs true => if e' = e ∧ hi ≤ xs.length ∧ lo ≤ hi then some ((xs.take hi).drop lo, st.setO r .dead) else none
    | _ => none
  | _ => none
def St.fits (st : St) (e : Nat) : SV → List T → Bool
  | .row r, _ => match st.o r with
    | .row e' _ _ => e' == e
    | _ => false
  | .view r _ _, _ => match st.o r with
    | .row e' _ _ => e' == e
    | _ => false
  | .t (.str _), _ => (E.ty e).size == 1
  | _, ys => ys.all fun x => x.cells.length == (E.ty e).size
def St.moreOf (st : St) : SV → Option (List T)
  | .t (.str s) => some (bytesT s)
  | v => st.elems v
def sliceOrStr : TK → Bool
  | .slice | .str => true
  | _ => false
def St.append (st : St) (sT xT : Nat) (s x : SV) : Option (SV × St) :=
  if isSlice (E.ty sT).k = true ∧ sliceOrStr (E.ty xT).k = true ∧ (E.ty (E.ty sT).elem).known = true then
    match st.moreOf x, st.base (E.ty sT).elem s with
    | some ys, some (xs, st1) =>
      if st.fits E (E.ty sT).elem x ys = true ∧ xs.length + ys.length ≤ 140737488355328 ∧ (xs.length + ys.length) * (E.ty (E.ty sT).elem).bytes ≤ 140737488355328 then some (.row st1.n, st1.alloc (.row (E.ty sT).elem (xs ++ ys) true)) else none
    | _, _ => none
  else none
def St.lenOf (st : St) (t : Nat) (x : SV) : Option Nat :=
  match (E.ty t).k, x with
  | .str, .t (.str s) => some s.length
  | .slice, v => st.slen v
  | _, _ => none
def pickMin (op : Bool) : T → T → Option T   -- true: max
  | .int k x, .int k' y => if k = k' then some (.int k (if (if op then x < y else y < x) then y else x)) else none
  | .str x, .str y => some (.str (if (if op then !Op.bytesLess x y else Op.bytesLess x y || x == y) then x else y))
  | _, _ => none
/-- An append of a row's part to another part of the same row, where there is room. -/
def sameRow : SV → SV → Bool
  | .view r _ _, .view r' _ _ => r == r'
  | _, _ => false
def St.appendIn (st : St) (sT : Nat) : SV → SV → Option (SV × St)
  | .view r lo hi, .view r' lo' hi' => match st.o r with
    | .row e xs true => if r' = r ∧ e = (E.ty sT).elem ∧ lo ≤ hi ∧ lo' ≤ hi' ∧ hi' ≤ xs.length ∧ hi + (hi' - lo') ≤ xs.length then
        some (.view r lo (hi + (hi' - lo')), st.setO r (.row e (splice xs hi ((xs.take hi').drop lo')) true)) else none
    | _ => none
  | _, _ => none
/-- A part of a row set to zeros. -/
def St.clearAt (st : St) (t : Nat) : SV → Option St
  | .nil => some st
  | .view r lo hi => match st.o r with
    | .row e xs true => if e = (E.ty t).elem ∧ lo ≤ hi ∧ hi ≤ xs.length then
        match st.peekL (E.ty e).zero with
        | some z => match mkT (E.ty e).agg z with
          | some z => some (st.setO r (.row e (splice xs lo (List.replicate (hi - lo) z)) true))
          | none => none
        | none => none
      else none
    | _ => none
  | _ => none
def St.builtin (st : St) (b : Builtin) (ts : List Nat) (vs : List SV) : Option (SV × St) :=
  match b, ts, vs with
  | .len, [t], [x] => (st.lenOf E t x).map fun (n : Nat) => (.t (.int .i64 n), st)
  | .append, [sT, xT], [s, x] => if sameRow s x = true then (if isSlice (E.ty sT).k = true ∧ isSlice (E.ty xT).k = true ∧ (E.ty (E.ty sT).elem).known = true then st.appendIn E sT s x else none) else st.append E sT xT s x
  | .clear, [t], [x] => if isSlice (E.ty t).k = true ∧ (E.ty (E.ty t).elem).known = true then (st.clearAt E t x).map fun st => (.tup [], st) else none
  | .max, _, [.t x, .t y] => (pickMin true x y).map fun t => (.t t, st)
  | .min, _, [.t x, .t y] => (pickMin false x y).map fun t => (.t t, st)
  | _, _, _ => none
/-- Any operation but a call of a function: its value and the state behind it. -/
def St.op (st : St) : Op → Option (SV × St)
  | .move x | .assign x => some (st.val x, st)
  | .pick c a b => match st.val c with
    | .t (.bool c) => some (if c then st.val a else st.val b, st)
    | _ => none
  | .alloc e => if (E.ty e).known = true then some (.ptr st.n 0, st.alloc (.box e (E.ty e).zero)) else none
  | .box e x => if (st.val x).cells.length = (E.ty e).size ∧ (st.val x).cells.all SV.one = true then some (.ptr st.n 0, st.alloc (.box e (st.val x).cells)) else none
  | .build t ps => if (E.ty t).agg = true ∧ (E.ty t).fields.all (fun p => (E.ty p.2).known) = true then (fillP (E.ty t).fields (E.ty t).zero (fun f => (E.ty f).size) (ps.toList.map fun p => (p.1, st.val p.2))).map fun cs => (.agg cs, st) else none
  | .buildSlice t n ps => if isSlice (E.ty t).k = true ∧ (E.ty (E.ty t).elem).known = true ∧ ps.toList.map (·.1) = List.range n ∧ n * (E.ty (E.ty t).elem).size ≤ 16777216 ∧ (ps.toList.map fun p => st.val p.2).all (fun v => v.cells.length == (E.ty (E.ty t).elem).size && v.cells.all SV.one) = true then
      match st.absorbAll (ps.toList.map fun p => st.val p.2) with
      | some (ts, st) => some (.row st.n, st.alloc (.row (E.ty t).elem ts true))
      | none => none
    else none
  | .load t a => (st.loadAt E t (st.val a)).map fun v => (v, st)
  | .store t a x => (st.storeAt E t (st.val a) (st.val x)).map fun st => (.undef, st)
  | .nilCheck x => match st.val x with
    | .ptr b o => some (.ptr b o, st)
    | .eptr r i o => some (.eptr r i o, st)
    | .dptr cs => some (.dptr cs, st)
    | _ => none
  | .binOp op t x y _ => (st.bin E.eqT (fun t => (E.ty t).k) op t (st.val x) (st.val y)).map fun t => (.t t, st)
  | .unOp op _ x => (un op (st.val x)).map fun t => (.t t, st)
  | .convert s d x => st.convert E s d (st.val x)
  | .makeFunc (.func g) first caps => if first.size = 0 then some (.fn g (caps.toList.map st.val), st) else if caps.size = 0 then (SV.plains (first.toList.map st.val)).map fun ts => (.meth g ts, st) else none
  | .makeSlice t l c => match asNat (st.val l), asNat (st.val c) with
    | some l, some c => if l = c ∧ isSlice (E.ty t).k = true ∧ (E.ty (E.ty t).elem).known = true ∧ l ≤ 140737488355328 ∧ l * (E.ty (E.ty t).elem).bytes ≤ 140737488355328 then
        match st.peekL (E.ty (E.ty t).elem).zero with
        | some z => match mkT (E.ty (E.ty t).elem).agg z with
          | some z => match E.md ((E.ty t).elem + 2000000) with
            | [] => some (.row st.n, st.alloc (.row (E.ty t).elem (List.replicate l z) true))
            | _ :: _ => if l = 0 then some (.nil, st) else some (.sl st.n l (E.ty (E.ty t).elem).size, st.alloc (.box (E.ty t).elem (List.replicate l (E.ty (E.ty t).elem).zero).flatten))
          | none => none
        | none => none
      else none
    | _, _ => none
  | .slice t x lo hi mx => (st.sliceAt E t (st.val x) lo hi mx).map fun v => (v, st)
  | .fieldAddr s x f => (fieldAt E s (st.val x) f).map fun v => (v, st)
  | .indexAddr t x i => (st.indexAt E t (st.val x) (st.val i)).map fun v => (v, st)
  | .field s x f => match (E.ty s).fields[f]?, st.val x with
    | some (o, ft), .agg cs => if (E.ty s).agg = true ∧ (E.ty ft).known = true ∧ o + (E.ty ft).size ≤ cs.length then (mkSV (E.ty ft).agg ((cs.drop o).take (E.ty ft).size)).map fun v => (v, st) else none
    | _, _ => none
  | .index t x i => match (E.ty t).k, st.val x, asNat (st.val i) with
    | .str, .t (.str s), some i => (s[i]?).map fun b => (.t (.int .u8 b.toNat), st)
    | _, _, _ => none
  | .extract x i => match st.val x with
    | .tup vs => (vs[i]?).map fun v => (v, st)
    | _ => none
  | .call c => match c.callee with
    | .builtin b => st.builtin E b c.argTypes.toList (c.args.toList.map st.val)
    | _ => none
  | _ => none
end

/-! ### Calls -/
/-- A row of structs out of its cells. -/
def chunkT (sz : Nat) : Nat → List T → List T
  | 0, _ => []
  | n + 1, ts => .agg (ts.take sz) :: chunkT sz n (ts.drop sz)
/-- All of a list, or none. -/
def allW {α β : Type} (g : α → Option β) : List α → Option (List β)
  | [] => some []
  | v :: r => match g v with
    | none => none
    | some x => match allW g r with
      | none => none
      | some xs => some (x :: xs)
/-- One cell as plain data, looked at, slices of boxes too, so deep. -/
def St.peek1F (st : St) : Nat → SV → Option T
  | f + 1, .sl b n sz => match st.o b with
    | .box _ cells => if cells.length = n * sz ∧ 0 < sz then (allW (st.peek1F f) cells).map fun ts => .list (chunkT sz n ts) else none
    | _ => none
  | _, v => st.peek1 v
def St.peekX (st : St) : SV → Option T
  | .agg cs => (allW (st.peek1F 6) cs).map .agg
  | v => st.peek1F 6 v
/-- The boxes and rows of a slice of boxes. -/
def St.sl1F (st : St) : Nat → SV → List Nat
  | f + 1, .sl b _ _ => match st.o b with
    | .box _ cells => b :: (cells.map (st.sl1F f)).flatten
    | _ => []
  | _, .row r => [r]
  | _, .view r _ _ => [r]
  | _, _ => []
def St.lookX (st : St) (v : SV) : Option X := match st.peek v with
  | some t => some (.t t)
  | none => (st.peekX v).map .t
/-- Only looked at by who is called. -/
def St.giveRo (st : St) : SV → Option X
  | .fn g caps => (go caps).map (.fn g)
  | .ptr b off => match st.o b with
    | .box _ cells => (st.peekL (cells.drop off)).map .dref
    | _ => none
  | .eptr r i off => match st.o r with
    | .row _ xs _ => (xs[i]?).map fun x => .dref (x.cells.drop off)
    | _ => none
  | .dptr cs => some (.dref cs)
  | .meth g first => some (.meth g first)
  | v => st.lookX v
  where go : List SV → Option (List (List T))
  | [] => some []
  | .ptr b 0 :: r => match st.o b with
    | .box _ cells => match st.peekL cells with
      | some ts => (go r).map (ts :: ·)
      | none => none
    | _ => none
  | .dptr cs :: r => (go r).map (cs :: ·)
  | _ => none
/-- Handed over: rows, and a pointer to a variable. -/
def St.giveCell0 (st : St) : SV → Option X
  | .row r => match st.o r with
    | .row e xs true => some (.row e xs)
    | .row _ xs false => some (.t (.list xs))
    | _ => none
  | .nil => some .nil
  | .t t => if t.one then some (.t t) else none
  | _ => none
def St.giveF (st : St) : Nat → SV → Option X
  | f + 1, .sl b n sz => match st.o b with
    | .box ty cells => (allW (st.giveF f) cells).map (.sref ty n sz)
    | _ => none
  | _, v => st.giveCell0 v
def St.giveCell (st : St) : SV → Option X
  | .row r => match st.o r with
    | .row e xs true => some (.row e xs)
    | .row _ xs false => some (.t (.list xs))
    | _ => none
  | .nil => some .nil
  | .t t => if t.one then some (.t t) else none
  | .sl b n sz => st.giveF 6 (.sl b n sz)
  | _ => none
def St.giveCells (st : St) : List SV → Option (List X)
  | [] => some []
  | v :: r => match st.giveCell v, st.giveCells r with
    | some x, some xs => some (x :: xs)
    | _, _ => none
def St.giveCells0 (st : St) : List SV → Option (List X)
  | [] => some []
  | v :: r => match st.giveCell0 v, st.giveCells0 r with
    | some x, some xs => some (x :: xs)
    | _, _ => none
def St.giveMut (st : St) : SV → Option X
  | .row r => match st.o r with
    | .row e xs true => some (.row e xs)
    | _ => none
  | .nil => some .nil
  | .ptr b 0 => match st.o b with
    | .box ty cells => (st.giveCells0 cells).map (.ref ty)
    | _ => none
  | .agg cs => (st.giveCells cs).map .agg
  | .sl b n sz => st.giveF 6 (.sl b n sz)
  | _ => none
def St.liveF (st : St) : Nat → SV → List Nat
  | f + 1, .sl b _ _ => match st.o b with
    | .box _ cells => b :: (cells.map (st.liveF f)).flatten
    | _ => []
  | _, .row r => match st.o r with
    | .row _ _ true => [r]
    | _ => []
  | _, _ => []
def liveIds (st : St) : List SV → List Nat
  | [] => []
  | .row r :: q => match st.o r with
    | .row _ _ true => r :: liveIds st q
    | _ => liveIds st q
  | .sl b n sz :: q => st.liveF 6 (.sl b n sz) ++ liveIds st q
  | _ :: q => liveIds st q
/-- The objects that go over with what is handed over. -/
def St.mutIds (st : St) : SV → List Nat
  | .row r => [r]
  | .ptr b _ => match st.o b with
    | .box _ cells => b :: liveIds st cells
    | _ => [b]
  | .agg cs => liveIds st cs
  | .sl b n sz => st.liveF 6 (.sl b n sz)
  | _ => []
/-- The rows that are looked at. -/
def rowIds : List SV → List Nat
  | [] => []
  | .row r :: q => r :: rowIds q
  | .view r _ _ :: q => r :: rowIds q
  | _ :: q => rowIds q
def St.capIds (st : St) : List SV → List Nat
  | [] => []
  | .ptr b _ :: q => match st.o b with
    | .box _ cells => b :: (rowIds cells ++ st.capIds q)
    | _ => st.capIds q
  | _ :: q => st.capIds q
def St.slIds (st : St) : List SV → List Nat
  | [] => []
  | .sl b n sz :: q => st.sl1F 6 (.sl b n sz) ++ st.slIds q
  | _ :: q => st.slIds q
def St.roIds (st : St) : SV → List Nat
  | .fn _ caps => st.capIds caps
  | .ptr b o => st.capIds [.ptr b o]
  | .eptr r _ _ => [r]
  | v => rowIds v.cells ++ st.slIds v.cells
def St.give (st : St) : List Bool → List SV → Option (List X)
  | _, [] => some []
  | m, v :: r => match (if m.headD false then st.giveMut v else st.giveRo v), st.give m.tail r with
    | some x, some xs => some (x :: xs)
    | _, _ => none
def muts {α : Type} : List Bool → List α → List α
  | _, [] => []
  | m, v :: r => if m.headD false then v :: muts m.tail r else muts m.tail r
def ros {α : Type} : List Bool → List α → List α
  | _, [] => []
  | m, v :: r => if m.headD false then ros m.tail r else v :: ros m.tail r

mutual
/-- What comes: laid into the state. -/
def St.bindCell : (st : St) → X → SV × St
  | st, .t t => (.t t, st)
  | st, .nil => (.nil, st)
  | st, .row e xs => (.row st.n, st.alloc (.row e xs true))
  | st, .sref ty n sz cs => (.sl (St.bindCells st cs).2.n n sz, (St.bindCells st cs).2.alloc (.box ty (St.bindCells st cs).1))
  | st, _ => (.undef, st)
def St.bindCells : (st : St) → List X → List SV × St
  | st, [] => ([], st)
  | st, x :: r => ((St.bindCell st x).1 :: (St.bindCells (St.bindCell st x).2 r).1, (St.bindCells (St.bindCell st x).2 r).2)
end
def St.bind (st : St) : X → SV × St
  | .t t => (ofT t, st)
  | .nil => (.nil, st)
  | .row e xs => (.row st.n, st.alloc (.row e xs true))
  | .agg cs => (.agg (st.bindCells cs).1, (st.bindCells cs).2)
  | .ref ty cs => (.ptr (st.bindCells cs).2.n 0, (st.bindCells cs).2.alloc (.box ty (st.bindCells cs).1))
  | .sref ty n sz cs => (.sl (st.bindCells cs).2.n n sz, (st.bindCells cs).2.alloc (.box ty (st.bindCells cs).1))
  | .dref cs => (.dptr cs, st)
  | .fn g caps => (.fn g (caps.map SV.dptr), st)
  | .meth g first => (.meth g first, st)
def St.bindAll (st : St) : List X → List SV × St
  | [] => ([], st)
  | x :: r => ((st.bind x).1 :: ((st.bind x).2.bindAll r).1, ((st.bind x).2.bindAll r).2)

/-- A result's cell: a row goes with it. -/
def St.takeCell0 (st : St) : SV → Option (X × St)
  | .row r => match st.o r with
    | .row e xs true => some (.row e xs, st.setO r .dead)
    | .row _ xs false => some (.t (.list xs), st)
    | _ => none
  | .view r lo hi => match st.o r with
    | .row e xs true => if hi ≤ xs.length ∧ lo ≤ hi then some (.row e ((xs.take hi).drop lo), st.setO r .dead) else none
    | .row _ xs false => some (.t (.list ((xs.take hi).drop lo)), st)
    | _ => none
  | .nil => some (.nil, st)
  | .t t => if t.one then some (.t t, st) else none
  | _ => none
def St.takeCells0 (st : St) : List SV → Option (List X × St)
  | [] => some ([], st)
  | v :: r => match st.takeCell0 v with
    | none => none
    | some (x, st) => match st.takeCells0 r with
      | none => none
      | some (xs, st) => some (x :: xs, st)
def St.isBox (st : St) (b : Nat) : Bool := match st.o b with
  | .box _ _ => true
  | _ => false
def takesW (g : St → SV → Option (X × St)) : St → List SV → Option (List X × St)
  | st, [] => some ([], st)
  | st, v :: r => match g st v with
    | none => none
    | some (x, st) => match takesW g st r with
      | none => none
      | some (xs, st) => some (x :: xs, st)
def takeF : Nat → St → SV → Option (X × St)
  | f + 1, st, .sl b n sz => match st.o b with
    | .box ty cells => match takesW (takeF f) st cells with
        | some (xs, st') => if st'.isBox b = true then some (.sref ty n sz xs, st'.setO b .dead) else none
        | none => none
    | _ => none
  | _, st, v => st.takeCell0 v
def St.takeCell (st : St) : SV → Option (X × St)
  | .row r => match st.o r with
    | .row e xs true => some (.row e xs, st.setO r .dead)
    | .row _ xs false => some (.t (.list xs), st)
    | _ => none
  | .view r lo hi => match st.o r with
    | .row e xs true => if hi ≤ xs.length ∧ lo ≤ hi then some (.row e ((xs.take hi).drop lo), st.setO r .dead) else none
    | .row _ xs false => some (.t (.list ((xs.take hi).drop lo)), st)
    | _ => none
  | .nil => some (.nil, st)
  | .t t => if t.one then some (.t t, st) else none
  | .sl b n sz => takeF 6 st (.sl b n sz)
  | _ => none
def St.takeCells (st : St) : List SV → Option (List X × St)
  | [] => some ([], st)
  | v :: r => match st.takeCell v with
    | none => none
    | some (x, st) => match st.takeCells r with
      | none => none
      | some (xs, st) => some (x :: xs, st)
def St.take (st : St) : SV → Option (X × St)
  | .agg cs => match st.takeCells cs with
    | none => none
    | some (xs, st) => some (.agg xs, st)
  | .ptr b 0 => match st.o b with
    | .box ty cells => match st.takeCells0 cells with
      | some (xs, st) => some (.ref ty xs, st.setO b .dead)
      | none => none
    | _ => none
  | v => st.takeCell v
def St.takeAll (st : St) : List SV → Option (List X × St)
  | [] => some ([], st)
  | v :: r => match st.take v with
    | none => none
    | some (x, st) => match st.takeAll r with
      | none => none
      | some (xs, st) => some (x :: xs, st)
/-- What was handed over, as it is at the end: none where it is no more. -/
def St.backOne (st : St) : SV → Option X × St
  | .row r => match st.o r with
    | .row e xs true => (some (.row e xs), st.setO r .dead)
    | _ => (none, st)
  | .nil => (some .nil, st)
  | .ptr b 0 => match st.o b with
    | .box ty cells => match st.takeCells0 cells with
      | some (xs, st) => (some (.ref ty xs), st.setO b .dead)
      | none => (none, st)
    | _ => (none, st)
  | _ => (none, st)
def St.backAll (st : St) : List SV → List (Option X) × St
  | [] => ([], st)
  | v :: r => ((st.backOne v).1 :: ((st.backOne v).2.backAll r).1, ((st.backOne v).2.backAll r).2)
def kill (ids : List Nat) (st : St) : St := ids.foldl (fun st i => st.setO i .dead) st
def freezeAll (ids : List Nat) (st : St) : St := ids.foldl St.freeze st
/-- What was handed over comes back. -/
def St.regain (st st0 : St) : SV → Option X → Option St
  | _, none => some st
  | .row r, some (.row e xs) => match st0.o r with
    | .row e' _ true => if e' = e then some (st.setO r (.row e xs true)) else none
    | _ => none
  | .nil, _ => some st
  | .ptr b 0, some (.ref ty xs) => match st0.o b with
    | .box _ _ => some ((st.bindCells xs).2.setO b (.box ty (st.bindCells xs).1))
    | _ => none
  | _, _ => none
def St.regainAll (st st0 : St) : List SV → List (Option X) → Option St
  | [], [] => some st
  | v :: r, x :: q => match st.regain st0 v x with
    | some st => st.regainAll st0 r q
    | none => none
  | _, _ => none
mutual
def X.flat : X → Bool
  | .t x => x.flat
  | .row _ xs => T.flats xs
  | .agg cs => X.flats cs
  | .ref _ cs => X.flats cs
  | .sref _ _ _ cs => X.flats cs
  | .nil => true
  | _ => false
def X.flats : List X → Bool
  | [] => true
  | x :: r => x.flat && X.flats r
end
mutual
/-- Nothing is laid into a state by it. -/
def X.quiet : X → Bool
  | .t _ | .nil => true
  | .agg cs => X.quiets cs
  | _ => false
def X.quiets : List X → Bool
  | [] => true
  | x :: r => x.quiet && X.quiets r
end
def backFlat : List (Option X) → Bool
  | [] => true
  | some x :: r => x.flat && backFlat r
  | none :: r => backFlat r

/-- What an operation of a strict region touches. -/
inductive Lab where
  | skip | pu | kp | no
  | ld (b off n : Nat)
  | sb (b off n : Nat)
  | cl (ptrs : List Nat)
  | lk (r : Nat)
  | nw (r : Option Nat)
  deriving Inhabited
/-- How a region is gone through: plainly, or with what is to be asked at its end. -/
abbrev Md := Option (List (Nat × Nat) × List Lab)
def pushM (m : Md) (l : Lab) : Md := m.map fun p => (p.1, p.2 ++ [l])
inductive Ex where
  | normal | exit (id : Nat) | ret
  deriving DecidableEq, Inhabited
inductive Task where
  | code (c : Code) (st : St)
  | ops (m : Md) (all : Array Oper) (rest : List Oper) (st : St)
  | call (f : Nat) (args : List X)
inductive Out where
  | st (e : Ex) (st : St)
  | res (rs : List X) (bs : List (Option X))
  deriving Inhabited

def St.resVals (st : St) (E : Env) : List ResultVar → Option (List SV)
  | [] => some []
  | .tmp t :: r => (st.resVals E r).map (st.val (.tmp t) :: ·)
  | .cell a t :: r => match st.loadAt E t (st.val (.tmp a)), st.resVals E r with
    | some v, some vs => some (v :: vs)
    | _, _ => none
/-- The end of a function: its results, and what comes back. -/
def St.finish (st : St) (E : Env) (fl : Bool) (rvs : List ResultVar) (ms : List SV) : Option (List X × List (Option X)) :=
  match st.resVals E rvs with
  | none => none
  | some vs => match st.takeAll vs with
    | none => none
    | some (rs, st) => let bs := (st.backAll ms).1
      if fl = false ∨ (X.flats rs = true ∧ backFlat bs = true ∧ X.quiets rs = true) then some (rs, bs) else none
def tupOf : List SV → SV
  | [v] => v
  | vs => .tup vs
def guardOf (all : Array Oper) (st : St) (o : Oper) : Option Bool :=
  match o.guard with
  | none => some true
  | some (j, want) => match (all[j]?).bind (·.dst) with
    | none => none
    | some d => match st.val (.tmp d) with
      | .t (.bool b) => some (b == want)
      | .tup [] => some false
      | _ => none
def initSt (N : Nat) (vs : List SV) (st : St) : St := { st with s := fun i => vs.getD i .undef, N := N }
def emptySt : St := { s := fun _ => .undef, o := fun _ => .dead, n := 0, N := 0 }
def dstOk (st : St) (o : Oper) : Bool := match o.dst with
  | none => true
  | some d => decide (d < st.N)
def St.mutAll (st : St) (vs : List SV) : List Nat := (vs.map st.mutIds).flatten
def St.roAll (st : St) (vs : List SV) : List Nat := (vs.map st.roIds).flatten
/-- Who is called, with what. -/
def callPrep (E : Env) (st : St) (f : SV) (vs : List SV) : Option (Nat × List X) :=
  match f with
  | .fn g caps =>
    if (st.mutAll (muts (E.md g) (vs ++ caps))).Nodup ∧ (∀ i ∈ st.roAll (ros (E.md g) (vs ++ caps)), i ∉ st.mutAll (muts (E.md g) (vs ++ caps))) then
      (st.give (E.md g) (vs ++ caps)).map fun xs => (g, xs)
    else none
  | .meth g first =>
    if (st.mutAll (muts (E.md g) (first.map ofT ++ vs))).Nodup ∧ (∀ i ∈ st.roAll (ros (E.md g) (first.map ofT ++ vs)), i ∉ st.mutAll (muts (E.md g) (first.map ofT ++ vs))) then
      (st.give (E.md g) (first.map ofT ++ vs)).map fun xs => (g, xs)
    else none
  | _ => none
def St.rowAt (st : St) (i : Nat) : Bool := match st.o i with
  | .row _ _ _ => true
  | _ => false
/-- Do the results surely hold no slice that is another's? (`E.md (g + 1000000)` tells of which functions this is asked.) -/
def ownB (E : Env) (g : Nat) (rs : List X) (bs : List (Option X)) : Bool :=
  if E.flat g = true then true else match E.md (g + 1000000) with
    | [] => false
    | _ :: _ => X.flats rs && backFlat bs
/-- The state behind a call, before anything comes back. -/
def callMid (E : Env) (st : St) (g : Nat) (b : Bool) (vs : List SV) : Option St :=
  match b with
  | true => some (kill (st.mutAll (muts (E.md g) vs)) st)
  | false => if (st.roAll (ros (E.md g) vs)).all (kill (st.mutAll (muts (E.md g) vs)) st).rowAt = true then some (freezeAll (st.roAll (ros (E.md g) vs)) (kill (st.mutAll (muts (E.md g) vs)) st)) else match E.md g, E.md (g + 3000000) with
    | _ :: _, _ :: _ => some (kill (st.roAll (ros (E.md g) vs)) (kill (st.mutAll (muts (E.md g) vs)) st))
    | _, _ => none
/-- Behind a call: the value, and the state. -/
def callBack (E : Env) (st : St) (f : SV) (vs : List SV) (rs : List X) (bs : List (Option X)) : Option (SV × St) :=
  match f with
  | .fn g caps => match callMid E st g (ownB E g rs bs) (vs ++ caps) with
    | none => none
    | some st0 => match st0.regainAll st (muts (E.md g) (vs ++ caps)) bs with
      | none => none
      | some st1 => some (tupOf (st1.bindAll rs).1, (st1.bindAll rs).2)
  | .meth g first => match callMid E st g (ownB E g rs bs) (first.map ofT ++ vs) with
    | none => none
    | some st0 => match st0.regainAll st (muts (E.md g) (first.map ofT ++ vs)) bs with
      | none => none
      | some st1 => some (tupOf (st1.bindAll rs).1, (st1.bindAll rs).2)
  | _ => none
/-- The boxes that are pointed to. -/
def ptrIds : List SV → List Nat
  | [] => []
  | .ptr b _ :: r => b :: ptrIds r
  | _ :: r => ptrIds r
def SV.isSl : SV → Bool
  | .sl _ _ _ => true
  | _ => false
/-- Is a slice of boxes in it? -/
def SV.hasSl : SV → Bool
  | .sl _ _ _ => true
  | .agg cs => cs.any SV.isSl
  | _ => false
def SV.isPtr : SV → Bool
  | .ptr _ _ => true
  | _ => false
def fnMuts (E : Env) (f : SV) (vs : List SV) : List SV := match f with
  | .fn g caps => muts (E.md g) (vs ++ caps)
  | .meth g first => muts (E.md g) (first.map ofT ++ vs)
  | _ => []
/-- Are boxes that were looked at gone behind the call? -/
def fnKill (E : Env) (f : SV) : Bool := match f with
  | .fn g _ => !(E.md (g + 3000000)).isEmpty
  | .meth g _ => !(E.md (g + 3000000)).isEmpty
  | _ => false
/-- An append takes what its base lies in, and makes a new row. -/
def appLab : List SV → Lab
  | [.nil, _] => .nw none
  | [.row r, _] => .nw (some r)
  | _ => .kp
/-- A part of a row is looked for. -/
def lookLab : SV → Lab
  | .row r => .lk r
  | .view r _ _ => .lk r
  | _ => .no
def labOf (E : Env) (st : St) (o : Oper) : Lab := match o.op with
  | .load t a => match st.val a with
    | .ptr b off => .ld b off (E.ty t).size
    | .dptr _ => .pu
    | _ => .no
  | .store _ a x => match st.val a with
    | .ptr b off => .sb b off (st.val x).cells.length
    | _ => .no
  | .indexAddr _ x _ => match st.val x with
    | .t _ => .pu
    | _ => .no
  | .buildSlice _ _ ps => match SV.plains (ps.toList.map fun p => st.val p.2) with
    | some _ => .pu
    | none => .kp
  | .call c => match c.callee with
    | .value f => if ((fnMuts E (st.val f) (c.args.toList.map st.val)).any SV.hasSl || fnKill E (st.val f)) = true then .no else .cl (ptrIds (fnMuts E (st.val f) (c.args.toList.map st.val)))
    | .builtin .append => appLab (c.args.toList.map st.val)
    | _ => .no
  | .slice _ x _ _ _ => lookLab (st.val x)
  | _ => .no
/-- The first stands ahead: may the second pass it? -/
def dynOK : Lab → Lab → Bool
  | .skip, _ => true
  | .pu, _ => true
  | _, .skip => true
  | _, .pu => true
  | .ld _ _ _, .kp => true
  | .ld _ _ _, .nw _ => true
  | .lk _, .nw none => true
  | .lk r, .nw (some q) => decide (r ≠ q)
  | .ld b _ _, .cl l => decide (b ∉ l)
  | .ld b o n, .sb b' o' n' => decide (b ≠ b') || (decide (o + n ≤ o') || decide (o' + n' ≤ o))
  | _, _ => false
def ckOK (ck : List (Nat × Nat)) (ls : List Lab) : Bool := ck.all fun p => dynOK (ls.getD p.1 .no) (ls.getD p.2 .no)
/-- What comes of a call, as plain data. -/
def X.data1 : X → SV
  | .t x => .t x
  | .nil => .nil
  | .row _ xs => .t (.list xs)
  | _ => .undef
def X.shal1 : X → Bool
  | .sref _ _ _ _ => false
  | _ => true
def X.data : X → SV
  | .t x => ofT x
  | .nil => .nil
  | .row _ xs => .t (.list xs)
  | .agg cs => if cs.all X.shal1 = true then .agg (cs.map X.data1) else .undef
  | _ => .undef
def dataBack (E : Env) (st : St) (g : Nat) (as : List SV) (rs : List X) (bs : List (Option X)) : Option (SV × St) :=
  match callMid E st g (E.flat g) as with
  | none => none
  | some st0 => match bs with
    | [] => some (tupOf (rs.map X.data), st0)
    | _ => none
/-- Behind a call of a strict region: results are plain data where nothing is handed over. -/
def callBackS (E : Env) (st : St) (f : SV) (vs : List SV) (rs : List X) (bs : List (Option X)) : Option (SV × St) :=
  match f with
  | .fn g caps => if (E.md g).isEmpty = true then dataBack E st g (vs ++ caps) rs bs else callBack E st f vs rs bs
  | .meth g first => if (E.md g).isEmpty = true then dataBack E st g (first.map ofT ++ vs) rs bs else callBack E st f vs rs bs
  | _ => none
def callBackM (E : Env) (m : Md) (st : St) (f : SV) (vs : List SV) (rs : List X) (bs : List (Option X)) : Option (SV × St) := match m with
  | none => callBack E st f vs rs bs
  | some _ => callBackS E st f vs rs bs
/-- What is built of plain data. -/
def builtS : List T → SV
  | [] => .nil
  | x :: l => .t (.list (x :: l))
/-- In a strict region a slice that is built is plain data. -/
def St.opS (st : St) (E : Env) (op : Op) : Option (SV × St) := match op with
  | .buildSlice t n ps => if isSlice (E.ty t).k = true ∧ (E.ty (E.ty t).elem).known = true ∧ ps.toList.map (·.1) = List.range n ∧ n * (E.ty (E.ty t).elem).size ≤ 16777216 ∧ (ps.toList.map fun p => st.val p.2).all (fun v => v.cells.length == (E.ty (E.ty t).elem).size && v.cells.all SV.one) = true then
      match st.absorbAll (ps.toList.map fun p => st.val p.2) with
      | some (ts, st) => some (builtS ts, st)
      | none => none
    else none
  | op => st.op E op
def St.opM (st : St) (E : Env) (m : Md) (op : Op) : Option (SV × St) := match m with
  | none => st.op E op
  | some _ => st.opS E op
def body (E : Env) (rn : Task → Option Out) (t : Task) : Option Out :=
  match t with
  | .code c st => match c with
    | .skip => some (.st .normal st)
    | .region _ ops draw => match draw with
      | false => rn (.ops none ops ops.toList st)
      | true => match E.draw ops with
        | none => match E.drawS ops with
          | none => none
          | some p => rn (.ops (some (p.1, [])) ops p.2 st)
        | some l => rn (.ops none ops l st)
    | .seq a b => (rn (.code a st)) >>= fun
      | .st .normal st => rn (.code b st)
      | o => some o
    | .cond c a b => match st.val c with
      | .t (.bool x) => if x = true then rn (.code a st) else rn (.code b st)
      | _ => none
    | .block id c => (rn (.code c st)) >>= fun
      | .st (.exit j) st => if j = id then some (.st .normal st) else some (.st (.exit j) st)
      | o => some o
    | .loop c => (rn (.code c st)) >>= fun
      | .st .normal st => rn (.code (.loop c) st)
      | o => some o
    | .exit id => some (.st (.exit id) st)
    | .ret => some (.st .ret st)
    | _ => none
  | .ops m all l st => match l with
    | [] => match m with
      | none => some (.st .normal st)
      | some p => if ckOK p.1 p.2 = true then some (.st .normal st) else none
    | o :: r => if dstOk st o = false then none else match guardOf all st o with
      | none => none
      | some false => rn (.ops (pushM m .skip) all r (st.put o.dst (.tup [])))
      | some true => match o.op with
        | .call { callee := .value f, args, .. } => match callPrep E st (st.val f) (args.toList.map st.val) with
          | none => none
          | some (g, xs) => (rn (.call g xs)) >>= fun
            | .res rs bs => match callBackM E m st (st.val f) (args.toList.map st.val) rs bs with
              | none => none
              | some (v, st') => rn (.ops (pushM m (labOf E st o)) all r (st'.put o.dst v))
            | _ => none
        | op => match st.opM E m op with
          | none => none
          | some (v, st') => rn (.ops (pushM m (labOf E st o)) all r (st'.put o.dst v))
  | .call f args => match E.ext f with
    | some g => (g args).map fun p => .res p.1 p.2
    | none => match E.fn f with
      | none => none
      | some fn => match fn.body with
        | none => none
        | some c =>
          let p := emptySt.bindAll args
          (rn (.code c (initSt fn.ntmps p.1 p.2))) >>= fun
            | .st e st => if (e = .normal ∨ e = .ret) ∧ args.length ≤ fn.ntmps then (st.finish E (E.flat f) fn.results.toList (muts (E.md f) p.1)).map fun p => .res p.1 p.2 else none
            | _ => none
/-- At most so deep. -/
def runN (E : Env) : Nat → Task → Option Out
  | 0, _ => none
  | n + 1, t => body E (runN E n) t
open Classical in
noncomputable def run (E : Env) (t : Task) : Option Out := if h : ∃ n o, runN E n t = some o then some h.choose_spec.choose else none

theorem bind_some' {α β : Type} {o : Option α} {f : α → Option β} {b : β} (h : (o >>= f) = some b) : ∃ a, o = some a ∧ f a = some b := by
  cases o with
  | none => cases h
  | some a => exact ⟨a, rfl, h⟩
theorem body_mono {E : Env} {rn rn' : Task → Option Out} (hm : ∀ t o, rn t = some o → rn' t = some o) {t : Task} {o : Out} (h : body E rn t = some o) : body E rn' t = some o := by
  have two : ∀ {t : Task} {f f' : Out → Option Out}, (∀ a b, f a = some b → f' a = some b) → (rn t >>= f) = some o → (rn' t >>= f') = some o := by
    intro t f f' hf h
    obtain ⟨a, h1, h2⟩ := bind_some' h
    rw [hm _ _ h1]
    exact hf a o h2
  unfold body at h ⊢
  split at h
  · split at h <;> first
      | exact h
      | (split at h
         · exact hm _ _ h
         · split at h
           · split at h
             · cases h
             · exact hm _ _ h
           · exact hm _ _ h)
      | (refine two (fun a b hb => ?_) h
         split at hb
         · exact hm _ _ hb
         · exact hb)
      | (refine two (fun a b hb => ?_) h
         exact hb)
      | (split at h
         · split at h
           · rename_i hx; rw [if_pos hx]; exact hm _ _ h
           · rename_i hx; rw [if_neg hx]; exact hm _ _ h
         · cases h)
  · split at h
    · exact h
    · split at h
      · cases h
      · rename_i hd
        rw [if_neg hd]
        split at h
        · cases h
        · exact hm _ _ h
        · split at h
          · split at h
            · cases h
            · refine two (fun a b hb => ?_) h
              split at hb
              · split at hb
                · cases hb
                · exact hm _ _ hb
              · cases hb
          · split at h
            · cases h
            · exact hm _ _ h
  · split at h
    · exact h
    · split at h
      · cases h
      · split at h
        · cases h
        · exact two (fun a b hb => hb) h
theorem runN_le {E : Env} : ∀ {n : Nat} {t : Task} {o : Out}, runN E n t = some o → ∀ k, runN E (n + k) t = some o
  | 0, t, o, h, k => by cases h
  | n + 1, t, o, h, k => by
    have hk : n + 1 + k = (n + k) + 1 := by omega
    rw [hk]
    exact body_mono (fun t o ht => runN_le ht k) h
theorem runN_of_le {E : Env} {n m : Nat} {t : Task} {o : Out} (h : runN E n t = some o) (hm : n ≤ m) : runN E m t = some o := by
  have := runN_le h (m - n)
  rwa [Nat.add_sub_cancel' hm] at this
theorem run_iff {E : Env} {t : Task} {o : Out} : run E t = some o ↔ ∃ n, runN E n t = some o := by
  unfold run
  constructor
  · intro h
    split at h
    · rename_i hx
      obtain rfl := Option.some.inj h
      exact ⟨_, hx.choose_spec.choose_spec⟩
    · cases h
  · rintro ⟨n, h⟩
    have hx : ∃ n o, runN E n t = some o := ⟨n, o, h⟩
    rw [dif_pos hx]
    have h2 := hx.choose_spec.choose_spec
    have e1 := runN_of_le h (Nat.le_max_left n hx.choose)
    have e2 := runN_of_le h2 (Nat.le_max_right n hx.choose)
    rw [e1] at e2
    rw [Option.some.inj e2]
theorem body_fin {E : Env} {t : Task} {o : Out} (h : body E (run E) t = some o) : ∃ n, body E (runN E n) t = some o := by
  have one : ∀ {t : Task} {o : Out}, run E t = some o → ∃ n, runN E n t = some o := fun h => run_iff.1 h
  have two : ∀ {t : Task} {f : Out → Option Out} {g : (Task → Option Out) → Out → Option Out}, f = g (run E) → (∀ a b, g (run E) a = some b → ∃ n, ∀ m, n ≤ m → g (runN E m) a = some b) → (run E t >>= f) = some o → ∃ n, (runN E n t >>= g (runN E n)) = some o := by
    intro t f g hf hg h
    subst hf
    obtain ⟨a, h1, h2⟩ := bind_some' h
    obtain ⟨n, hn⟩ := one h1
    obtain ⟨m, hm⟩ := hg a o h2
    refine ⟨max n m, ?_⟩
    rw [runN_of_le hn (Nat.le_max_left n m)]
    exact hm _ (Nat.le_max_right n m)
  have lift : ∀ {t : Task} {o : Out}, run E t = some o → ∃ n, ∀ m, n ≤ m → runN E m t = some o := by
    intro t o h
    obtain ⟨n, hn⟩ := one h
    exact ⟨n, fun m hm => runN_of_le hn hm⟩
  unfold body at h
  cases t with
  | code c st =>
    cases c with
    | skip => exact ⟨0, h⟩
    | exit id => exact ⟨0, h⟩
    | ret => exact ⟨0, h⟩
    | region id ops draw =>
      cases draw with
      | false => exact one h
      | true =>
        unfold body
        dsimp only at h ⊢
        cases hd : E.draw ops with
        | none =>
          rw [hd] at h
          dsimp only at h ⊢
          cases hd2 : E.drawS ops with
          | none => rw [hd2] at h; cases h
          | some p => rw [hd2] at h; exact one h
        | some l => rw [hd] at h; exact one h
    | seq a b =>
      exact two (g := fun rn x => match x with
        | .st .normal st => rn (.code b st)
        | o => some o) rfl (fun a b hb => by
          try dsimp only at hb ⊢
          split at hb
          · exact lift hb
          · exact ⟨0, fun m _ => hb⟩) h
    | cond cc a b =>
      unfold body
      dsimp only at h ⊢
      split at h
      · rename_i x hx
        try simp only [hx]
        split at h
        · rename_i hx; simp only [hx, if_true]; exact one h
        · rename_i hx; simp only [hx, if_false]; exact one h
      · cases h
    | block id c =>
      exact two (g := fun rn x => match x with
        | .st (.exit j) st => if j = id then some (.st .normal st) else some (.st (.exit j) st)
        | o => some o) rfl (fun a b hb => ⟨0, fun m _ => hb⟩) h
    | loop c =>
      exact two (g := fun rn x => match x with
        | .st .normal st => rn (.code (.loop c) st)
        | o => some o) rfl (fun a b hb => by
          try dsimp only at hb ⊢
          split at hb
          · exact lift hb
          · exact ⟨0, fun m _ => hb⟩) h
    | _ => cases h
  | ops m all l st =>
    cases l with
    | nil => exact ⟨0, h⟩
    | cons o r =>
      unfold body
      dsimp only at h ⊢
      split at h
      · cases h
      · rename_i hd
        simp only [if_neg hd]
        split at h
        · cases h
        · rename_i hg; try simp only [hg]
          exact one h
        · rename_i hg
          try simp only [hg]
          split at h
          · rename_i f args at' hop
            try simp only [hop]
            split at h
            · cases h
            · rename_i g xs hp
              try simp only [hp]
              exact two (g := fun rn x => match x with
                | .res rs bs => match callBackM E m st (st.val f) (args.toList.map st.val) rs bs with
                  | none => none
                  | some (v, st') => rn (.ops (pushM m (labOf E st o)) all r (st'.put o.dst v))
                | _ => none) rfl (fun a b hb => by
                  try dsimp only at hb ⊢
                  split at hb
                  · split at hb
                    · cases hb
                    · rename_i hcb
                      try simp only [hcb]
                      exact lift hb
                  · cases hb) h
          · rename_i hne
            split at h
            · cases h
            · rename_i v st1 hop
              obtain ⟨n, hn⟩ := one h
              refine ⟨n, ?_⟩
              first
                | exact hn
                | (split
                   · rename_i f args at' hop'
                     exact absurd hop' (hne _ _ _)
                   · first
                       | exact hn
                       | (simp only [hop]; exact hn))
  | call f args =>
    unfold body
    dsimp only at h ⊢
    split at h
    · rename_i g hg; try simp only [hg]
      exact ⟨0, h⟩
    · rename_i hg
      try simp only [hg]
      split at h
      · cases h
      · rename_i fn hf
        try simp only [hf]
        split at h
        · cases h
        · rename_i c hb
          try simp only [hb]
          exact two (g := fun rn x => match x with
            | .st e st => if (e = .normal ∨ e = .ret) ∧ args.length ≤ fn.ntmps then (st.finish E (E.flat f) fn.results.toList (muts (E.md f) (emptySt.bindAll args).1)).map fun p => .res p.1 p.2 else none
            | _ => none) rfl (fun a b hb => ⟨0, fun m _ => hb⟩) h
theorem run_eq (E : Env) (t : Task) : run E t = body E (run E) t := by
  cases h : body E (run E) t with
  | some o =>
    obtain ⟨n, hn⟩ := body_fin h
    exact run_iff.2 ⟨n + 1, hn⟩
  | none =>
    cases h2 : run E t with
    | none => rfl
    | some o =>
      obtain ⟨n, hn⟩ := run_iff.1 h2
      cases n with
      | zero => cases hn
      | succ n =>
        have := body_mono (rn' := run E) (fun t o ht => run_iff.2 ⟨n, ht⟩) hn
        rw [h] at this; cases this
theorem run.partial_correctness (E : Env) (motive : Task → Out → Prop) (h : ∀ rn : Task → Option Out, (∀ t r, rn t = some r → motive t r) → ∀ t r, body E rn t = some r → motive t r) : ∀ t r, run E t = some r → motive t r := by
  have key : ∀ n t r, runN E n t = some r → motive t r := by
    intro n
    induction n with
    | zero => intro t r hr; cases hr
    | succ n ih => exact fun t r hr => h _ ih t r hr
  intro t r hr
  obtain ⟨n, hn⟩ := run_iff.1 hr
  exact key n t r hn

/-- The blocks of w but those in S are in w' as they were. -/
structure Same (w w' : World) (S : Nat → Prop) : Prop where
  size : w.heap.size ≤ w'.heap.size
  blk : ∀ k, k < w.heap.size → ¬ S k → w'.heap[k]? = w.heap[k]?
  tape : w'.tape = w.tape
  os : w'.os = w.os
  out : w'.output = w.output
theorem Same.refl (w : World) (S : Nat → Prop) : Same w w S := ⟨Nat.le_refl _, fun _ _ _ => rfl, rfl, rfl, rfl⟩
theorem Same.trans {w w1 w2 : World} {S S' : Nat → Prop} (h : Same w w1 S) (k : Same w1 w2 S') (hs : ∀ i, i < w.heap.size → S' i → S i) : Same w w2 S :=
  ⟨Nat.le_trans h.size k.size, fun i hi hS => (k.blk i (Nat.lt_of_lt_of_le hi h.size) (fun h' => hS (hs i hi h'))).trans (h.blk i hi hS), k.tape.trans h.tape, k.os.trans h.os, k.out.trans h.out⟩
theorem Same.mono {w w1 : World} {S S' : Nat → Prop} (h : Same w w1 S) (hs : ∀ i, i < w.heap.size → S i → S' i) : Same w w1 S' :=
  ⟨h.size, fun i hi hS => h.blk i hi (fun h' => hS (hs i hi h')), h.tape, h.os, h.out⟩

theorem cell_same {w w' : World} {g o : Nat} (h : w'.heap[g]? = w.heap[g]?) : w'.cell? ⟨g, o, none⟩ = w.cell? ⟨g, o, none⟩ := by
  simp only [World.cell?, h]

/-- Data that is read in the blocks F. -/
inductive RD (F : Nat → Prop) (w : World) : T → Value → Prop
  | int (k : IntKind) (n : Int) : RD F w (.int k n) (.int k n)
  | bool (b : Bool) : RD F w (.bool b) (.bool b)
  | str (s : List UInt8) : RD F w (.str s) (.string ⟨⟨s⟩⟩)
  | agg (cs : List T) (vs : Array Value) (hl : cs.length = vs.size) (h1 : ∀ y ∈ cs, y.one = true) (h : ∀ (i : Nat) c v, cs[i]? = some c → vs[i]? = some v → RD F w c v) : RD F w (.agg cs) (.agg vs)
  | list (xs : List T) (A : Option Addr) (c sz : Nat) (cell : Nat → Nat → Value) (hc : xs.length ≤ c) (hm : c ≤ maxLen) (hz : 0 < sz)
      (hw : ∀ x ∈ xs, x.cells.length = sz) (h1 : ∀ x ∈ xs, ∀ y ∈ x.cells, y.one = true)
      (ha : xs ≠ [] → ∃ g o, A = some ⟨g, o, none⟩ ∧ F g ∧ ∀ j i : Nat, j < xs.length → i < sz → w.cell? ⟨g, o + (j * sz + i), none⟩ = some (cell j i))
      (h : ∀ (j : Nat) x (i : Nat) y, xs[j]? = some x → x.cells[i]? = some y → RD F w y (cell j i)) : RD F w (.list xs) (.slice A xs.length c)

theorem RD.mono {F F' : Nat → Prop} {w w' : World} {t : T} {v : Value} (h : RD F w t v) (hF : ∀ k, F k → F' k) (hw : ∀ k, F k → w'.heap[k]? = w.heap[k]?) : RD F' w' t v := by
  induction h with
  | int k n => exact .int k n
  | bool b => exact .bool b
  | str s => exact .str s
  | agg cs vs hl h1 _ ih => exact .agg cs vs hl h1 (fun i c v hc hv => ih i c v hc hv)
  | list xs A c sz cell hc hm hz hwd h1 ha _ ih =>
    refine .list xs A c sz cell hc hm hz hwd h1 (fun hx => ?_) (fun j x i y hx hy => ih j x i y hx hy)
    obtain ⟨g, o, rfl, hg, hcell⟩ := ha hx
    exact ⟨g, o, rfl, hF g hg, fun j i hj hi => (cell_same (hw g hg)).trans (hcell j i hj hi)⟩

def oneV : Value → Bool
  | .agg _ | .tuple _ => false
  | _ => true
theorem RD.one {F : Nat → Prop} {w : World} {t : T} {v : Value} (h : RD F w t v) (ho : t.one = true) : oneV v = true := by
  cases h <;> first | rfl | (simp [T.one] at ho)
theorem oneV_cells {v : Value} (h : oneV v = true) : v.cells = #[v] := by
  cases v <;> first | rfl | (simp [oneV] at h)
theorem RD.flat {F F' : Nat → Prop} {w w' : World} {t : T} {v : Value} (h : RD F w t v) (hf : t.flat = true) : RD F' w' t v := by
  induction h with
  | int k n => exact .int k n
  | bool b => exact .bool b
  | str s => exact .str s
  | agg cs vs hl h1 _ ih =>
    refine .agg cs vs hl h1 (fun i c v hc hv => ih i c v hc hv ?_)
    have : ∀ (l : List T), T.flats l = true → ∀ x ∈ l, x.flat = true := by
      intro l
      induction l with
      | nil => intro _ x hx; cases hx
      | cons a r ihl =>
        intro hl x hx
        simp only [T.flats, Bool.and_eq_true] at hl
        rcases List.mem_cons.1 hx with rfl | hx
        · exact hl.1
        · exact ihl hl.2 x hx
    exact this cs (by simpa [T.flat] using hf) c (List.mem_of_getElem? hc)
  | list => simp [T.flat] at hf

structure Ctx where
  n : Nat
  loc : Nat → Nat
  val : Nat → Value
  sz : Nat → Nat
  F : Nat → Prop
  F0 : Nat → Prop

inductive Rel (c : Ctx) (w : World) : SV → Value → Prop
  | undef (v : Value) : Rel c w .undef v
  | t {t : T} {v : Value} (h : RD c.F w t v) : Rel c w (.t t) v
  | nil (A : Option Addr) : Rel c w .nil (.slice A 0 0)
  | row (r : Nat) (h : r < c.n) : Rel c w (.row r) (c.val r)
  | view (r lo hi : Nat) (A B : Option Addr) (n k : Nat) (h : r < c.n) (hv : c.val r = .slice A n k) (h1 : lo ≤ hi) (h2 : hi ≤ n) (h3 : n ≤ k)
      (hB : lo < k → B = A.map (fun a => a.add (lo * c.sz r))) : Rel c w (.view r lo hi) (.slice B (hi - lo) (k - lo))
  | ptr (b off : Nat) (h : b < c.n) : Rel c w (.ptr b off) (.pointer (some ⟨c.loc b, off, none⟩))
  | eptr (r i off g o n k : Nat) (h : r < c.n) (hv : c.val r = .slice (some ⟨g, o, none⟩) n k) (hi : i < n) : Rel c w (.eptr r i off) (.pointer (some ⟨g, o + (i * c.sz r + off), none⟩))
  | dptr (cs : List T) (g o : Nat) (cell : Nat → Value) (hg : c.F g) (h1 : ∀ y ∈ cs, y.one = true)
      (hc : ∀ i, i < cs.length → w.cell? ⟨g, o + i, none⟩ = some (cell i)) (h : ∀ (i : Nat) y, cs[i]? = some y → RD c.F w y (cell i)) : Rel c w (.dptr cs) (.pointer (some ⟨g, o, none⟩))
  | agg (cs : List SV) (vs : Array Value) (hl : cs.length = vs.size) (h1 : ∀ y ∈ cs, y.one = true) (h : ∀ (i : Nat) s v, cs[i]? = some s → vs[i]? = some v → Rel c w s v) : Rel c w (.agg cs) (.agg vs)
  | tup (cs : List SV) (vs : Array Value) (hl : cs.length = vs.size) (h : ∀ (i : Nat) s v, cs[i]? = some s → vs[i]? = some v → Rel c w s v) : Rel c w (.tup cs) (.tuple vs)
  | fn (g : Nat) (cs : List SV) (vs : Array Value) (hl : cs.length = vs.size) (h : ∀ (i : Nat) s v, cs[i]? = some s → vs[i]? = some v → Rel c w s v) : Rel c w (.fn g cs) (.func (.func g) #[] vs)
  | meth (g : Nat) (ts : List T) (vs : Array Value) (hl : ts.length = vs.size) (h : ∀ (i : Nat) t v, ts[i]? = some t → vs[i]? = some v → RD c.F w t v) : Rel c w (.meth g ts) (.func (.func g) vs #[])
  | glob (g : Nat) : Rel c w (.glob g) (.pointer (some ⟨g, 0, none⟩))
  | sl (b n sz : Nat) (h : b < c.n) (hm : n ≤ maxLen) : Rel c w (.sl b n sz) (.slice (some ⟨c.loc b, 0, none⟩) n n)

/-- A later context says the same of the elder objects. -/
structure Ctx.Le (c c' : Ctx) : Prop where
  n : c.n ≤ c'.n
  loc : ∀ i, i < c.n → c'.loc i = c.loc i
  val : ∀ i, i < c.n → c'.val i = c.val i
  sz : ∀ i, i < c.n → c'.sz i = c.sz i
  F : ∀ k, c.F k → c'.F k
  F0 : ∀ k, c'.F0 k → c.F0 k
theorem Ctx.Le.refl (c : Ctx) : c.Le c := ⟨Nat.le_refl _, fun _ _ => rfl, fun _ _ => rfl, fun _ _ => rfl, fun _ h => h, fun _ h => h⟩
theorem Ctx.Le.trans {c c1 c2 : Ctx} (h : c.Le c1) (k : c1.Le c2) : c.Le c2 :=
  ⟨Nat.le_trans h.n k.n, fun i hi => (k.loc i (Nat.lt_of_lt_of_le hi h.n)).trans (h.loc i hi), fun i hi => (k.val i (Nat.lt_of_lt_of_le hi h.n)).trans (h.val i hi),
    fun i hi => (k.sz i (Nat.lt_of_lt_of_le hi h.n)).trans (h.sz i hi), fun i hi => k.F i (h.F i hi), fun i hi => h.F0 i (k.F0 i hi)⟩

theorem Rel.mono {c c' : Ctx} {w w' : World} {s : SV} {v : Value} (h : Rel c w s v) (hc : c.Le c') (hw : ∀ k, c.F k → w'.heap[k]? = w.heap[k]?) : Rel c' w' s v := by
  induction h with
  | undef v => exact .undef v
  | t h => exact .t (h.mono hc.F hw)
  | nil A => exact .nil A
  | row r h => rw [← hc.val r h]; exact .row r (Nat.lt_of_lt_of_le h hc.n)
  | view r lo hi A B n k h hv h1 h2 h3 hB => exact .view r lo hi A B n k (Nat.lt_of_lt_of_le h hc.n) ((hc.val r h).trans hv) h1 h2 h3 (by rw [hc.sz r h]; exact hB)
  | ptr b off h => rw [← hc.loc b h]; exact .ptr b off (Nat.lt_of_lt_of_le h hc.n)
  | eptr r i off g o n k h hv hi => rw [← hc.sz r h]; exact .eptr r i off g o n k (Nat.lt_of_lt_of_le h hc.n) ((hc.val r h).trans hv) hi
  | dptr cs g o cell hg h1 hcl h => exact .dptr cs g o cell (hc.F g hg) h1 (fun i hi => (cell_same (hw g hg)).trans (hcl i hi)) (fun i y hy => (h i y hy).mono hc.F hw)
  | agg cs vs hl h1 _ ih => exact .agg cs vs hl h1 ih
  | tup cs vs hl _ ih => exact .tup cs vs hl ih
  | fn g cs vs hl _ ih => exact .fn g cs vs hl ih
  | meth g ts vs hl h => exact .meth g ts vs hl (fun i t v hs hv => (h i t v hs hv).mono hc.F hw)
  | glob g => exact .glob g
  | sl b n sz h hm => rw [← hc.loc b h]; exact .sl b n sz (Nat.lt_of_lt_of_le h hc.n) hm
theorem Rel.one {c : Ctx} {w : World} {s : SV} {v : Value} (h : Rel c w s v) (ho : s.one = true) (hv : ∀ r, s = .row r → oneV (c.val r) = true) : oneV v = true := by
  cases h with
  | undef => simp [SV.one] at ho
  | t h => exact h.one (by simpa [SV.one] using ho)
  | row r _ => exact hv r rfl
  | agg => simp [SV.one] at ho
  | tup => simp [SV.one] at ho
  | _ => rfl

/-- Does the object own its block? -/
def Owns (c : Ctx) (i : Nat) : Ob → Prop
  | .box _ _ => True
  | .row _ _ true => ∃ A n k, c.val i = .slice A n k ∧ k ≠ 0
  | _ => False

/-- What is said of an object. -/
def ObOK (E : Env) (c : Ctx) (w : World) (i : Nat) : Ob → Prop
  | .dead => True
  | .box ty cells => ∃ vs : Array Value, w.heap[c.loc i]? = some (.cells vs ty (0, 0)) ∧ vs.size = cells.length ∧ (∀ s ∈ cells, s.one = true) ∧
      ∀ (j : Nat) s v, cells[j]? = some s → vs[j]? = some v → Rel c w s v
  | .row e xs live => c.sz i = (E.ty e).size ∧ 0 < c.sz i ∧ (∃ A k, c.val i = .slice A xs.length k ∧ xs.length ≤ k ∧ k ≤ maxLen) ∧ (∀ x ∈ xs, x.cells.length = c.sz i) ∧ (∀ x ∈ xs, ∀ y ∈ x.cells, y.one = true) ∧
      match live with
      | false => RD c.F w (.list xs) (c.val i)
      | true => ∀ A n k, c.val i = .slice A n k → k ≠ 0 → ∃ (o : Nat) (vs : Array Value) (lo hi : Nat), A = some ⟨c.loc i, o, none⟩ ∧ w.heap[c.loc i]? = some (.cells vs e (lo, hi)) ∧ o + k * c.sz i ≤ vs.size ∧
          (∀ j, o ≤ j → j < o + k * c.sz i → ¬ (lo ≤ j ∧ j < hi)) ∧ ∀ (j : Nat) x (t : Nat) y, xs[j]? = some x → x.cells[t]? = some y → ∃ v, vs[o + (j * c.sz i + t)]? = some v ∧ RD c.F w y v

theorem Owns.mono {c c' : Ctx} {i : Nat} {ob : Ob} (h : Owns c' i ob) (hc : c.Le c') (hi : i < c.n) : Owns c i ob := by
  unfold Owns at *
  split at h
  · trivial
  · rw [hc.val i hi] at h; exact h
  · exact h
theorem Owns.up {c c' : Ctx} {i : Nat} {ob : Ob} (h : Owns c i ob) (hc : c.Le c') (hi : i < c.n) : Owns c' i ob := by
  unfold Owns at *
  split at h
  · trivial
  · rw [hc.val i hi]; exact h
  · exact h
theorem ObOK.mono {E : Env} {c c' : Ctx} {w w' : World} {i : Nat} {ob : Ob} (h : ObOK E c w i ob) (hc : c.Le c') (hi : i < c.n) (hw : ∀ k, c.F k → w'.heap[k]? = w.heap[k]?)
    (hb : Owns c i ob → w'.heap[c.loc i]? = w.heap[c.loc i]?) : ObOK E c' w' i ob := by
  cases ob with
  | dead => trivial
  | box ty cells =>
    obtain ⟨vs, h1, h2, h3, h4⟩ := h
    exact ⟨vs, by rw [hc.loc i hi, hb trivial]; exact h1, h2, h3, fun j s v hs hv => (h4 j s v hs hv).mono hc hw⟩
  | row e xs live =>
    obtain ⟨h1, h2, h3, h4, h5, h6⟩ := h
    refine ⟨by rw [hc.sz i hi]; exact h1, by rw [hc.sz i hi]; exact h2, by rw [hc.val i hi]; exact h3, by rw [hc.sz i hi]; exact h4, h5, ?_⟩
    cases live with
    | false => rw [hc.val i hi]; exact h6.mono hc.F hw
    | true =>
      intro A n k hv hk
      rw [hc.val i hi] at hv
      obtain ⟨o, vs, lo, hi', e1, e2, e3, e4, e5⟩ := h6 A n k hv hk
      refine ⟨o, vs, lo, hi', by rw [hc.loc i hi]; exact e1, by rw [hc.loc i hi, hb ⟨A, n, k, hv, hk⟩]; exact e2, by rw [hc.sz i hi]; exact e3, by rw [hc.sz i hi]; exact e4, fun j x t y hx hy => ?_⟩
      rw [hc.sz i hi]
      obtain ⟨v, hv1, hv2⟩ := e5 j x t y hx hy
      exact ⟨v, hv1, hv2.mono hc.F hw⟩

/-- The whole: a state of the evaluator and a world in which a body stands; M0: the blocks that were handed over. -/
structure Inv (E : Env) (M0 : Nat → Prop) (w0 : World) (c : Ctx) (st : St) (w : World) : Prop where
  n : c.n = st.n
  obs : ∀ i, i < st.n → ObOK E c w i (st.o i)
  dead : ∀ i, st.n ≤ i → st.o i = .dead
  inj : ∀ i j, i < st.n → j < st.n → Owns c i (st.o i) → Owns c j (st.o j) → c.loc i = c.loc j → i = j
  own : ∀ i, i < st.n → Owns c i (st.o i) → c.loc i < w.heap.size ∧ ¬ c.F (c.loc i) ∧ (M0 (c.loc i) ∨ w0.heap.size ≤ c.loc i)
  F : ∀ k, c.F k → k < w.heap.size
  one : ∀ i, i < st.n → oneV (c.val i) = true
  same : Same w0 w M0
  bnd : ∀ k, c.F k → c.F0 k ∨ M0 k ∨ w0.heap.size ≤ k
/-- What lies in a table's cell. -/
def vOf : T → Value
  | .int k n => .int k n
  | .bool b => .bool b
  | .str s => .string ⟨⟨s⟩⟩
  | _ => undef
/-- The tables of the package are laid. -/
def Laid (E : Env) (F : Nat → Prop) (w : World) : Prop := ∀ g, E.glob g ≠ [] → F g ∧ ∃ a b, w.heap[g]? = some (.cells ((E.glob g).map vOf).toArray a b)
def Laid0 (E : Env) (M0 F : Nat → Prop) (w0 : World) : Prop := ∀ g, E.glob g ≠ [] → F g ∧ ¬ M0 g ∧ ∃ a b, w0.heap[g]? = some (.cells ((E.glob g).map vOf).toArray a b)
theorem Laid.mono {E : Env} {F F' : Nat → Prop} {w : World} (h : Laid E F w) (hF : ∀ k, F k → F' k) : Laid E F' w := fun g hg => ⟨hF g (h g hg).1, (h g hg).2⟩
theorem Laid0.mono {E : Env} {M0 F F' : Nat → Prop} {w : World} (h : Laid0 E M0 F w) (hF : ∀ k, F k → F' k) : Laid0 E M0 F' w := fun g hg => ⟨hF g (h g hg).1, (h g hg).2⟩
theorem Inv.laid {E : Env} {M0 : Nat → Prop} {w0 : World} {c : Ctx} {st : St} {w : World} (h : Inv E M0 w0 c st w) (hL : Laid0 E M0 c.F w0) : Laid E c.F w := by
  intro g hg
  obtain ⟨h1, h2, a, b, h3⟩ := hL g hg
  refine ⟨h1, a, b, ?_⟩
  have hlt : g < w0.heap.size := by
    rcases Nat.lt_or_ge g w0.heap.size with h | h
    · exact h
    · rw [Array.getElem?_eq_none h] at h3; cases h3
  rw [h.same.blk g hlt h2]
  exact h3
theorem vOf_RD {F : Nat → Prop} {w : World} {y : T} (h1 : y.one = true) (h2 : y.flat = true) : RD F w y (vOf y) := by
  cases y with
  | int k n => exact .int k n
  | bool b => exact .bool b
  | str s => exact .str s
  | list xs => simp [T.flat] at h2
  | agg cs => simp [T.one] at h1
structure InvA (c : Ctx) (st : St) (a : Act) (w : World) : Prop where
  size : a.tmps.size = st.N
  dfr : a.defers = []
  slots : ∀ i, i < st.N → Rel c w (st.s i) (a.tmps.getD i undef)

theorem InvA.mono {c c' : Ctx} {st st' : St} {a : Act} {w w' : World} (h : InvA c st a w) (hc : c.Le c') (hw : ∀ k, c.F k → w'.heap[k]? = w.heap[k]?) (hs : st'.s = st.s) (hN : st'.N = st.N) : InvA c' st' a w' :=
  ⟨by rw [hN]; exact h.size, h.dfr, fun i hi => by rw [hs]; exact (h.slots i (by rw [hN] at hi; exact hi)).mono hc hw⟩
theorem InvA.put {c : Ctx} {st : St} {a : Act} {w : World} (h : InvA c st a w) {d : Option Nat} {s : SV} {v : Value} (hr : Rel c w s v) : InvA c (st.put d s) (a.put d v) w := by
  cases d with
  | none => exact h
  | some d =>
    refine ⟨by simp [Act.put, St.put, h.size], h.dfr, fun i hi => ?_⟩
    have hi' : i < st.N := hi
    simp only [St.put, upd, Act.put]
    by_cases hid : i = d
    · subst hid
      rw [if_pos rfl]
      have : (a.tmps.setIfInBounds i v).getD i undef = v := by
        simp [Array.getD, h.size, hi']
      rw [this]
      exact hr
    · rw [if_neg hid]
      have : (a.tmps.setIfInBounds d v).getD i undef = a.tmps.getD i undef := by
        simp only [Array.getD_eq_getD_getElem?, Array.getElem?_setIfInBounds]
        rw [if_neg (fun e => hid e.symm)]
      rw [this]
      exact h.slots i hi'

/-- The context with one object more. -/
def Ctx.push (c : Ctx) (l : Nat) (v : Value) (z : Nat) : Ctx := { c with n := c.n + 1, loc := upd c.loc c.n l, val := upd c.val c.n v, sz := upd c.sz c.n z }
theorem Ctx.le_push (c : Ctx) (l : Nat) (v : Value) (z : Nat) : c.Le (c.push l v z) :=
  ⟨Nat.le_succ _, fun i hi => upd_ne _ _ (by omega), fun i hi => upd_ne _ _ (by omega), fun i hi => upd_ne _ _ (by omega), fun _ h => h, fun _ h => h⟩


structure TyOK (P : Program) (t : Nat) (i : TI) : Prop where
  und : match i.k with
    | .int k => P.underlying t = some (.int k)
    | .bool => P.underlying t = some .bool
    | .str => P.underlying t = some .string
    | .slice => P.underlying t = some (.slice i.elem)
    | .struct => ∃ fs, P.underlying t = some (.struct fs) ∧ fs.size = i.fields.length ∧ ∀ (j o ft : Nat), i.fields[j]? = some (o, ft) → ∃ f, fs[j]? = some f ∧ f.offset = o ∧ f.type = ft
    | .flat => ∃ d, P.underlying t = some d ∧ (match d with | .struct _ | .array _ _ => False | _ => True)
    | .other => True
  info : i.k ≠ .other → ∃ q z, P.info? t = some q ∧ q.size = i.size ∧ q.bytes = i.bytes ∧ q.zero = some z ∧ z.cells.size = i.zero.length ∧ i.zero.length = i.size ∧ 0 < i.size ∧
    (∀ (j : Nat) s v, i.zero[j]? = some s → z.cells[j]? = some v → s = ofConst v ∧ s.one = true) ∧ (match z with | .agg _ => i.agg = true | _ => i.agg = false) ∧ (i.agg = false → i.size = 1)
structure POK (E : Env) (P : Program) : Prop where
  ty : ∀ t, TyOK P t (E.ty t)
  fn : ∀ f, E.fn f = P.funcs[f]?
  eqT : ∀ t, E.eqT t ≠ [] → ∀ (x y : Operand) (F : Nat → Prop) (w : World) (xs ys : List T) (vs us : Array Value) (b : Bool), RD F w (.agg xs) (.agg vs) → RD F w (.agg ys) (.agg us) → kindsOK (E.eqT t) xs = true → kindsOK (E.eqT t) ys = true → eqCells xs ys = some b →
    ((do eqGuard .eql t x y (.agg vs) (.agg us); binOp .eql t (.agg vs) (.agg us)) : Sem Value).run P w = .ok (.bool b) w ∧
    ((do eqGuard .neq t x y (.agg vs) (.agg us); binOp .neq t (.agg vs) (.agg us)) : Sem Value).run P w = .ok (.bool (!b)) w
  arr : ∀ t n e, E.arr t = some (n, e) → P.underlying t = some (.array n e) ∧ ∃ q, P.info? e = some q ∧ q.size = 1

section
variable {P : Program} {w : World} {t : TypeId}
theorem und_run {d : TypeDesc} (h : P.underlying t = some d) : (underlying t).run P w = .ok d w := by simp [underlying, h]
theorem info_run {q : TypeInfo} (h : P.info? t = some q) : (typeInfo t).run P w = .ok q w := by simp [typeInfo, h]
theorem size_run {q : TypeInfo} (h : P.info? t = some q) : (Go.sizeOf t).run P w = .ok q.size w := by simp [Go.sizeOf, info_run h]
theorem zero_run {q : TypeInfo} {z : Value} (h : P.info? t = some q) (hz : q.zero = some z) : (zeroValue t).run P w = .ok z w := by simp [zeroValue, info_run h, hz]
theorem TyOK.agg_run {i : TI} (h : TyOK P t i) (ho : i.k ≠ .other) : (isAgg t).run P w = .ok i.agg w := by
  have hu := h.und
  unfold TI.agg
  cases hk : i.k with
  | int k => rw [hk] at hu; simp [isAgg, und_run hu]
  | bool => rw [hk] at hu; simp [isAgg, und_run hu]
  | str => rw [hk] at hu; simp [isAgg, und_run hu]
  | slice => rw [hk] at hu; simp [isAgg, und_run hu]
  | struct => rw [hk] at hu; obtain ⟨fs, hu, _, _⟩ := hu; simp [isAgg, und_run hu]
  | flat =>
    rw [hk] at hu
    obtain ⟨d, hu, hd⟩ := hu
    simp only [isAgg, Sem.run_bind, und_run hu, Result.andThen_ok]
    split <;> first | (exact hd.elim) | rfl
  | other => exact absurd hk ho
theorem TyOK.size_run {i : TI} (h : TyOK P t i) (ho : i.k ≠ .other) : (Go.sizeOf t).run P w = .ok i.size w := by
  obtain ⟨q, z, hq, hs, _⟩ := h.info ho
  rw [Ev.size_run hq, hs]
end

theorem ofConst_rel (c : Ctx) (w : World) (v : Value) : Rel c w (ofConst v) v := by
  cases v with
  | int k n => exact .t (.int k n)
  | bool b => exact .t (.bool b)
  | string s =>
    obtain ⟨⟨l⟩⟩ := s
    exact .t (.str l)
  | slice a len cap =>
    cases a with
    | some a => exact .undef _
    | none =>
      cases len with
      | succ n => exact .undef _
      | zero =>
        cases cap with
        | succ n => exact .undef _
        | zero => exact .nil none
  | _ => exact .undef _
theorem val_rel {c : Ctx} {st : St} {a : Act} {w : World} (h : InvA c st a w) (x : Operand) : Rel c w (st.val x) (a.eval x) := by
  cases x with
  | tmp i =>
    simp only [St.val, Act.eval]
    split
    · rename_i hi; exact h.slots i hi
    · exact .undef _
  | const v => exact ofConst_rel c w v
  | global g => exact .glob g
  | func f => exact .fn f [] #[] rfl (fun i s v hs => by simp at hs)

section inv
variable {c : Ctx} {w : World} {v : Value}
theorem Rel.int {k : IntKind} {n : Int} (h : Rel c w (.t (.int k n)) v) : v = .int k n := by cases h; rename_i h; cases h; rfl
theorem Rel.bool {b : Bool} (h : Rel c w (.t (.bool b)) v) : v = .bool b := by cases h; rename_i h; cases h; rfl
theorem Rel.str {s : List UInt8} (h : Rel c w (.t (.str s)) v) : v = .string ⟨⟨s⟩⟩ := by cases h; rename_i h; cases h; rfl
theorem Rel.asNat {s : SV} {n : Nat} (h : Rel c w s v) (hn : asNat s = some n) : ∃ k, v = .int k (n : Int) := by
  unfold Ev.asNat at hn
  split at hn
  · split at hn
    · rename_i k m h0
      obtain rfl : m.toNat = n := by simpa using hn
      refine ⟨k, ?_⟩
      rw [h.int]
      congr 1
      omega
    · cases hn
  · cases hn
end inv

/-- What a step leaves. -/
structure Step (E : Env) (M0 : Nat → Prop) (w0 : World) (c : Ctx) (st : St) (w : World) (s : SV) (st' : St) (c' : Ctx) (x : Value) (w' : World) : Prop where
  le : c.Le c'
  inv : Inv E M0 w0 c' st' w'
  keep : ∀ k, c.F k → w'.heap[k]? = w.heap[k]?
  hs : st'.s = st.s
  hN : st'.N = st.N
  rel : Rel c' w' s x
theorem Step.pure {E : Env} {M0 : Nat → Prop} {w0 : World} {c : Ctx} {st : St} {w : World} {s : SV} {x : Value} (h : Inv E M0 w0 c st w) (hr : Rel c w s x) : Step E M0 w0 c st w s st c x w :=
  ⟨Ctx.Le.refl c, h, fun _ _ => rfl, rfl, rfl, hr⟩

section ops
variable {E : Env} {P : Program} {M0 : Nat → Prop} {w0 : World} {c : Ctx} {st st' : St} {a : Act} {w : World} {s : SV}

theorem toList_mk (l : List UInt8) : (ByteArray.mk (Array.mk l)).toList = l := ByteArray.toList_eq _
theorem binI_run {op : BinOp} {k : IntKind} {x y : Int} {t : T} (h : binI op k x y = some t) (xt : TypeId) : ∃ v, (binOp op xt (.int k x) (.int k y)).run P w = .ok v w ∧ RD c.F w t v := by
  cases op <;> simp only [binI] at h <;> first
    | (cases h; done)
    | (obtain rfl := Option.some.inj h
       refine ⟨_, ?_, by constructor⟩
       simp [binOp, Op.intArith, Op.intBits, Op.intCmp])
    | (split at h
       · cases h
       · rename_i hy
         obtain rfl := Option.some.inj h
         refine ⟨_, ?_, by constructor⟩
         simp [binOp, Op.intDiv, hy])
theorem shiftI_run {op : BinOp} {k k' : IntKind} {x y : Int} {t : T} (h : shiftI op k x y = some t) (xt : TypeId) : ∃ v, (binOp op xt (.int k x) (.int k' y)).run P w = .ok v w ∧ RD c.F w t v := by
  cases op <;> simp only [shiftI] at h <;> first
    | (cases h; done)
    | (split at h
       · cases h
       · rename_i hy
         obtain rfl := Option.some.inj h
         refine ⟨_, ?_, by constructor⟩
         simp [binOp, Op.shift, hy])
theorem binS_run {op : BinOp} {x y : List UInt8} {t : T} (h : binS op x y = some t) (xt : TypeId) : ∃ v, (binOp op xt (.string ⟨⟨x⟩⟩) (.string ⟨⟨y⟩⟩)).run P w = .ok v w ∧ RD c.F w t v := by
  cases op <;> simp only [binS] at h <;> first
    | (cases h; done)
    | (obtain rfl := Option.some.inj h
       refine ⟨_, ?_, by constructor⟩
       simp [binOp, Op.stringOp, toList_mk])
    | (split at h
       · rename_i hl
         obtain rfl := Option.some.inj h
         refine ⟨.string ⟨⟨x ++ y⟩⟩, ?_, .str _⟩
         have h1 : (binOp .add xt (.string ⟨⟨x⟩⟩) (.string ⟨⟨y⟩⟩)).run P w = (Op.stringOp .add ⟨⟨x⟩⟩ ⟨⟨y⟩⟩).run P w := rfl
         rw [h1, run_string_add_sum w _ _ (by show x.length + y.length ≤ _; omega)]
         have := ByteArray.mk_append_mk x y
         simp only [List.toArray] at this
         rw [this]
       · cases h)
theorem guard_plain {op : BinOp} {t : TypeId} {x y : Operand} {u v : Value} (h1 : u ≠ .nilIface) (h2 : ∀ cs, u ≠ .agg cs) : (eqGuard op t x y u v).run P w = .ok () w := by
  cases u <;> first
    | (exact absurd rfl h1)
    | (exact absurd rfl (h2 _))
    | (unfold eqGuard; cases op <;> rfl)
theorem equal_bool {t : TypeId} {x y : Bool} (h : P.underlying t = some .bool) : (Op.equal t (.bool x) (.bool y)).run P w = .ok (x == y) w := by
  show (Op.equalIn (9999 + 1) t (.bool x) (.bool y)).run P w = _
  generalize 9999 = d
  simp only [Op.equalIn, Sem.run_bind, und_run h, Result.andThen_ok]
  rfl
theorem bin_run (hP : POK E P) {op : BinOp} {t : Nat} {x y : SV} {u v : Value} {r : T} {ox oy : Operand} (hI : Inv E M0 w0 c st w) (hx : Rel c w x u) (hy : Rel c w y v) (h : st.bin E.eqT (fun t => (E.ty t).k) op t x y = some r)
    (hpk : ∀ l ts vs, st.peekL l = some ts → Rel c w (.agg l) (.agg vs) → ∃ F, RD F w (.agg ts) (.agg vs)) : ∃ z, ((do eqGuard op t ox oy u v; binOp op t u v) : Sem Value).run P w = .ok z w ∧ RD c.F w r z := by
  unfold St.bin at h
  split at h
  · rename_i k x k' y
    obtain rfl := hx.int
    obtain rfl := hy.int
    have hg : (eqGuard op t ox oy (.int k x) (.int k' y)).run P w = .ok () w := guard_plain (by simp) (by simp)
    split at h
    · obtain ⟨z, h1, h2⟩ := shiftI_run (c := c) (k' := k') (P := P) (w := w) h t
      exact ⟨z, by simp [hg, h1], h2⟩
    · split at h
      · rename_i hk
        subst hk
        obtain ⟨z, h1, h2⟩ := binI_run (c := c) (P := P) (w := w) h t
        exact ⟨z, by simp [hg, h1], h2⟩
      · cases h
  · rename_i x y
    obtain rfl := hx.str
    obtain rfl := hy.str
    have hg : (eqGuard op t ox oy (.string ⟨⟨x⟩⟩) (.string ⟨⟨y⟩⟩)).run P w = .ok () w := guard_plain (by simp) (by simp)
    obtain ⟨z, h1, h2⟩ := binS_run (c := c) (P := P) (w := w) h t
    exact ⟨z, by simp [hg, h1], h2⟩
  · rename_i x y
    obtain rfl := hx.bool
    obtain rfl := hy.bool
    have hg : (eqGuard op t ox oy (.bool x) (.bool y)).run P w = .ok () w := guard_plain (by simp) (by simp)
    have hu := (hP.ty t).und
    split at h
    · rename_i hk
      have hk' : (E.ty t).k = .bool := hk
      rw [hk'] at hu
      obtain rfl := Option.some.inj h
      refine ⟨.bool (x == y), ?_, .bool _⟩
      have h1 : (binOp .eql t (.bool x) (.bool y)).run P w = .ok (.bool (x == y)) w := by
        show ((do pure (.bool (← Op.equal t (.bool x) (.bool y)))) : Sem Value).run P w = _
        simp only [Sem.run_bind, equal_bool hu, Result.andThen_ok, Sem.run_pure]
      simp only [Sem.run_bind, hg, Result.andThen_ok, h1]
    · rename_i hk
      have hk' : (E.ty t).k = .bool := hk
      rw [hk'] at hu
      obtain rfl := Option.some.inj h
      refine ⟨.bool (!(x == y)), ?_, .bool _⟩
      have h1 : (binOp .neq t (.bool x) (.bool y)).run P w = .ok (.bool (!(x == y))) w := by
        show ((do pure (.bool (!(← Op.equal t (.bool x) (.bool y))))) : Sem Value).run P w = _
        simp only [Sem.run_bind, equal_bool hu, Result.andThen_ok, Sem.run_pure]
      simp only [Sem.run_bind, hg, Result.andThen_ok, h1]
    · cases h
  · rename_i xs ys
    split at h
    · rename_i ts us _ h1 h2
      split at h
      · rename_i hc
        obtain ⟨g1, g2, g3⟩ := hc
        have hne : E.eqT t ≠ [] := by
          intro e
          rw [e] at g1
          cases ts <;> simp [kindsOK] at g1
          exact g3 rfl
        cases hx with
        | agg _ vs hl h1' hr =>
          cases hy with
          | agg _ vs' hl' h2' hr' =>
            obtain ⟨F1, r1⟩ := hpk _ _ vs h1 (.agg _ _ hl h1' hr)
            obtain ⟨F2, r2⟩ := hpk _ _ vs' h2 (.agg _ _ hl' h2' hr')
            have r1' := r1.mono (F' := fun _ => True) (fun _ _ => trivial) (fun _ _ => rfl)
            have r2' := r2.mono (F' := fun _ => True) (fun _ _ => trivial) (fun _ _ => rfl)
            split at h
            · rename_i b hb
              obtain rfl := Option.some.inj h
              exact ⟨.bool b, (hP.eqT t hne ox oy _ w _ _ _ _ b r1' r2' g1 g2 hb).1, .bool _⟩
            · rename_i b hb
              obtain rfl := Option.some.inj h
              exact ⟨.bool (!b), (hP.eqT t hne ox oy _ w _ _ _ _ b r1' r2' g1 g2 hb).2, .bool _⟩
            · cases h
      · cases h
    · cases h
  · cases h
theorem un_run {op : UnOp} {x : SV} {u : Value} {r : T} (hx : Rel c w x u) (h : un op x = some r) : ∃ z, (Op.unary op u).run P w = .ok z w ∧ RD c.F w r z := by
  unfold un at h
  split at h
  · obtain rfl := hx.bool
    obtain rfl := Option.some.inj h
    exact ⟨_, rfl, .bool _⟩
  · obtain rfl := hx.int
    obtain rfl := Option.some.inj h
    exact ⟨_, rfl, .int _ _⟩
  · cases h
end ops

theorem add_at (g o n : Nat) : (⟨g, o, none⟩ : Addr).add n = ⟨g, o + n, none⟩ := by
  unfold Addr.add
  split
  · rename_i h; subst h; rfl
  · rfl
theorem getElem?_sub {α : Type} (xs : List α) (lo hi j : Nat) (h : lo + j < hi) : ((xs.take hi).drop lo)[j]? = xs[lo + j]? := by
  rw [List.getElem?_drop, List.getElem?_take, if_pos h]
theorem sub_at {α : Type} {xs : List α} {lo hi j : Nat} {x : α} (h : ((xs.take hi).drop lo)[j]? = some x) : lo + j < hi ∧ xs[lo + j]? = some x := by
  have hl := (List.getElem?_eq_some_iff.1 h).1
  simp only [List.length_drop, List.length_take] at hl
  have : lo + j < hi := by omega
  exact ⟨this, by rw [← getElem?_sub xs lo hi j this]; exact h⟩

theorem RD.sub {F : Nat → Prop} {w : World} {xs : List T} {A B : Option Addr} {n k lo hi : Nat} {z : Nat} (h : RD F w (.list xs) (.slice A n k)) (h1 : lo ≤ hi) (h2 : hi ≤ xs.length) (hz : ∀ x ∈ xs, x.cells.length = z) (hz0 : 0 < z)
    (hB : lo < k → B = A.map (fun a => a.add (lo * z))) : RD F w (.list ((xs.take hi).drop lo)) (.slice B (hi - lo) (k - lo)) := by
  cases h with
  | list _ _ _ sz cell hc hm hs hw h1' ha hr =>
    have hlen : ((xs.take hi).drop lo).length = hi - lo := by simp; omega
    rw [← hlen]
    have hmem : ∀ x ∈ (xs.take hi).drop lo, x ∈ xs := fun x hx => List.mem_of_mem_take (List.mem_of_mem_drop hx)
    refine .list _ B (k - lo) sz (fun j i => cell (lo + j) i) (by rw [hlen]; omega) (by omega) hs (fun x hx => hw x (hmem x hx)) (fun x hx => h1' x (hmem x hx)) (fun hne => ?_) (fun j x i y hx hy => hr (lo + j) x i y (sub_at hx).2 hy)
    have hpos : 0 < ((xs.take hi).drop lo).length := List.length_pos_iff.2 hne
    have hxs : xs ≠ [] := by
      intro e
      subst e
      simp at hpos
    obtain ⟨x, hx⟩ := List.exists_mem_of_ne_nil xs hxs
    have ez : z = sz := (hz x hx).symm.trans (hw x hx)
    subst ez
    obtain ⟨g, o, rfl, hg, hcell⟩ := ha hxs
    have hlt : lo < k := by omega
    refine ⟨g, o + lo * z, ?_, hg, fun j i hj hi' => ?_⟩
    · rw [hB hlt]
      simp [add_at]
    · have := hcell (lo + j) i (by omega) hi'
      rw [← this]
      congr 2
      rw [Nat.add_mul]
      omega

/-- The blocks that stay, and those of the objects that are listed. -/
def FP (c : Ctx) (st : St) (ids : List Nat) (k : Nat) : Prop := c.F k ∨ ∃ i, i ∈ ids ∧ i < st.n ∧ Owns c i (st.o i) ∧ k = c.loc i

theorem row_RD {E : Env} {c : Ctx} {w : World} {i : Nat} {e : Nat} {xs : List T} {live : Bool} (h : ObOK E c w i (.row e xs live)) : RD (fun k => c.F k ∨ (Owns c i (.row e xs live) ∧ k = c.loc i)) w (.list xs) (c.val i) := by
  obtain ⟨h1, h2, ⟨A, k, hv, hk, hm⟩, h4, h5, h6⟩ := h
  cases live with
  | false => exact h6.mono (fun _ h => .inl h) (fun _ _ => rfl)
  | true =>
    rw [hv]
    by_cases hk0 : k = 0
    · obtain rfl : xs = [] := List.eq_nil_of_length_eq_zero (by omega)
      exact .list [] A k (c.sz i) (fun _ _ => undef) hk hm h2 h4 h5 (fun h => absurd rfl h) (fun j x i y hx => by simp at hx)
    · obtain ⟨o, vs, lo, hi, e1, e2, e3, e4, e5⟩ := h6 A _ k hv hk0
      have hcl : ∀ j, w.cell? ⟨c.loc i, o + j, none⟩ = vs[o + j]? := fun j => by simp [World.cell?, e2]
      refine .list xs A k (c.sz i) (fun j t => (vs[o + (j * c.sz i + t)]?).getD undef) hk hm h2 h4 h5 (fun hne => ⟨c.loc i, o, e1, .inr ⟨⟨A, _, k, hv, hk0⟩, rfl⟩, fun j t hj ht => ?_⟩) (fun j x t y hx hy => ?_)
      · rw [hcl]
        have hx := List.getElem?_eq_getElem hj
        have hw := h4 _ (List.getElem_mem hj)
        obtain ⟨v, hv1, _⟩ := e5 j _ t _ hx (List.getElem?_eq_getElem (by rw [hw]; exact ht))
        rw [hv1]; rfl
      · obtain ⟨v, hv1, hv2⟩ := e5 j x t y hx hy
        rw [hv1]
        exact hv2.mono (fun _ h => .inl h) (fun _ _ => rfl)

section
variable {E : Env} {P : Program} {M0 : Nat → Prop} {w0 : World} {c : Ctx} {st st' : St} {a : Act} {w : World}

theorem Inv.row_RD (hI : Inv E M0 w0 c st w) {r e : Nat} {xs : List T} {live : Bool} (hr : r < st.n) (ho : st.o r = .row e xs live) : RD (FP c st [r]) w (.list xs) (c.val r) := by
  have h := hI.obs r hr
  rw [ho] at h
  refine (Ev.row_RD h).mono (fun k hk => ?_) (fun _ _ => rfl)
  rcases hk with hk | ⟨hk, rfl⟩
  · exact .inl hk
  · exact .inr ⟨r, by simp, hr, by rw [ho]; exact hk, rfl⟩
theorem FP.sub {ids ids' : List Nat} (h : ∀ i ∈ ids, i ∈ ids') (k : Nat) (hk : FP c st ids k) : FP c st ids' k := by
  rcases hk with hk | ⟨i, hi, h1, h2, h3⟩
  · exact .inl hk
  · exact .inr ⟨i, h i hi, h1, h2, h3⟩

theorem peek1_RD (hI : Inv E M0 w0 c st w) {s : SV} {v : Value} {t : T} (hr : Rel c w s v) (hp : st.peek1 s = some t) : RD (FP c st (rowIds [s])) w t v ∧ t.one = true := by
  unfold St.peek1 at hp
  split at hp
  · split at hp
    · rename_i h1
      obtain rfl := Option.some.inj hp
      cases hr with
      | t h => exact ⟨h.mono (fun _ h => .inl h) (fun _ _ => rfl), h1⟩
    · cases hp
  · obtain rfl := Option.some.inj hp
    cases hr with
    | nil A => exact ⟨.list [] A 0 1 (fun _ _ => undef) (Nat.le_refl _) (Nat.zero_le _) Nat.one_pos (by simp) (by simp) (fun h => absurd rfl h) (fun j x i y hx => by simp at hx), rfl⟩
  · rename_i r
    split at hp
    · rename_i e xs live ho
      obtain rfl := Option.some.inj hp
      cases hr with
      | row _ h => exact ⟨hI.row_RD (by rw [← hI.n]; exact h) ho, rfl⟩
    · cases hp
  · rename_i r lo hi
    split at hp
    · rename_i e xs live ho
      obtain rfl := Option.some.inj hp
      cases hr with
      | view _ _ _ A B n k h hv h1 h2 h3 hB =>
        have hrn : r < st.n := by rw [← hI.n]; exact h
        have hd := hI.row_RD hrn ho
        have hob := hI.obs r hrn
        rw [ho] at hob
        obtain ⟨z1, z2, ⟨A', k', hv', hk', hm'⟩, z4, _⟩ := hob
        rw [hv] at hv'
        injection hv' with e1 e2 e3
        rw [hv] at hd
        exact ⟨RD.sub hd h1 (by omega) z4 z2 hB, rfl⟩
    · cases hp
  · cases hp
theorem peekL_RD (hI : Inv E M0 w0 c st w) : ∀ {l : List SV} {ts : List T}, st.peekL l = some ts → ts.length = l.length ∧ (∀ t ∈ ts, t.one = true) ∧ ∀ {ids : List Nat}, (∀ i ∈ rowIds l, i ∈ ids) → ∀ (i : Nat) s t v, l[i]? = some s → ts[i]? = some t → Rel c w s v → RD (FP c st ids) w t v
  | [], ts, h => by
    obtain rfl := Option.some.inj h
    exact ⟨rfl, by simp, fun _ i s t v hs => by simp at hs⟩
  | s :: r, ts, h => by
    unfold St.peekL at h
    split at h
    · cases h
    · rename_i t ht
      split at h
      · cases h
      · rename_i ts' hts
        obtain rfl := Option.some.inj h
        obtain ⟨h1, h2, h3⟩ := peekL_RD hI hts
        refine ⟨by simp [h1], ?_, fun {ids} hids i s' t' v hs ht' hr => ?_⟩
        · intro x hx
          rcases List.mem_cons.1 hx with rfl | hx
          · unfold St.peek1 at ht
            split at ht
            · split at ht
              · rename_i hh; obtain rfl := Option.some.inj ht; exact hh
              · cases ht
            · obtain rfl := Option.some.inj ht; rfl
            · split at ht
              · obtain rfl := Option.some.inj ht; rfl
              · cases ht
            · split at ht
              · obtain rfl := Option.some.inj ht; rfl
              · cases ht
            · cases ht
          · exact h2 x hx
        · have hsub : ∀ j ∈ rowIds [s], j ∈ ids := fun j hj => hids j (by
            cases s <;> simp [rowIds] at hj ⊢ <;> first | exact .inl hj | exact hj.elim)
          have hsub2 : ∀ j ∈ rowIds r, j ∈ ids := fun j hj => hids j (by
            cases s <;> simp [rowIds, hj])
          cases i with
          | zero =>
            simp at hs ht'
            subst hs; subst ht'
            exact (peek1_RD hI hr ht).1.mono (FP.sub hsub) (fun _ _ => rfl)
          | succ i => exact h3 hsub2 i s' t' v (by simpa using hs) (by simpa using ht') hr
theorem peek_agg_RD (hI : Inv E M0 w0 c st w) {l : List SV} {ts : List T} {v : Value} (hp : st.peekL l = some ts) (hr : Rel c w (.agg l) v) : RD (FP c st (rowIds l)) w (.agg ts) v := by
  obtain ⟨h1, h2, h3⟩ := peekL_RD hI hp
  cases hr with
  | agg _ vs hl h1' hr =>
    refine .agg ts vs (h1.trans hl) h2 (fun i t v ht hv => ?_)
    have hi := (List.getElem?_eq_some_iff.1 ht).1
    exact h3 (fun _ h => h) i _ t v (List.getElem?_eq_getElem (by omega)) ht (hr i _ v (List.getElem?_eq_getElem (by omega)) hv)
theorem peek_RD (hI : Inv E M0 w0 c st w) {s : SV} {v : Value} {t : T} (hr : Rel c w s v) (hp : st.peek s = some t) : RD (FP c st (rowIds s.cells)) w t v := by
  cases s with
  | agg cs =>
    simp only [St.peek] at hp
    cases h1 : st.peekL cs with
    | none => simp [h1] at hp
    | some ts =>
      simp [h1] at hp
      subst hp
      exact peek_agg_RD hI h1 hr
  | _ => exact (peek1_RD hI hr hp).1

theorem elems_RD (hI : Inv E M0 w0 c st w) {s : SV} {v : Value} {xs : List T} (hr : Rel c w s v) (hp : st.elems s = some xs) : RD (FP c st (rowIds [s])) w (.list xs) v := by
  unfold St.elems at hp
  cases h1 : st.peek1 s with
  | none => simp [h1] at hp
  | some t =>
    simp [h1] at hp
    cases t with
    | list ys =>
      obtain rfl : ys = xs := by simpa [T.listOf] using hp
      exact (peek1_RD hI hr h1).1
    | _ => simp [T.listOf] at hp

theorem loadCells_ok {g o : Nat} (cell : Nat → Value) : ∀ (n i : Nat) (acc : Array Value), (∀ j, i ≤ j → j < i + n → w.cell? ⟨g, o + j, none⟩ = some (cell j)) →
    (loadCellsFrom ⟨g, o, none⟩ i n acc).run P w = .ok (acc ++ ((List.range' i n).map cell).toArray) w
  | 0, i, acc, _ => by simp [loadCellsFrom]
  | n + 1, i, acc, h => by
    have h0 := h i (Nat.le_refl _) (by omega)
    simp only [loadCellsFrom, Sem.run_bind, run_load, add_at, h0, Result.andThen_ok]
    rw [loadCells_ok cell n (i + 1) _ (fun j h1 h2 => h j (by omega) (by omega))]
    simp [List.range'_succ]
theorem loadVar_agg (hP : POK E P) {t : Nat} (ho : (E.ty t).k ≠ .other) (ha : (E.ty t).agg = true) {g o : Nat} (cell : Nat → Value) (h : ∀ j, j < (E.ty t).size → w.cell? ⟨g, o + j, none⟩ = some (cell j)) :
    (loadVar t ⟨g, o, none⟩).run P w = .ok (.agg ((List.range (E.ty t).size).map cell).toArray) w := by
  simp only [loadVar, Sem.run_bind, (hP.ty t).agg_run ho, Result.andThen_ok, ha, if_true, (hP.ty t).size_run ho, loadCells]
  rw [loadCells_ok cell _ 0 #[] (fun j _ h2 => h j (by omega))]
  simp [List.range_eq_range']
theorem loadVar_one (hP : POK E P) {t : Nat} (ho : (E.ty t).k ≠ .other) (ha : (E.ty t).agg = false) {g o : Nat} {v : Value} (h : w.cell? ⟨g, o, none⟩ = some v) : (loadVar t ⟨g, o, none⟩).run P w = .ok v w := by
  simp only [loadVar, Sem.run_bind, (hP.ty t).agg_run ho, Result.andThen_ok, ha]
  simp [h]
end
section
variable {E : Env} {P : Program} {M0 : Nat → Prop} {w0 : World} {c : Ctx} {st st' : St} {a : Act} {w : World}

theorem row_cell {i e : Nat} {xs : List T} {live : Bool} (h : ObOK E c w i (.row e xs live)) {g o n k : Nat} (hv : c.val i = .slice (some ⟨g, o, none⟩) n k) {j t : Nat} {x y : T} (hx : xs[j]? = some x) (hy : x.cells[t]? = some y) :
    ∃ v, w.cell? ⟨g, o + (j * c.sz i + t), none⟩ = some v ∧ RD c.F w y v := by
  obtain ⟨h1, h2, ⟨A, k', hv', hk, hm⟩, h4, h5, h6⟩ := h
  rw [hv] at hv'
  injection hv' with e1 e2 e3
  subst e1; subst e2; subst e3
  have hj := (List.getElem?_eq_some_iff.1 hx).1
  have ht := (List.getElem?_eq_some_iff.1 hy).1
  cases live with
  | true =>
    obtain ⟨o', vs, lo, hi, e1, e2, e3, e4, e5⟩ := h6 _ _ _ hv (by omega)
    injection e1 with e1
    injection e1 with e1 e1'
    subst e1; subst e1'
    obtain ⟨v, hv1, hv2⟩ := e5 j x t y hx hy
    exact ⟨v, by simp [World.cell?, e2, hv1], hv2⟩
  | false =>
    simp only at h6
    rw [hv] at h6
    cases h6 with
    | list _ _ _ sz cell hc hm hs hw h1' ha hr =>
      obtain ⟨g', o', e1, hg, hcell⟩ := ha (by intro e; subst e; simp at hj)
      injection e1 with e1
      injection e1 with e1 e1'
      subst e1; subst e1'
      have hxm := List.mem_of_getElem? hx
      have : sz = c.sz i := (hw x hxm).symm.trans (h4 x hxm)
      subst this
      exact ⟨_, hcell j t hj (by rw [← hw x hxm]; exact ht), hr j x t y hx hy⟩

theorem known_ne {t : TI} (h : ¬ t.known = false) : t.k ≠ .other := by
  intro e
  simp [TI.known, e] at h
theorem mk_load (hP : POK E P) {t : Nat} (hk : (E.ty t).k ≠ .other) {l : List SV} {s : SV} (hl : l.length = (E.ty t).size) (hm : mkSV (E.ty t).agg l = some s) {g o : Nat} (h1 : ∀ y ∈ l, y.one = true)
    (h : ∀ (j : Nat) y, l[j]? = some y → ∃ v, w.cell? ⟨g, o + j, none⟩ = some v ∧ Rel c w y v) : ∃ x, (loadVar t ⟨g, o, none⟩).run P w = .ok x w ∧ Rel c w s x := by
  have hget : ∀ j, j < l.length → ∃ v, w.cell? ⟨g, o + j, none⟩ = some v ∧ ∀ y, l[j]? = some y → Rel c w y v := by
    intro j hj
    obtain ⟨v, hv, hr⟩ := h j _ (List.getElem?_eq_getElem hj)
    exact ⟨v, hv, fun y hy => by rw [List.getElem?_eq_getElem hj] at hy; injection hy with hy; rw [← hy]; exact hr⟩
  cases ha : (E.ty t).agg with
  | true =>
    rw [ha] at hm
    obtain rfl : SV.agg l = s := by simpa [mkSV] using hm
    refine ⟨_, loadVar_agg hP hk ha (fun j => (w.cell? ⟨g, o + j, none⟩).getD undef) (fun j hj => ?_), ?_⟩
    · obtain ⟨v, hv, _⟩ := hget j (by omega)
      rw [hv]; rfl
    · refine .agg l _ (by simp [hl]) h1 (fun i y v hy hv => ?_)
      have hi := (List.getElem?_eq_some_iff.1 hy).1
      obtain ⟨v', hv', hr⟩ := hget i hi
      simp only [List.getElem?_toArray, List.getElem?_map] at hv
      rw [List.getElem?_range (by omega)] at hv
      simp only [Option.map_some, Option.some.injEq] at hv
      rw [hv'] at hv
      simp at hv
      rw [← hv]
      exact hr y hy
  | false =>
    rw [ha] at hm
    have hsz : (E.ty t).size = 1 := by
      obtain ⟨q, z, _, _, _, _, _, _, _, _, _, h'⟩ := (hP.ty t).info hk
      exact h' ha
    match l, hl, hm with
    | [y], _, hm =>
      obtain rfl : y = s := by simpa [mkSV] using hm
      obtain ⟨v, hv, hr⟩ := hget 0 (by simp)
      exact ⟨v, loadVar_one hP hk ha (by simpa using hv), hr y rfl⟩
    | [], hl, _ => simp at hl; omega
    | _ :: _ :: _, hl, _ => simp at hl; omega

theorem load_run (hP : POK E P) (hI : Inv E M0 w0 c st w) {t : Nat} {s r : SV} {v : Value} (hr : Rel c w s v) (h : st.loadAt E t s = some r) : ∃ x, (Instr.loadAt t v).run P w = .ok x w ∧ Rel c w r x := by
  unfold St.loadAt at h
  split at h
  · cases h
  · rename_i hkn
    have hk := known_ne hkn
    split at h
    · rename_i b off
      split at h
      · rename_i ty cells hb
        split at h
        · rename_i hle
          cases hr with
          | ptr _ _ hbn =>
            have hob := hI.obs b (by rw [← hI.n]; exact hbn)
            rw [hb] at hob
            obtain ⟨vs, e1, e2, e3, e4⟩ := hob
            show ∃ x, (Instr.loadAt t _).run P w = .ok x w ∧ _
            simp only [Instr.loadAt, Instr.sureAddr, Sem.run_bind, Sem.run_pure, Result.andThen_ok]
            refine mk_load hP hk (by simp; omega) h (fun y hy => e3 y (List.mem_of_mem_drop (List.mem_of_mem_take hy))) (fun j y hy => ?_)
            have hj : j < (E.ty t).size := by
              have := (List.getElem?_eq_some_iff.1 hy).1
              simp at this; omega
            rw [List.getElem?_take, if_pos hj, List.getElem?_drop] at hy
            have hv : vs[off + j]? = some vs[off + j] := Array.getElem?_eq_getElem (by omega)
            exact ⟨vs[off + j], by simp [World.cell?, e1, hv], e4 _ _ _ hy hv⟩
        · cases h
      · cases h
    · rename_i rr i off
      split at h
      · rename_i e xs live ho
        split at h
        · rename_i x hx
          split at h
          · rename_i hle
            cases hr with
            | eptr _ _ _ g o n k hrn hv hi =>
              have hob := hI.obs rr (by rw [← hI.n]; exact hrn)
              rw [ho] at hob
              simp only [Instr.loadAt, Instr.sureAddr, Sem.run_bind, Sem.run_pure, Result.andThen_ok]
              refine mk_load hP hk (by simp; omega) h (fun y hy => ?_) (fun j y hy => ?_)
              · obtain ⟨y', hy', rfl⟩ := List.mem_map.1 hy
                exact hob.2.2.2.2.1 x (List.mem_of_getElem? hx) y' (List.mem_of_mem_drop (List.mem_of_mem_take hy'))
              · rw [List.getElem?_map] at hy
                cases hq : ((x.cells.drop off).take (E.ty t).size)[j]? with
                | none => rw [hq] at hy; simp at hy
                | some y' =>
                  rw [hq] at hy
                  obtain rfl : SV.t y' = y := by simpa using hy
                  have hj : j < (E.ty t).size := by
                    have := (List.getElem?_eq_some_iff.1 hq).1
                    simp at this; omega
                  rw [List.getElem?_take, if_pos hj, List.getElem?_drop] at hq
                  obtain ⟨v, hv1, hv2⟩ := row_cell hob hv hx hq
                  refine ⟨v, ?_, .t hv2⟩
                  rw [← hv1]
                  congr 2
                  omega
          · cases h
        · cases h
      · cases h
    · rename_i cs
      split at h
      · rename_i hle
        cases hr with
        | dptr _ g o cell hg h1 hc hr =>
          simp only [Instr.loadAt, Instr.sureAddr, Sem.run_bind, Sem.run_pure, Result.andThen_ok]
          refine mk_load hP hk (by simp; omega) h (fun y hy => ?_) (fun j y hy => ?_)
          · obtain ⟨y', hy', rfl⟩ := List.mem_map.1 hy
            exact h1 y' (List.mem_of_mem_take hy')
          · rw [List.getElem?_map] at hy
            cases hq : (cs.take (E.ty t).size)[j]? with
            | none => rw [hq] at hy; simp at hy
            | some y' =>
              rw [hq] at hy
              obtain rfl : SV.t y' = y := by simpa using hy
              have hj : j < (E.ty t).size := by
                have := (List.getElem?_eq_some_iff.1 hq).1
                simp at this; omega
              rw [List.getElem?_take, if_pos hj] at hq
              have hjl := (List.getElem?_eq_some_iff.1 hq).1
              exact ⟨cell j, hc j hjl, .t (hr j y' hq)⟩
      · cases h
    · cases h

theorem dptr_drop {cs : List T} {g o : Nat} (h : Rel c w (.dptr cs) (.pointer (some ⟨g, o, none⟩))) (d : Nat) : Rel c w (.dptr (cs.drop d)) (.pointer (some ⟨g, o + d, none⟩)) := by
  cases h with
  | dptr _ g o cell hg h1 hc hr =>
    refine .dptr _ g (o + d) (fun i => cell (d + i)) hg (fun y hy => h1 y (List.mem_of_mem_drop hy)) (fun i hi => ?_) (fun i y hy => ?_)
    · rw [← hc (d + i) (by simp at hi; omega)]
      congr 2
      omega
    · rw [List.getElem?_drop] at hy
      exact hr _ y hy
theorem field_run (hP : POK E P) {t f : Nat} {s r : SV} {v : Value} (hr : Rel c w s v) (h : fieldAt E t s f = some r) : ∃ x, (Instr.fieldAt t v f).run P w = .ok x w ∧ Rel c w r x := by
  unfold fieldAt at h
  split at h
  · rename_i o ft ha hf
    split at h
    · cases h
    · rename_i hkn
      have hk := known_ne hkn
      have hu := (hP.ty t).und
      have hks : (E.ty t).k = .struct := by
        unfold TI.agg at ha
        split at ha
        · rename_i e; exact e
        · cases ha
      rw [hks] at hu
      obtain ⟨fs, hu, _, hfs⟩ := hu
      obtain ⟨fd, e1, e2, e3⟩ := hfs f o ft hf
      have hsz : 0 < (E.ty ft).size := by
        obtain ⟨q, z, _, _, _, _, _, _, h', _⟩ := (hP.ty ft).info hk
        exact h'
      have hplace : ∀ g d, (fieldPlace ⟨g, d, none⟩ fd).run P w = .ok ⟨g, d + o, none⟩ w := by
        intro g d
        have hz : (Go.sizeOf fd.type).run P w = .ok (E.ty ft).size w := by rw [e3]; exact (hP.ty ft).size_run hk
        simp only [fieldPlace, Sem.run_bind, hz, Result.andThen_ok]
        rw [if_neg (by omega), e2, add_at]
        rfl
      have hrun : ∀ g d, (Instr.fieldAt t (.pointer (some ⟨g, d, none⟩)) f).run P w = .ok (.pointer (some ⟨g, d + o, none⟩)) w := by
        intro g d
        simp only [Instr.fieldAt, Sem.run_bind, und_run hu, Result.andThen_ok]
        simp only [e1, Instr.sureAddr, Sem.run_bind, Sem.run_pure, Result.andThen_ok, hplace]
      split at h
      · obtain rfl := Option.some.inj h
        cases hr with
        | ptr b off hb => exact ⟨_, hrun _ _, .ptr _ _ hb⟩
      · obtain rfl := Option.some.inj h
        cases hr with
        | eptr rr i off g o' n k hn hv hi => exact ⟨_, hrun _ _, by rw [Nat.add_assoc, Nat.add_assoc]; exact .eptr _ _ _ g o' n k hn hv hi⟩
      · obtain rfl := Option.some.inj h
        cases hr with
        | dptr cs g o' cell hg h1 hc hr => exact ⟨_, hrun _ _, dptr_drop (.dptr _ g o' cell hg h1 hc hr) o⟩
      · cases h
  · cases h

theorem row_addr {i e : Nat} {xs : List T} {live : Bool} (h : ObOK E c w i (.row e xs live)) (hne : xs ≠ []) : ∃ g o k, c.val i = .slice (some ⟨g, o, none⟩) xs.length k ∧ xs.length ≤ k ∧ (live = false → c.F g) := by
  obtain ⟨h1, h2, ⟨A, k, hv, hk, hm⟩, h4, h5, h6⟩ := h
  have hpos := List.length_pos_iff.2 hne
  cases live with
  | true =>
    obtain ⟨o', vs, lo, hi, e1, _⟩ := h6 _ _ _ hv (by omega)
    exact ⟨_, o', k, by rw [hv, e1], hk, fun h => by cases h⟩
  | false =>
    simp only at h6
    rw [hv] at h6
    cases h6 with
    | list _ _ _ sz cell hc hm hs hw h1' ha hr =>
      obtain ⟨g, o, e1, hg, _⟩ := ha hne
      exact ⟨g, o, k, by rw [hv, e1], hk, fun _ => hg⟩
theorem asIntOf_run {k : IntKind} {n : Int} : (asIntOf (.int k n)).run P w = .ok (k, n) w := rfl
theorem isSlice_eq {k : TK} (h : isSlice k = true) : k = .slice := by
  cases k <;> first | rfl | (simp [isSlice] at h)
theorem index_at (hP : POK E P) {t : Nat} (hs : isSlice (E.ty t).k = true) (hk : (E.ty (E.ty t).elem).known = true) {g o n cap i : Nat} {k : IntKind} (hi : i < n) :
    (Instr.indexAt t (.slice (some ⟨g, o, none⟩) n cap) (.int k (i : Int))).run P w = .ok (.pointer (some ⟨g, o + i * (E.ty (E.ty t).elem).size, none⟩)) w := by
  have hu := (hP.ty t).und
  rw [isSlice_eq hs] at hu
  have hz := (hP.ty (E.ty t).elem).size_run (w := w) (known_ne (by simp [hk]))
  have h0 : (0 : Int) ≤ (i : Int) ∧ (i : Int) < (n : Int) := by omega
  simp only [Instr.indexAt, Sem.run_bind, asIntOf_run, Result.andThen_ok, und_run hu, Sem.run_pure]
  rw [if_pos h0]
  simp [hz, add_at]
theorem index_run0 (hP : POK E P) (hI : Inv E M0 w0 c st w) {t : Nat} {s i r : SV} {v u : Value} (hr : Rel c w s v) (hi : Rel c w i u) (h : st.indexAt0 E t s i = some r) : ∃ x, (Instr.indexAt t v u).run P w = .ok x w ∧ Rel c w r x := by
  unfold St.indexAt0 at h
  split at h
  · rename_i hc
    obtain ⟨hs, hk⟩ := hc
    split at h
    · cases h
    · rename_i i0 i hn
      obtain ⟨k, rfl⟩ := hi.asNat hn
      -- a row's element
      have key : ∀ (r' e : Nat) (xs : List T) (live : Bool) (j : Nat) (x : T), r' < c.n → st.o r' = .row e xs live → xs[j]? = some x → x.cells.length = (E.ty (E.ty t).elem).size →
          ∃ g o k', c.val r' = .slice (some ⟨g, o, none⟩) xs.length k' ∧ Rel c w (.eptr r' j 0) (.pointer (some ⟨g, o + j * (E.ty (E.ty t).elem).size, none⟩)) := by
        intro r' e xs live j x hr' ho hx hw
        have hob := hI.obs r' (by rw [← hI.n]; exact hr')
        rw [ho] at hob
        have hj := (List.getElem?_eq_some_iff.1 hx).1
        obtain ⟨g, o, k', hv, hk', hF⟩ := row_addr hob (by intro e; subst e; simp at hj)
        have hsz : c.sz r' = (E.ty (E.ty t).elem).size := by rw [← hw]; exact (hob.2.2.2.1 x (List.mem_of_getElem? hx)).symm
        refine ⟨g, o, k', hv, ?_⟩
        have := Rel.eptr (w := w) r' j 0 g o xs.length k' hr' hv hj
        rwa [hsz, Nat.add_zero] at this
      split at h
      · rename_i rr
        split at h
        · rename_i e xs live ho
          split at h
          · rename_i x hx
            split at h
            · rename_i hw
              cases hr with
              | row _ hrn =>
                obtain ⟨g, o, k', hv, hrel⟩ := key rr e xs live i x hrn ho hx hw
                have hj := (List.getElem?_eq_some_iff.1 hx).1
                refine ⟨_, by rw [hv]; exact index_at hP hs hk hj, ?_⟩
                obtain rfl := Option.some.inj h
                exact hrel
            · cases h
          · cases h
        · cases h
      · rename_i rr lo hi'
        split at h
        · rename_i e xs live ho
          split at h
          · rename_i hlt
            split at h
            · rename_i x hx
              split at h
              · rename_i hw
                cases hr with
                | view _ _ _ A B n k2 hrn hv0 h1 h2 h3 hB =>
                  obtain ⟨g, o, k', hv, hrel⟩ := key rr e xs live (lo + i) x hrn ho hx hw
                  have hob := hI.obs rr (by rw [← hI.n]; exact hrn)
                  rw [ho] at hob
                  have hsz : c.sz rr = (E.ty (E.ty t).elem).size := by rw [← hw]; exact (hob.2.2.2.1 x (List.mem_of_getElem? hx)).symm
                  rw [hv] at hv0
                  injection hv0 with e1 e2 e3
                  subst e1
                  have hBv : B = some ⟨g, o + lo * (E.ty (E.ty t).elem).size, none⟩ := by
                    rw [hB (by omega), hsz]; simp [add_at]
                  subst hBv
                  refine ⟨_, index_at hP hs hk (by omega), ?_⟩
                  have e4 : o + lo * (E.ty (E.ty t).elem).size + i * (E.ty (E.ty t).elem).size = o + (lo + i) * (E.ty (E.ty t).elem).size := by rw [Nat.add_mul]; omega
                  rw [e4]
                  obtain rfl := Option.some.inj h
                  exact hrel
              · cases h
            · cases h
          · cases h
        · cases h
      · rename_i xs
        split at h
        · rename_i x hx
          split at h
          · rename_i hw
            obtain rfl := Option.some.inj h
            cases hr with
            | t hr =>
              cases hr with
              | list _ A cap sz cell hc hm hz hwd h1 ha hr =>
                have hj := (List.getElem?_eq_some_iff.1 hx).1
                obtain ⟨g, o, rfl, hg, hcell⟩ := ha (by intro e; subst e; simp at hj)
                have hsz : sz = (E.ty (E.ty t).elem).size := by rw [← hw]; exact (hwd x (List.mem_of_getElem? hx)).symm
                subst hsz
                refine ⟨_, index_at hP hs hk hj, .dptr x.cells g _ (fun q => cell i q) hg (h1 x (List.mem_of_getElem? hx)) (fun q hq => ?_) (fun q y hy => hr i x q y hx hy)⟩
                rw [← hcell i q hj (by rw [← hw]; exact hq)]
                congr 2
                omega
          · cases h
        · cases h
      · rename_i b n sz
        split at h
        · rename_i hin
          obtain rfl := Option.some.inj h
          cases hr with
          | sl _ _ _ hb hm =>
            refine ⟨_, index_at hP hs hk hin, ?_⟩
            rw [Nat.zero_add]
            exact Rel.ptr b _ hb
        · cases h
      · cases h
  · cases h
theorem glob_run (hP : POK E P) (hL : Laid E c.F w) {t g : Nat} {i r : SV} {u : Value} (hi : Rel c w i u) (h : globAt E t g i = some r) : ∃ x, (Instr.indexAt t (.pointer (some ⟨g, 0, none⟩)) u).run P w = .ok x w ∧ Rel c w r x := by
  unfold globAt at h
  split at h
  · rename_i i0 n e j ha hn
    split at h
    · rename_i hj
      split at h
      · rename_i y hy
        split at h
        · rename_i hyy
          obtain ⟨y1, y2⟩ := hyy
          obtain ⟨k, rfl⟩ := hi.asNat hn
          obtain rfl := Option.some.inj h
          obtain ⟨hu, q, hq, hs⟩ := hP.arr _ _ _ ha
          obtain ⟨hF, a, b, hw⟩ := hL g (fun e => by rw [e] at hy; simp at hy)
          have h0 : (0 : Int) ≤ (j : Int) ∧ (j : Int) < (n : Int) := by omega
          have hz : (Go.sizeOf e).run P w = .ok 1 w := by rw [size_run hq, hs]
          refine ⟨.pointer (some ⟨g, 0 + j, none⟩), ?_, .dptr [y] g (0 + j) (fun _ => vOf y) hF (by simpa using y1) (fun q hq => ?_) (fun q z hz => ?_)⟩
          · simp only [Instr.indexAt, Sem.run_bind, asIntOf_run, Result.andThen_ok, und_run hu, Sem.run_pure, Instr.sureAddr]
            rw [if_pos h0]
            simp [hz, add_at]
          · obtain rfl : q = 0 := by simpa using hq
            have hg : ((E.glob g).map vOf)[j]? = some (vOf y) := by rw [List.getElem?_map, hy]; rfl
            simp [World.cell?, hw, hg]
          · cases q with
            | zero => simp at hz; subst hz; exact vOf_RD y1 y2
            | succ q => simp at hz
        · cases h
      · cases h
    · cases h
  · cases h
theorem index_run (hP : POK E P) (hI : Inv E M0 w0 c st w) (hL : Laid E c.F w) {t : Nat} {s i r : SV} {v u : Value} (hr : Rel c w s v) (hi : Rel c w i u) (h : st.indexAt E t s i = some r) : ∃ x, (Instr.indexAt t v u).run P w = .ok x w ∧ Rel c w r x := by
  cases s with
  | glob g =>
    cases hr
    exact glob_run hP hL hi h
  | _ => exact index_run0 hP hI hr hi h
end
section
variable {E : Env} {P : Program} {M0 : Nat → Prop} {w0 : World} {c : Ctx} {st st' : St} {a : Act} {w : World}
theorem add_add (a : Addr) (x y : Nat) : (a.add x).add y = a.add (x + y) := by
  unfold Addr.add
  by_cases hx : x = 0
  · subst hx; simp
  · by_cases hy : y = 0
    · subst hy; simp [hx]
    · simp [hx, hy]; omega
theorem extract_mk (s : List UInt8) (l h : Nat) : (⟨⟨s⟩⟩ : ByteArray).extract l h = ⟨⟨(s.take h).drop l⟩⟩ := by
  apply ByteArray.ext
  apply Array.toList_inj.1
  rw [ByteArray.data_extract, Array.toList_extract, List.drop_take]
theorem bound_run {n y : Nat} {k : IntKind} {code : BoundsCode} (h : n ≤ y) : (Instr.sliceBound (.int k (n : Int)) y code).run P w = .ok n w := by
  have : (0 : Int) ≤ (n : Int) ∧ (n : Int) ≤ (y : Int) := by omega
  simp only [Instr.sliceBound, Sem.run_bind, asIntOf_run, Result.andThen_ok]
  rw [if_pos this]
  rfl
theorem boundOr_run (hA : InvA c st a w) {d l : Nat} {x : Option Operand} (h : st.boundOr d x = some l) : (x = none ∧ l = d) ∨ ∃ o k, x = some o ∧ a.eval o = .int k (l : Int) := by
  cases x with
  | none => exact .inl ⟨rfl, (Option.some.inj h).symm⟩
  | some o =>
    obtain ⟨k, hk⟩ := (val_rel hA o).asNat h
    exact .inr ⟨o, k, rfl, hk⟩
theorem bounds_run (hA : InvA c st a w) {b : Bool} {len cap l h : Nat} {lo hi : Option Operand} (h1 : st.boundOr 0 lo = some l) (h2 : st.boundOr len hi = some h) (hl : l ≤ h) (hc : h ≤ len) (hcap : len ≤ cap) :
    (Instr.sliceBounds b len cap (lo.map a.eval) (hi.map a.eval) none).run P w = .ok (l, h, cap) w := by
  rcases boundOr_run hA h1 with ⟨rfl, rfl⟩ | ⟨ol, kl, rfl, el⟩ <;> rcases boundOr_run hA h2 with ⟨rfl, rfl⟩ | ⟨oh, kh, rfl, eh⟩
  · simp [Instr.sliceBounds]
  · simp [Instr.sliceBounds, eh, bound_run (show h ≤ cap by omega)]
  · simp [Instr.sliceBounds, el, bound_run hl]
  · simp [Instr.sliceBounds, el, eh, bound_run hl, bound_run (show h ≤ cap by omega)]
theorem bounds_run2 (hA : InvA c st a w) {b : Bool} {len cap l h : Nat} {lo hi : Option Operand} (h1 : st.boundOr 0 lo = some l) (h2 : st.boundOr len hi = some h) (hl : l ≤ h) (hc : h ≤ cap) (hcap : len ≤ cap) :
    (Instr.sliceBounds b len cap (lo.map a.eval) (hi.map a.eval) none).run P w = .ok (l, h, cap) w := by
  rcases boundOr_run hA h1 with ⟨rfl, rfl⟩ | ⟨ol, kl, rfl, el⟩ <;> rcases boundOr_run hA h2 with ⟨rfl, rfl⟩ | ⟨oh, kh, rfl, eh⟩
  · simp [Instr.sliceBounds]
  · simp [Instr.sliceBounds, eh, bound_run (show h ≤ cap by omega)]
  · simp [Instr.sliceBounds, el, bound_run hl]
  · simp [Instr.sliceBounds, el, eh, bound_run hl, bound_run (show h ≤ cap by omega)]
theorem slen_rel (hI : Inv E M0 w0 c st w) {s : SV} {v : Value} {n : Nat} (hr : Rel c w s v) (h : st.slen s = some n) : ∃ A k, v = .slice A n k ∧ n ≤ k := by
  unfold St.slen at h
  split at h
  · split at h
    · rename_i e xs live ho
      obtain rfl := Option.some.inj h
      cases hr with
      | row _ hrn =>
        have hob := hI.obs _ (by rw [← hI.n]; exact hrn)
        rw [ho] at hob
        obtain ⟨_, _, ⟨A, k, hv, hk, _⟩, _⟩ := hob
        exact ⟨A, k, hv, hk⟩
    · cases h
  · obtain rfl := Option.some.inj h
    cases hr with
    | view _ _ _ A B n k h hv h1 h2 h3 hB => exact ⟨B, _, rfl, by omega⟩
  · obtain rfl := Option.some.inj h
    cases hr with
    | sl _ _ _ hb hm => exact ⟨_, _, rfl, Nat.le_refl _⟩
  · obtain rfl := Option.some.inj h
    cases hr with
    | t hr => cases hr with
      | list _ A cap sz cell hc hm => exact ⟨A, cap, rfl, hc⟩
  · obtain rfl := Option.some.inj h
    cases hr with
    | nil A => exact ⟨A, 0, rfl, Nat.le_refl _⟩
  · cases h
theorem roomOf_rel (hI : Inv E M0 w0 c st w) {s : SV} {A : Option Addr} {n k m : Nat} (hr : Rel c w s (.slice A n k)) (hn : n ≤ k) (h1 : st.slen s = some n) (h : st.roomOf s = some m) : m ≤ k := by
  unfold St.roomOf at h
  split at h
  · rename_i r lo hi
    split at h
    · rename_i e xs live ho
      obtain rfl := Option.some.inj h
      cases hr with
      | view _ _ _ A0 B n0 k0 hrn hv g1 g2 g3 hB =>
        have hob := hI.obs _ (by rw [← hI.n]; exact hrn)
        rw [ho] at hob
        obtain ⟨_, _, ⟨A', k', hv', hk', _⟩, _⟩ := hob
        rw [hv] at hv'
        injection hv' with _ q2 q3
        omega
    · cases h
  · rw [h1] at h
    obtain rfl := Option.some.inj h
    exact hn
theorem part_rel (hP : POK E P) (hI : Inv E M0 w0 c st w) {t : Nat} (hk : (E.ty (E.ty t).elem).known = true) {s r : SV} {l h n k : Nat} {A : Option Addr} (hr : Rel c w s (.slice A n k)) (hl : l ≤ h) (hp : st.part E t s l h = some r) :
    Rel c w r (.slice (if k = l then A else A.map (fun a => a.add (l * (E.ty (E.ty t).elem).size))) (h - l) (k - l)) := by
  unfold St.part at hp
  split at hp
  · rename_i rr
    split at hp
    · rename_i e xs live ho
      split at hp
      · rename_i hc
        obtain ⟨rfl, hh⟩ := hc
        obtain rfl := Option.some.inj hp
        generalize hv : Value.slice A n k = v at hr
        cases hr with
        | row _ hrn =>
          have hob := hI.obs _ (by rw [← hI.n]; exact hrn)
          rw [ho] at hob
          obtain ⟨z1, _, ⟨A', k', hv', hk', _⟩, _⟩ := hob
          have hv2 := hv
          rw [hv'] at hv2
          injection hv2 with e1 e2 e3
          subst e1; subst e2; subst e3
          refine .view rr l h A _ xs.length k hrn hv' hl hh hk' (fun hlt => ?_)
          rw [if_neg (by omega), z1]
      · cases hp
    · cases hp
  · rename_i rr lo hi
    split at hp
    · rename_i e xs live ho
      split at hp
      · rename_i hc
        obtain ⟨rfl, hh⟩ := hc
        obtain rfl := Option.some.inj hp
        cases hr with
        | view _ _ _ A0 B n0 k0 hrn hv h1 h2 h3 hB =>
          have hob := hI.obs _ (by rw [← hI.n]; exact hrn)
          rw [ho] at hob
          obtain ⟨z1, _, ⟨A', k', hv', _, _⟩, _⟩ := hob
          have hn0 : n0 = xs.length := by
            rw [hv] at hv'
            injection hv'
          have e1 : h - l = lo + h - (lo + l) := by omega
          have e2 : k0 - lo - l = k0 - (lo + l) := by omega
          rw [e1, e2]
          refine .view rr (lo + l) (lo + h) A0 _ n0 k0 hrn hv (by omega) (by omega) h3 (fun hlt => ?_)
          rw [if_neg (by omega), hB (by omega), ← z1]
          cases A0 with
          | none => rfl
          | some a0 => simp only [Option.map_some, add_add]; rw [Nat.add_mul]
      · cases hp
    · cases hp
  · rename_i xs
    split at hp
    · rename_i hc
      obtain ⟨hh, hall⟩ := hc
      obtain rfl := Option.some.inj hp
      cases hr with
      | t hr =>
        have hsz : 0 < (E.ty (E.ty t).elem).size := by
          obtain ⟨q, z, _, _, _, _, _, _, h', _⟩ := (hP.ty (E.ty t).elem).info (known_ne (by simp [hk]))
          exact h'
        refine .t (RD.sub hr hl hh (fun x hx => by simpa using List.all_eq_true.1 hall x hx) hsz (fun hlt => by rw [if_neg (by omega)]))
    · cases hp
  · split at hp
    · rename_i h0
      subst h0
      obtain rfl := Option.some.inj hp
      obtain rfl : l = 0 := by omega
      cases hr with
      | nil A => exact .nil _
    · cases hp
  · cases hp
theorem slice_run (hP : POK E P) (hI : Inv E M0 w0 c st w) (hA : InvA c st a w) {t : Nat} {s r : SV} {v : Value} {lo hi mx : Option Operand} (hr : Rel c w s v) (h : st.sliceAt E t s lo hi mx = some r) :
    ∃ x, (Instr.sliceAt t v (lo.map a.eval) (hi.map a.eval) (mx.map a.eval)).run P w = .ok x w ∧ Rel c w r x := by
  have hu := (hP.ty t).und
  unfold St.sliceAt at h
  split at h
  · rename_i s hk
    rw [hk] at hu
    split at h
    · cases h
    · split at h
      · rename_i l hh h1 h2
        split at h
        · rename_i hc
          obtain rfl := Option.some.inj h
          obtain rfl := hr.str
          refine ⟨.string ⟨⟨(s.take hh).drop l⟩⟩, ?_, .t (.str _)⟩
          have hb := bounds_run (P := P) (b := false) (cap := s.length) hA h1 h2 hc.1 hc.2 (Nat.le_refl _)
          have hs : (⟨⟨s⟩⟩ : ByteArray).size = s.length := rfl
          simp only [Instr.sliceAt, Sem.run_bind, und_run hu, Result.andThen_ok, Instr.slice, Option.map_none, hs, Option.isSome_none, Bool.false_eq_true, if_false, hb, Sem.run_pure]
          rw [extract_mk]
        · cases h
      · cases h
  · rename_i v' hk
    rw [hk] at hu
    split at h
    · cases h
    · rename_i hkn
      have hkn' : (E.ty (E.ty t).elem).known = true := by simpa using hkn
      have hz := (hP.ty (E.ty t).elem).size_run (w := w) (known_ne hkn)
      split at h
      · rename_i n kr hn hkr
        obtain ⟨A, k, rfl, hnk⟩ := slen_rel hI hr hn
        have hrk := roomOf_rel hI hr hnk hn hkr
        split at h
        · rename_i l hh h1 h2
          split at h
          · rename_i hc
            split at h
            · rename_i m
              split at h
              · rename_i hm
                obtain ⟨hm, rfl, hsome⟩ := hm
                obtain rfl := Option.some.inj h
                obtain ⟨km, em⟩ := (val_rel hA m).asNat hm
                rcases boundOr_run hA h2 with ⟨rfl, _⟩ | ⟨oh, kh, rfl, eh⟩
                · simp at hsome
                · refine ⟨.slice A 0 0, ?_, .nil A⟩
                  rcases boundOr_run hA h1 with ⟨rfl, rfl⟩ | ⟨ol, kl, rfl, el⟩
                  · simp only [Instr.sliceAt, Sem.run_bind, und_run hu, Result.andThen_ok, Instr.slice, Option.map_some, Option.map_none, Instr.sliceBounds, em, eh, bound_run (show 0 ≤ k by omega), bound_run (Nat.le_refl 0), Sem.run_pure, hz]
                    simp
                  · simp only [Instr.sliceAt, Sem.run_bind, und_run hu, Result.andThen_ok, Instr.slice, Option.map_some, Option.map_none, Instr.sliceBounds, em, eh, el, bound_run (show hh ≤ k by omega), bound_run (Nat.le_refl hh), Sem.run_pure, hz]
                    simp
              · split at h
                · rename_i mq hm
                  split at h
                  · rename_i hcm
                    obtain ⟨g1, g2, hsome⟩ := hcm
                    obtain rfl := Option.some.inj h
                    obtain ⟨km, em⟩ := (val_rel hA m).asNat hm
                    rcases boundOr_run hA h2 with ⟨rfl, _⟩ | ⟨oh, kh, rfl, eh⟩
                    · simp at hsome
                    · rcases boundOr_run hA h1 with ⟨rfl, rfl⟩ | ⟨ol, kl, rfl, el⟩
                      · exact ⟨_, by
                          simp only [Instr.sliceAt, Sem.run_bind, und_run hu, Result.andThen_ok, Instr.slice, Option.map_some, Option.map_none, Instr.sliceBounds, em, eh, bound_run (show mq ≤ k by omega), bound_run g1, bound_run hc.1, Sem.run_pure, hz]
                          rfl, .undef _⟩
                      · exact ⟨_, by
                          simp only [Instr.sliceAt, Sem.run_bind, und_run hu, Result.andThen_ok, Instr.slice, Option.map_some, Option.map_none, Instr.sliceBounds, em, eh, el, bound_run (show mq ≤ k by omega), bound_run g1, bound_run hc.1, Sem.run_pure, hz]
                          rfl, .undef _⟩
                  · cases h
                · cases h
            · refine ⟨_, ?_, part_rel hP hI hkn' hr hc.1 h⟩
              have hb := bounds_run2 (P := P) (b := true) (cap := k) hA h1 h2 hc.1 (Nat.le_trans hc.2 hrk) hnk
              simp only [Instr.sliceAt, Sem.run_bind, und_run hu, Result.andThen_ok, Instr.slice, Option.map_none, hb, Sem.run_pure, hz]
          · cases h
        · cases h
      · cases h
  · cases h

/-! ### bytes and texts -/
theorem toBytes_vals : ∀ {xs : List T} {l : List UInt8}, toBytes xs = some l → xs.length = l.length ∧ ∀ (i : Nat) x, xs[i]? = some x → ∃ n : Int, x = .int .u8 n ∧ l[i]? = some (UInt8.ofNat n.toNat)
  | [], l, h => by
    obtain rfl : [] = l := by simpa [toBytes] using h
    exact ⟨rfl, fun i x hx => by simp at hx⟩
  | x :: r, l, h => by
    unfold toBytes at h
    split at h
    · rename_i e; cases e
    · rename_i n r' e
      injection e with e1 e2
      subst e1; subst e2
      split at h
      · rename_i l' hl
        obtain rfl := Option.some.inj h
        obtain ⟨h1, h2⟩ := toBytes_vals hl
        refine ⟨by simp [h1], fun i x hx => ?_⟩
        cases i with
        | zero => simp at hx; subst hx; exact ⟨n, rfl, rfl⟩
        | succ i => exact h2 i x (by simpa using hx)
      · cases h
    · cases h
theorem push_all (l : List UInt8) : ∀ (acc : List UInt8), (l.foldl (fun (s : ByteArray) b => s.push b) ⟨⟨acc⟩⟩) = ⟨⟨acc ++ l⟩⟩ := by
  induction l with
  | nil => intro acc; simp
  | cons b r ih =>
    intro acc
    have : (⟨⟨acc⟩⟩ : ByteArray).push b = ⟨⟨acc ++ [b]⟩⟩ := by
      apply ByteArray.ext
      apply Array.toList_inj.1
      simp [ByteArray.push]
    rw [List.foldl_cons, this, ih]
    simp
theorem bytesLoop (f : Value → ByteArray → Sem (ForInStep ByteArray)) (hf : ∀ (n : Int) s, f (.int .u8 n) s = pure (.yield (s.push (UInt8.ofNat n.toNat)))) (vs : List Value) : ∀ (l : List UInt8) (s0 : ByteArray), vs.length = l.length → (∀ (i : Nat) v, vs[i]? = some v → ∃ n : Int, v = .int .u8 n ∧ l[i]? = some (UInt8.ofNat n.toNat)) →
    (forIn vs s0 f : Sem ByteArray).run P w = .ok (l.foldl (fun s b => s.push b) s0) w := by
  induction vs with
  | nil =>
    intro l s0 hl _
    obtain rfl : l = [] := List.eq_nil_of_length_eq_zero hl.symm
    simp
  | cons v r ih =>
    intro l s0 hl h
    cases l with
    | nil => simp at hl
    | cons b l =>
      obtain ⟨n, rfl, hn⟩ := h 0 v rfl
      obtain rfl : b = UInt8.ofNat n.toNat := by simpa using hn
      rw [List.forIn_cons]
      simp only [Sem.run_bind, hf, Sem.run_pure, Result.andThen_ok, List.foldl_cons]
      exact ih l _ (by simpa using hl) (fun i v hv => by simpa using h (i + 1) v (by simpa using hv))
theorem bytesToString_run (hI : Inv E M0 w0 c st w) {s : SV} {v : Value} {xs : List T} {l : List UInt8} (hr : Rel c w s v) (he : st.elems s = some xs) (hl : toBytes xs = some l) : (Conv.bytesToString v).run P w = .ok (.string ⟨⟨l⟩⟩) w := by
  have hd := elems_RD hI hr he
  obtain ⟨h1, h2⟩ := toBytes_vals hl
  cases hd with
  | list _ A cap sz cell hc hm hz hwd h1' ha hrd =>
    by_cases hx : xs = []
    · subst hx
      obtain rfl : l = [] := List.eq_nil_of_length_eq_zero h1.symm
      cases A with
      | none => rfl
      | some a => simp [Conv.bytesToString, loadCells, loadCellsFrom]; rfl
    · obtain ⟨g, o, rfl, hg, hcell⟩ := ha hx
      have hw : ∀ x ∈ xs, x.cells = [x] := fun x hx => by
        obtain ⟨i, hi⟩ := List.mem_iff_getElem?.1 hx
        obtain ⟨n, rfl, _⟩ := h2 i x hi
        rfl
      have hsz : sz = 1 := by
        obtain ⟨x, hxm⟩ := List.exists_mem_of_ne_nil xs hx
        rw [← hwd x hxm, hw x hxm]; rfl
      subst hsz
      simp only [Conv.bytesToString, Sem.run_bind, loadCells]
      rw [loadCells_ok (fun j => cell j 0) _ 0 #[] (fun j _ hj => by
        have := hcell j 0 (by omega) (by omega)
        simpa using this)]
      simp only [Result.andThen_ok, Array.empty_append]
      rw [← Array.forIn_toList]
      rw [bytesLoop _ (fun _ _ => rfl) _ l ByteArray.empty (by simp [h1]) (fun i v hv => ?_)]
      · have := push_all l []
        simp only [List.nil_append] at this
        show Result.ok (Value.string (l.foldl (fun s b => s.push b) ⟨⟨[]⟩⟩)) w = _
        rw [this]
      · have hi : i < xs.length := by
          have := (List.getElem?_eq_some_iff.1 hv).1
          simpa using this
        simp only [List.getElem?_toArray, List.getElem?_map] at hv
        rw [List.getElem?_range' (by omega)] at hv
        simp at hv
        subst hv
        obtain ⟨n, hn, hb⟩ := h2 i _ (List.getElem?_eq_getElem hi)
        have := hrd i _ 0 (.int .u8 n) (List.getElem?_eq_getElem hi) (by rw [hw _ (List.getElem_mem hi), hn]; rfl)
        generalize cell i 0 = cv at this ⊢
        cases this
        exact ⟨n, rfl, hb⟩
end
section
variable {E : Env} {P : Program} {M0 : Nat → Prop} {w0 : World} {c : Ctx} {st st' : St} {a : Act} {w w' : World}

def Ctx.withF (c : Ctx) (F : Nat → Prop) : Ctx := { c with F := F }
theorem Ctx.le_withF {F : Nat → Prop} (h : ∀ k, c.F k → F k) : c.Le (c.withF F) := ⟨Nat.le_refl _, fun _ _ => rfl, fun _ _ => rfl, fun _ _ => rfl, h, fun _ h => h⟩

theorem Inv.freeze (hI : Inv E M0 w0 c st w) (r : Nat) (hnb : ∀ ty cells, st.o r ≠ .box ty cells) : ∃ F, Inv E M0 w0 (c.withF F) (st.freeze r) w ∧ (∀ k, c.F k → F k) ∧ (∀ k, FP c st [r] k → F k) ∧ (∀ k, F k → FP c st [r] k) := by
  unfold St.freeze
  split
  · rename_i e xs live ho
    have hr : r < st.n := by
      rcases Nat.lt_or_ge r st.n with h | h
      · exact h
      · rw [hI.dead r h] at ho; cases ho
    refine ⟨FP c st [r], ?_, fun k hk => .inl hk, fun _ h => h, fun _ h => h⟩
    have hle : c.Le (c.withF (FP c st [r])) := Ctx.le_withF (fun k hk => .inl hk)
    have hob := hI.obs r hr
    rw [ho] at hob
    have hset : ∀ i, i ≠ r → (st.setO r (.row e xs false)).o i = st.o i := fun i hi => upd_ne _ _ hi
    have hsetr : (st.setO r (.row e xs false)).o r = .row e xs false := upd_self _ _ _
    have hnown : ∀ i, Owns (c.withF (FP c st [r])) i ((st.setO r (.row e xs false)).o i) → i ≠ r := by
      intro i hi e'
      subst e'
      rw [hsetr] at hi
      exact hi
    refine ⟨hI.n, ?_, ?_, ?_, ?_, ?_, hI.one, hI.same, fun k hk => ?_⟩
    rotate_left 5
    · rcases hk with hk | ⟨j, _, hj1, hj2, rfl⟩
      · exact hI.bnd k hk
      · exact .inr (hI.own j hj1 hj2).2.2
    · intro i hi
      by_cases hir : i = r
      · subst hir
        rw [hsetr]
        exact ⟨hob.1, hob.2.1, hob.2.2.1, hob.2.2.2.1, hob.2.2.2.2.1, hI.row_RD hr ho⟩
      · rw [hset i hir]
        exact (hI.obs i hi).mono hle (by rw [hI.n]; exact hi) (fun _ _ => rfl) (fun _ => rfl)
    · intro i hi
      have hi' : st.n ≤ i := hi
      rw [hset i (by omega)]
      exact hI.dead i hi'
    · intro i j hi hj oi oj e'
      have h1 := hnown i oi
      have h2 := hnown j oj
      rw [hset i h1] at oi
      rw [hset j h2] at oj
      exact hI.inj i j hi hj (oi.mono hle (by rw [hI.n]; exact hi)) (oj.mono hle (by rw [hI.n]; exact hj)) e'
    · intro i hi oi
      have h1 := hnown i oi
      rw [hset i h1] at oi
      have oi' := oi.mono hle (by rw [hI.n]; exact hi)
      obtain ⟨k1, k2, k3⟩ := hI.own i hi oi'
      refine ⟨k1, fun hF => ?_, k3⟩
      rcases hF with hF | ⟨j, hj, hjn, oj, e'⟩
      · exact k2 hF
      · obtain rfl : j = r := by simpa using hj
        exact h1 (hI.inj i j hi hjn oi' oj e')
    · intro k hk
      rcases hk with hk | ⟨j, hj, hjn, oj, rfl⟩
      · exact hI.F k hk
      · exact (hI.own j hjn oj).1
  · rename_i hno
    refine ⟨c.F, hI, fun _ h => h, fun k hk => ?_, fun k hk => .inl hk⟩
    rcases hk with hk | ⟨j, hj, hjn, oj, rfl⟩
    · exact hk
    · obtain rfl : j = r := by simpa using hj
      exfalso
      have hob := hI.obs j hjn
      cases hoj : st.o j with
      | dead => rw [hoj] at oj; exact oj
      | row e xs live => exact hno e xs live hoj
      | box ty cells => exact hnb ty cells hoj

theorem Inv.kill1 (hI : Inv E M0 w0 c st w) (r : Nat) : Inv E M0 w0 c (st.setO r .dead) w := by
  have hset : ∀ i, i ≠ r → (st.setO r .dead).o i = st.o i := fun i hi => upd_ne _ _ hi
  have hsetr : (st.setO r .dead).o r = .dead := upd_self _ _ _
  have hnown : ∀ i, Owns c i ((st.setO r .dead).o i) → i ≠ r := by
    intro i hi e'
    subst e'
    rw [hsetr] at hi
    exact hi
  refine ⟨hI.n, fun i hi => ?_, fun i hi => ?_, fun i j hi hj oi oj e' => ?_, fun i hi oi => ?_, hI.F, hI.one, hI.same, hI.bnd⟩
  · by_cases hir : i = r
    · subst hir; rw [hsetr]; trivial
    · rw [hset i hir]; exact hI.obs i hi
  · by_cases hir : i = r
    · subst hir; exact hsetr
    · rw [hset i hir]; exact hI.dead i hi
  · have h1 := hnown i oi
    have h2 := hnown j oj
    rw [hset i h1] at oi
    rw [hset j h2] at oj
    exact hI.inj i j hi hj oi oj e'
  · have h1 := hnown i oi
    rw [hset i h1] at oi
    exact hI.own i hi oi

/-- An object's own block is written. -/
theorem Inv.write (hI : Inv E M0 w0 c st w) {r : Nat} {ob : Ob} (hr : r < st.n) (ho : Owns c r (st.o r)) (hs : Same w w' (fun k => k = c.loc r)) (hob : ObOK E c w' r ob) : Inv E M0 w0 c (st.setO r ob) w' := by
  have hset : ∀ i, i ≠ r → (st.setO r ob).o i = st.o i := fun i hi => upd_ne _ _ hi
  have hsetr : (st.setO r ob).o r = ob := upd_self _ _ _
  obtain ⟨l1, l2, l3⟩ := hI.own r hr ho
  have hF : ∀ k, c.F k → w'.heap[k]? = w.heap[k]? := fun k hk => hs.blk k (hI.F k hk) (fun e => l2 (e ▸ hk))
  refine ⟨hI.n, fun i hi => ?_, fun i hi => ?_, fun i j hi hj oi oj e' => ?_, fun i hi oi => ?_, fun k hk => Nat.lt_of_lt_of_le (hI.F k hk) hs.size, hI.one, ?_, hI.bnd⟩
  · by_cases hir : i = r
    · subst hir; rw [hsetr]; exact hob
    · rw [hset i hir]
      exact (hI.obs i hi).mono (Ctx.Le.refl c) (by rw [hI.n]; exact hi) hF (fun oi => hs.blk _ (hI.own i hi oi).1 (fun e => hir (hI.inj i r hi hr oi ho e)))
  · have hi' : st.n ≤ i := hi
    rw [hset i (by omega)]
    exact hI.dead i hi'
  · have key : ∀ i, i < st.n → Owns c i ((st.setO r ob).o i) → Owns c i (st.o i) := by
      intro i _ oi
      by_cases hir : i = r
      · subst hir; exact ho
      · rw [hset i hir] at oi; exact oi
    exact hI.inj i j hi hj (key i hi oi) (key j hj oj) e'
  · have oi' : Owns c i (st.o i) := by
      by_cases hir : i = r
      · subst hir; exact ho
      · rw [hset i hir] at oi; exact oi
    obtain ⟨k1, k2, k3⟩ := hI.own i hi oi'
    exact ⟨Nat.lt_of_lt_of_le k1 hs.size, k2, k3⟩
  · refine hI.same.trans hs (fun k hk e => ?_)
    subst e
    rcases l3 with h | h
    · exact h
    · omega

/-- A new object, whose block nobody else has. -/
theorem Inv.add (hI : Inv E M0 w0 c st w) {ob : Ob} (l : Nat) (v : Value) (z : Nat) (hs : Same w w' (fun k => k = l)) (hl : l < w'.heap.size) (hF : ¬ c.F l) (hM : M0 l ∨ w0.heap.size ≤ l)
    (hno : ∀ i, i < st.n → Owns c i (st.o i) → c.loc i ≠ l) (hv1 : oneV v = true) (hob : ObOK E (c.push l v z) w' c.n ob) : Inv E M0 w0 (c.push l v z) (st.alloc ob) w' := by
  have hle := c.le_push l v z
  have hFb : ∀ k, c.F k → w'.heap[k]? = w.heap[k]? := fun k hk => hs.blk k (hI.F k hk) (fun e => hF (e ▸ hk))
  have hlc : (c.push l v z).loc c.n = l := upd_self _ _ _
  have hobs : ∀ i, i < st.n → (st.alloc ob).o i = st.o i := fun i hi => upd_ne _ _ (by omega)
  have hobn : (st.alloc ob).o c.n = ob := by rw [hI.n]; exact upd_self _ _ _
  refine ⟨by simp [Ctx.push, St.alloc, hI.n], ?_, ?_, ?_, ?_, fun k hk => Nat.lt_of_lt_of_le (hI.F k hk) hs.size, ?_, ?_, hI.bnd⟩
  · intro i hi
    by_cases hi' : i < st.n
    · rw [hobs i hi']
      exact (hI.obs i hi').mono hle (by rw [hI.n]; exact hi') hFb (fun ho => hs.blk _ (hI.own i hi' ho).1 (hno i hi' ho))
    · have : i = c.n := by have : i < st.n + 1 := hi; rw [hI.n]; omega
      subst this
      rw [hobn]; exact hob
  · intro i hi
    have hi' : st.n + 1 ≤ i := hi
    show upd st.o st.n ob i = .dead
    rw [upd_ne _ _ (by omega)]
    exact hI.dead i (by omega)
  · intro i j hi hj oi oj e
    have hi1 : i < st.n + 1 := hi
    have hj1 : j < st.n + 1 := hj
    by_cases hi' : i < st.n
    · rw [hobs i hi'] at oi
      have hic : i < c.n := by rw [hI.n]; exact hi'
      rw [hle.loc i hic] at e
      by_cases hj' : j < st.n
      · rw [hobs j hj'] at oj
        have hjc : j < c.n := by rw [hI.n]; exact hj'
        rw [hle.loc j hjc] at e
        exact hI.inj i j hi' hj' (oi.mono hle hic) (oj.mono hle hjc) e
      · have : j = c.n := by rw [hI.n]; omega
        subst this
        rw [hlc] at e
        exact absurd e (hno i hi' (oi.mono hle hic))
    · have : i = c.n := by rw [hI.n]; omega
      subst this
      rw [hlc] at e
      by_cases hj' : j < st.n
      · rw [hobs j hj'] at oj
        have hjc : j < c.n := by rw [hI.n]; exact hj'
        rw [hle.loc j hjc] at e
        exact absurd e.symm (hno j hj' (oj.mono hle hjc))
      · rw [hI.n]; omega
  · intro i hi oi
    have hi1 : i < st.n + 1 := hi
    by_cases hi' : i < st.n
    · rw [hobs i hi'] at oi
      have hic : i < c.n := by rw [hI.n]; exact hi'
      rw [hle.loc i hic]
      obtain ⟨h1, h2, h3⟩ := hI.own i hi' (oi.mono hle hic)
      exact ⟨Nat.lt_of_lt_of_le h1 hs.size, h2, h3⟩
    · have : i = c.n := by rw [hI.n]; omega
      subst this
      rw [hlc]
      exact ⟨hl, hF, hM⟩
  · intro i hi
    have hi1 : i < st.n + 1 := hi
    by_cases hi' : i < st.n
    · rw [hle.val i (by rw [hI.n]; exact hi')]; exact hI.one i hi'
    · have : i = c.n := by rw [hI.n]; omega
      subst this
      have : (c.push l v z).val c.n = v := upd_self _ _ _
      rw [this]; exact hv1
  · refine hI.same.trans hs (fun k hk e => ?_)
    subst e
    rcases hM with h | h
    · exact h
    · omega

/-- A new object that has no block. -/
theorem Inv.add0 (hI : Inv E M0 w0 c st w) {ob : Ob} (v : Value) (z : Nat) (hv1 : oneV v = true) (hno : ¬ Owns (c.push 0 v z) c.n ob) (hob : ObOK E (c.push 0 v z) w c.n ob) : Inv E M0 w0 (c.push 0 v z) (st.alloc ob) w := by
  have hle := c.le_push 0 v z
  have hobs : ∀ i, i < st.n → (st.alloc ob).o i = st.o i := fun i hi => upd_ne _ _ (by omega)
  have hobn : (st.alloc ob).o c.n = ob := by rw [hI.n]; exact upd_self _ _ _
  have hlt : ∀ i, i < st.n + 1 → Owns (c.push 0 v z) i ((st.alloc ob).o i) → i < st.n := by
    intro i hi oi
    by_cases hi' : i < st.n
    · exact hi'
    · have : i = c.n := by rw [hI.n]; omega
      subst this
      rw [hobn] at oi
      exact absurd oi hno
  refine ⟨by simp [Ctx.push, St.alloc, hI.n], ?_, ?_, ?_, ?_, hI.F, ?_, hI.same, hI.bnd⟩
  · intro i hi
    by_cases hi' : i < st.n
    · rw [hobs i hi']
      exact (hI.obs i hi').mono hle (by rw [hI.n]; exact hi') (fun _ _ => rfl) (fun _ => rfl)
    · have : i = c.n := by have : i < st.n + 1 := hi; rw [hI.n]; omega
      subst this
      rw [hobn]; exact hob
  · intro i hi
    have hi' : st.n + 1 ≤ i := hi
    show upd st.o st.n ob i = .dead
    rw [upd_ne _ _ (by omega)]
    exact hI.dead i (by omega)
  · intro i j hi hj oi oj e
    have hi' := hlt i hi oi
    have hj' := hlt j hj oj
    rw [hobs i hi'] at oi
    rw [hobs j hj'] at oj
    have hic : i < c.n := by rw [hI.n]; exact hi'
    have hjc : j < c.n := by rw [hI.n]; exact hj'
    rw [hle.loc i hic, hle.loc j hjc] at e
    exact hI.inj i j hi' hj' (oi.mono hle hic) (oj.mono hle hjc) e
  · intro i hi oi
    have hi' := hlt i hi oi
    rw [hobs i hi'] at oi
    have hic : i < c.n := by rw [hI.n]; exact hi'
    rw [hle.loc i hic]
    exact hI.own i hi' (oi.mono hle hic)
  · intro i hi
    have hi1 : i < st.n + 1 := hi
    by_cases hi' : i < st.n
    · rw [hle.val i (by rw [hI.n]; exact hi')]; exact hI.one i hi'
    · have : i = c.n := by rw [hI.n]; omega
      subst this
      have : (c.push 0 v z).val c.n = v := upd_self _ _ _
      rw [this]; exact hv1

/-- A cell that is taken into an element. -/
theorem absorb1_ok (hI : Inv E M0 w0 c st w) {s : SV} {v : Value} {t : T} {st1 : St} (hr : Rel c w s v) (h : st.absorb1 s = some (t, st1)) :
    ∃ F, Inv E M0 w0 (c.withF F) st1 w ∧ (∀ k, c.F k → F k) ∧ RD F w t v ∧ t.one = true ∧ st1.s = st.s ∧ st1.N = st.N ∧ st1.n = st.n := by
  unfold St.absorb1 at h
  split at h
  · cases h
  · rename_i t' hp
    obtain ⟨hd, h1⟩ := peek1_RD hI hr hp
    have hfr : ∀ r, (st.freeze r).s = st.s ∧ (st.freeze r).N = st.N ∧ (st.freeze r).n = st.n := by
      intro r
      unfold St.freeze
      split <;> exact ⟨rfl, rfl, rfl⟩
    split at h
    · rename_i r
      simp only [Option.some.injEq, Prod.mk.injEq] at h
      obtain ⟨rfl, rfl⟩ := h
      obtain ⟨F, f1, f2, f3, _⟩ := hI.freeze r (fun ty cells hb => by simp [St.peek1, hb] at hp)
      exact ⟨F, f1, f2, hd.mono f3 (fun _ _ => rfl), h1, hfr r⟩
    · rename_i r lo hi
      simp only [Option.some.injEq, Prod.mk.injEq] at h
      obtain ⟨rfl, rfl⟩ := h
      obtain ⟨F, f1, f2, f3, _⟩ := hI.freeze r (fun ty cells hb => by simp [St.peek1, hb] at hp)
      exact ⟨F, f1, f2, hd.mono f3 (fun _ _ => rfl), h1, hfr r⟩
    · rename_i hn1 hn2
      simp only [Option.some.injEq, Prod.mk.injEq] at h
      obtain ⟨rfl, rfl⟩ := h
      refine ⟨c.F, hI, fun _ h => h, hd.mono (fun k hk => ?_) (fun _ _ => rfl), h1, rfl, rfl, rfl⟩
      rcases hk with hk | ⟨j, hj, _⟩
      · exact hk
      · cases s <;> simp [rowIds] at hj
        · exact (hn1 _ rfl).elim
        · exact (hn2 _ _ _ rfl).elim
theorem absorbL_ok : ∀ {l : List SV} {c : Ctx} {st st1 : St} {ts : List T} {vs : List Value}, Inv E M0 w0 c st w → vs.length = l.length → (∀ (i : Nat) s v, l[i]? = some s → vs[i]? = some v → Rel c w s v) → st.absorbL l = some (ts, st1) →
    ∃ F, Inv E M0 w0 (c.withF F) st1 w ∧ (∀ k, c.F k → F k) ∧ ts.length = l.length ∧ (∀ t ∈ ts, t.one = true) ∧ (∀ v ∈ vs, oneV v = true) ∧ (∀ (i : Nat) t v, ts[i]? = some t → vs[i]? = some v → RD F w t v) ∧ st1.s = st.s ∧ st1.N = st.N ∧ st1.n = st.n
  | [], c, st, st1, ts, vs, hI, hl, hr, h => by
    simp only [St.absorbL, Option.some.injEq, Prod.mk.injEq] at h
    obtain ⟨rfl, rfl⟩ := h
    obtain rfl : vs = [] := List.eq_nil_of_length_eq_zero hl
    exact ⟨c.F, hI, fun _ h => h, rfl, by simp, by simp, fun i t v ht => by simp at ht, rfl, rfl, rfl⟩
  | s :: r, c, st, st1, ts, vs, hI, hl, hr, h => by
    cases vs with
    | nil => simp at hl
    | cons v vs =>
      unfold St.absorbL at h
      split at h
      · cases h
      · rename_i t st2 h1
        split at h
        · cases h
        · rename_i ts' st3 h2
          simp only [Option.some.injEq, Prod.mk.injEq] at h
          obtain ⟨rfl, rfl⟩ := h
          have hr0 := hr 0 s v rfl rfl
          obtain ⟨F, f1, f2, f3, f4, f5, f6, f7⟩ := absorb1_ok hI hr0 h1
          obtain ⟨F', g1, g2, g3, g4, g4', g5, g6, g7, g8⟩ := absorbL_ok (vs := vs) f1 (by simpa using hl) (fun i s v hs hv => (hr (i + 1) s v (by simpa using hs) (by simpa using hv)).mono (Ctx.le_withF f2) (fun _ _ => rfl)) h2
          refine ⟨F', g1, fun k hk => g2 k (f2 k hk), by simp [g3], ?_, ?_, fun i t' v' ht hv => ?_, g6.trans f5, g7.trans f6, g8.trans f7⟩
          · intro x hx
            rcases List.mem_cons.1 hx with rfl | hx
            · exact f4
            · exact g4 x hx
          · intro x hx
            rcases List.mem_cons.1 hx with rfl | hx
            · exact f3.one f4
            · exact g4' x hx
          · cases i with
            | zero =>
              simp at ht hv
              subst ht; subst hv
              exact f3.mono g2 (fun _ _ => rfl)
            | succ i => exact g5 i t' v' (by simpa using ht) (by simpa using hv)
end
end Go.Ev
