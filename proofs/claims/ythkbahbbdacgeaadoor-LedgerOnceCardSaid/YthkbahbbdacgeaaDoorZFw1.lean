/- The framework, part 1: abstract values, the compact code of a function, and its symbolic evaluator (definitions alone). -/
import GoSem.Dispatch
set_option linter.unusedVariables false
namespace Stk
open Go

/-- Data without references. -/
inductive Tr where
  | bool (b : Bool)
  | int (k : IntKind) (n : Int)
  | str (s : ByteArray)
  | nilp | nilm | nilf | nili
  | sl (full : Bool) (esz : Nat) (xs : List Tr)
  | agg (xs : List Tr)
  | arr (n : Nat) (xs : List Tr)
  deriving Inhabited

/-- Abstract values. -/
inductive AV where
  | t (x : Tr)
  | undef
  | ptr (b i o : Nat) (p : List Nat) (ix : Option Nat)
  | sl (b o : Nat) (p : List Nat) (off len : Nat) (cap : Option Nat)
  | bz (esz : Nat) (xs : List Tr)
  | vp (x : Tr)
  | agg (xs : List AV)
  | tup (xs : List AV)
  | fn (f : FuncId) (first captured : List AV)
  | mp (b : Nat)
  deriving Inhabited

inductive AO where
  | var (v : AV)
  | row (esz : Nat) (xs : List Tr)
  | map (es : List (Tr × Tr)) 
  | gone
  /-- a map that is being ranged over by the iterator i -/
  | mapI (es : List (Tr × Tr)) (i : Nat)
  /-- an iterator over the map m: what is left, what came last -/
  | iter (m : Nat) (es left : List (Tr × Tr)) (last : Option (Tr × Tr))
  /-- a row whose elements hold memory of their own; h: the element that is taken out, and what it is outside -/
  | dr (esz : Nat) (ms : List (AV × List AO)) (h : Option (Nat × AV))
  deriving Inhabited

abbrev Hp := List AO
abbrev Fr := List (Nat × AV)

inductive Opd where
  | tmp (t : Nat)
  | con (v : AV)
  | fn (f : FuncId)
  | glob (g : Nat) (x : Tr)
  deriving Inhabited

inductive Pc where
  | op (x : Opd) (n : Nat)
  | z (x : Tr)
  deriving Inhabited

/-- The shape of comparable data. -/
inductive Sh where
  | bool
  | int (k : IntKind)
  | str
  | agg (xs : List Sh)
  | arr (n : Nat) (s : Sh)
  deriving Inhabited

/-- What kind of thing is held against nil. -/
inductive NK where
  | ptr | sl | mp | fn | ifc

/-- The instructions, all that hangs on types resolved. -/
inductive I where
  | mv (x : Opd)
  | mvf (x : Opd)
  | nsl (esz : Nat)
  | pick (c a b : Opd)
  | alloc (z : Tr) (vs : List Nat)
  | box (x : Opd) (vs : List Nat)
  | mkS (xs : List Pc)
  | mkA (n : Nat) (xs : List Pc)
  | mkSl (esz : Nat) (xs : List Pc)
  | mkSlF (esz : Nat) (xs : List Pc)
  | load (agg : Bool) (n : Nat) (x : Opd)
  | store (n : Nat) (x v : Opd) (vs : List Nat)
  | storeN (n esz : Nat) (x : Opd)
  | nilck (x : Opd)
  | arith (op : BinOp) (x y : Opd)
  | cmp (op : BinOp) (x y : Opd)
  | cmpb (neg : Bool) (x y : Opd)
  | isnil (kd : NK) (neg : Bool) (x : Opd)
  | eqs (neg : Bool) (sh : Sh) (x y : Opd)
  | un (op : UnOp) (x : Opd)
  | toInt (k : IntKind) (x : Opd)
  | b2s (x : Opd)
  | s2b (x : Opd)
  | mks (x : Opd)
  | mkfn (f : FuncId) (first captured : List Opd)
  | mkmap
  | mksl (esz bytes : Nat) (z : Tr) (len cap : Opd)
  | slice (esz : Nat) (x : Opd) (lo hi mx : Option Opd)
  | sliceS (x : Opd) (lo hi : Option Opd)
  | sliceA (n : Nat) (x : Opd) (lo hi mx : Option Opd)
  | fa (off f : Nat) (x : Opd)
  | fld (agg : Bool) (off n f : Nat) (x : Opd)
  | ia (esz : Nat) (x i : Opd)
  | iaA (n : Nat) (x i : Opd)
  | iaC (n esz : Nat) (x i : Opd)
  | ixA (n : Nat) (x i : Opd)
  | ixS (x i : Opd)
  | ext (x : Opd) (i : Nat)
  | call (f : FuncId) (bor : List Bool) (args : List Opd)
  | callv (x : Opd) (bor : List Bool) (args : List Opd)
  | lenL (x : Opd)
  | lenS (x : Opd)
  | lenM (x : Opd)
  | lenA (n : Nat)
  | append (inn : Bool) (esz bytes : Nat) (s x : Opd)
  | copy (esz : Nat) (d s : Opd)
  | clear (esz : Nat) (z : Tr) (x : Opd)
  | mnmx (mx : Bool) (xs : List Opd)
  | lookup (ok : Bool) (z : Tr) (sh : Sh) (m x : Opd)
  | mapup (sh : Sh) (m x v : Opd)
  | del (sh : Sh) (m x : Opd)
  | eqp (neg : Bool) (x y : Opd)
  | range (x : Opd)
  | next (x : Opd)
  | entry (x : Opd)
  | nslD (esz : Nat)
  | mkSlD (esz : Nat) (xs : List Pc)
  | loadD (agg : Bool) (n : Nat) (x : Opd)
  | storeD (n : Nat) (x v : Opd)
  | appD (esz bytes : Nat) (s x : Opd)
  deriving Inhabited

structure IOp where
  dst : Option Nat
  op : I
  guard : Option (Nat × Bool)
  pre : List Nat
  eff : Bool
  deriving Inhabited

inductive IC where
  | skip
  | reg (ops : List IOp)
  | dreg (ops : List IOp)
  | seq (a b : IC)
  | cond (c : Opd) (a b : IC)
  | block (id : Nat) (a : IC)
  | loop (live keep mv : List Nat) (a : IC)
  | exit (id : Nat)
  | ret
  | bad
  deriving Inhabited

inductive IRes where
  | tmp (t : Nat)
  | cell (a : Nat) (agg : Bool) (n : Nat)
  deriving Inhabited

structure IF where
  ntmps : Nat
  results : List IRes
  body : IC
  deriving Inhabited

inductive Ex where
  | normal
  | exit (id : Nat)
  | ret
  deriving DecidableEq

/-- What the evaluator gives. -/
inductive T where
  | ret (e : Ex) (fr : Fr) (H : Hp)
  | stuck (why : String)
  | br (b : Bool) (t e : T)
  | any (t e : T)
  | asrt (b : Bool) (k : T)
  | idx (xs : List Tr) (i : Int) (k : Tr → T)
  | rng (k : IntKind) (n : Int) (f : Int → T)
  | eqv (v v' : AV) (k : T)
  | same (es es' : List (Tr × Tr)) (k : T)
  | nxt (es es' left : List (Tr × Tr)) (over : T) (k : Tr × Tr → List (Tr × Tr) → T)
  | idxD (ms : List (AV × List AO)) (i : Nat) (k : AV → Hp → T)
  | call (f : FuncId) (args : List AV) (H : Hp) (k : AV → Hp → T)
  | loop (live keep mv : List Nat) (c : IC) (fr : Fr) (H : Hp) (k : Ex → Fr → Hp → T)

/-! ### Sizes, in cells -/
mutual
def Tr.sz : Tr → Nat
  | .agg xs => Tr.szs xs
  | .arr n _ => n
  | _ => 1
def Tr.szs : List Tr → Nat
  | [] => 0
  | x :: xs => Tr.szs xs + x.sz
end
mutual
def AV.sz : AV → Nat
  | .t x => x.sz
  | .agg xs => AV.szs xs
  | _ => 1
def AV.szs : List AV → Nat
  | [] => 0
  | x :: xs => AV.szs xs + x.sz
end
def Tr.allSz (n : Nat) : List Tr → Bool
  | [] => true
  | x :: xs => Nat.beq x.sz n && Tr.allSz n xs
def Tr.isAgg : Tr → Bool
  | .agg _ | .arr _ _ => true
  | _ => false
def AV.isAgg : AV → Bool
  | .t x => x.isAgg
  | .agg _ => true
  | _ => false

/-! ### Equality of comparable data -/
mutual
def Tr.eqb : Tr → Tr → Bool
  | .bool a, .bool b => a == b
  | .int _ a, .int _ b => a == b
  | .str a, .str b => a.toList == b.toList
  | .agg xs, .agg ys => Tr.eqbs xs ys
  | .arr _ xs, .arr _ ys => Tr.eqbs xs ys
  | _, _ => false
def Tr.eqbs : List Tr → List Tr → Bool
  | [], [] => true
  | x :: xs, y :: ys => x.eqb y && Tr.eqbs xs ys
  | _, _ => false
end

def kindEq : IntKind → IntKind → Bool
  | .i8, .i8 | .i16, .i16 | .i32, .i32 | .i64, .i64 | .u8, .u8 | .u16, .u16 | .u32, .u32 | .u64, .u64 => true
  | _, _ => false

/-! ### Shapes -/
mutual
def Sh.sz : Sh → Nat
  | .agg xs => Sh.szs xs
  | .arr n _ => n
  | _ => 1
def Sh.szs : List Sh → Nat
  | [] => 0
  | x :: xs => Sh.szs xs + x.sz
end
def Sh.isAgg : Sh → Bool
  | .agg _ | .arr _ _ => true
  | _ => false
mutual
def Tr.fits : Tr → Sh → Bool
  | .bool _, .bool => true
  | .int k _, .int j => kindEq k j
  | .str _, .str => true
  | .agg xs, .agg ss => Tr.fitss xs ss
  | .arr n xs, .arr m s => Nat.beq n m && Tr.fitsa xs s
  | _, _ => false
def Tr.fitss : List Tr → List Sh → Bool
  | [], [] => true
  | x :: xs, s :: ss => x.fits s && Tr.fitss xs ss
  | _, _ => false
def Tr.fitsa : List Tr → Sh → Bool
  | [], _ => true
  | x :: xs, s => x.fits s && Tr.fitsa xs s
end

/-! ### Steps in continuation form: what is handed on is always written out -/
def lk (t : Nat) (k : AV → T) : Fr → T
  | [] => k .undef
  | (n, v) :: r => match Nat.beq n t with
    | true => k v
    | false => lk t k r

/-- Numbers from 30 on as literals. -/
def litB (n : Nat) (k : Nat → T) : T :=
  match n with
  | 30 => k 30 | 31 => k 31 | 32 => k 32 | 33 => k 33 | 34 => k 34 | 35 => k 35 | 36 => k 36 | 37 => k 37 | 38 => k 38 | 39 => k 39
  | 40 => k 40 | 41 => k 41 | 42 => k 42 | 43 => k 43 | 44 => k 44 | 45 => k 45 | 46 => k 46 | 47 => k 47 | 48 => k 48 | 49 => k 49
  | 50 => k 50 | 51 => k 51 | 52 => k 52 | 53 => k 53 | 54 => k 54 | 55 => k 55 | 56 => k 56 | 57 => k 57 | 58 => k 58 | 59 => k 59
  | 60 => k 60 | 61 => k 61 | 62 => k 62 | 63 => k 63 | 64 => k 64 | 65 => k 65 | 66 => k 66 | 67 => k 67 | 68 => k 68 | 69 => k 69
  | 70 => k 70 | 71 => k 71 | 72 => k 72 | 73 => k 73 | 74 => k 74 | 75 => k 75 | 76 => k 76 | 77 => k 77 | 78 => k 78 | 79 => k 79
  | n => k n
/-- A small number as a literal. -/
def litK (n : Nat) (k : Nat → T) : T :=
  match n with
  | 0 => k 0 | 1 => k 1 | 2 => k 2 | 3 => k 3 | 4 => k 4 | 5 => k 5 | 6 => k 6 | 7 => k 7 | 8 => k 8 | 9 => k 9
  | 10 => k 10 | 11 => k 11 | 12 => k 12 | 13 => k 13 | 14 => k 14 | 15 => k 15 | 16 => k 16 | 17 => k 17 | 18 => k 18 | 19 => k 19
  | 20 => k 20 | 21 => k 21 | 22 => k 22 | 23 => k 23 | 24 => k 24 | 25 => k 25 | 26 => k 26 | 27 => k 27 | 28 => k 28 | 29 => k 29
  | n => litB n k

def nthK {α : Type} (k : α → T) : Nat → List α → T
  | _, [] => .stuck "nth"
  | 0, x :: _ => k x
  | n + 1, _ :: xs => nthK k n xs

def setK {α : Type} (v : α) : Nat → List α → (List α → T) → T
  | _, [], _ => .stuck "set"
  | 0, _ :: xs, k => k (v :: xs)
  | n + 1, x :: xs, k => setK v n xs fun ys => k (x :: ys)

/-- One more at the end. -/
def snocK {α : Type} (v : α) : List α → (List α → T) → T
  | [], k => k [v]
  | x :: xs, k => snocK v xs fun ys => k (x :: ys)

/-- A new block. -/
def newK (o : AO) (H : Hp) (k : Nat → Hp → T) : T := litK H.length fun n => snocK o H fun H' => k n H'

def evK (fr : Fr) (x : Opd) (k : AV → T) : T :=
  match x with
  | .tmp t => lk t k fr
  | .con v => k v
  | .fn f => k (.fn f [] [])
  | .glob _ x => k (.vp x)

def evsK (fr : Fr) : List Opd → (List AV → T) → T
  | [], k => k []
  | x :: xs, k => evK fr x fun v => evsK fr xs fun vs => k (v :: vs)

/-- What may lie in memory. -/
def AV.solid : AV → Bool
  | .undef | .tup _ => false
  | _ => true
def solidK (v : AV) (k : T) : T :=
  match v.solid with
  | true => k
  | false => .stuck "undefined"

def srcsK (fr : Fr) : List Pc → (List AV → T) → T
  | [], k => k []
  | .op x n :: xs, k => evK fr x fun v => match v.solid, Nat.beq v.sz n with
    | true, true => srcsK fr xs fun vs => k (v :: vs)
    | _, _ => .stuck "part: size"
  | .z x :: xs, k => srcsK fr xs fun vs => k (.t x :: vs)

/-- All of them data? -/
def allTr (no : T) : List AV → (List Tr → T) → T
  | [], k => k []
  | .t x :: xs, k => allTr no xs fun ys => k (x :: ys)
  | _ :: _, _ => no

mutual
/-- A value made data: own slices are frozen; their blocks are used up. -/
def frzK (H : Hp) : AV → (Tr → Hp → T) → T
  | .t x, k => k x H
  | .sl b _ _ off len _, k => nthK (fun o => match o with
    | .row esz xs => setK .gone b H fun H' => k (.sl false esz ((xs.drop off).take len)) H'
    | _ => .stuck "freeze: no row") b H
  | .agg xs, k => frzsK H xs fun ys H' => k (.agg ys) H'
  | _, _ => .stuck "freeze"
def frzsK (H : Hp) : List AV → (List Tr → Hp → T) → T
  | [], k => k [] H
  | x :: xs, k => frzK H x fun y H1 => frzsK H1 xs fun ys H2 => k (y :: ys) H2
end

/-- Fields that are to be slices of the own: a nil one becomes an empty own one. -/
def virtK (H : Hp) (v : AV) (k : AV → Hp → T) : T :=
  match v with
  | .t (.sl true esz []) => newK (.row esz []) H fun b H' => k (.sl b 0 [] 0 0 none) H'
  | v => k v H

def mkAgg (vs : List AV) (k : AV → T) : T := allTr (k (.agg vs)) vs fun xs => k (.t (.agg xs))

def toAVs : List Tr → List AV
  | [] => []
  | x :: xs => .t x :: toAVs xs

/-- the fields of a struct -/
def fieldsK (v : AV) (k : List AV → T) : T :=
  match v with
  | .agg vs => k vs
  | .t (.agg xs) => k (toAVs xs)
  | _ => .stuck "fields"

def virtsK : List Nat → AV → Hp → (AV → Hp → T) → T
  | [], v, H, k => k v H
  | f :: fs, v, H, k => fieldsK v fun vs => nthK (fun x => virtK H x fun y H' => setK y f vs fun vs' => virtsK fs (.agg vs') H' k) f vs

/-- The part of a value at a path, and how many cells lie ahead of it. -/
def getT : List Nat → Tr → Nat → (Tr → Nat → T) → T
  | [], x, o, k => k x o
  | f :: p, x, o, k => match x with
    | .agg xs => go f xs o fun y o' => getT p y o' k
    | _ => .stuck "path"
where
  go : Nat → List Tr → Nat → (Tr → Nat → T) → T
    | _, [], _, _ => .stuck "path: no such field"
    | 0, x :: _, o, k => k x o
    | n + 1, x :: xs, o, k => go n xs (o + x.sz) k

def getA : List Nat → AV → Nat → (AV → Nat → T) → T
  | [], x, o, k => k x o
  | f :: p, x, o, k => match x with
    | .agg xs => go f xs o fun y o' => getA p y o' k
    | .t (.agg xs) => getT.go f xs o fun y o' => getT p y o' fun z o'' => k (.t z) o''
    | _ => .stuck "path"
where
  go : Nat → List AV → Nat → (AV → Nat → T) → T
    | _, [], _, _ => .stuck "path: no such field"
    | 0, x :: _, o, k => k x o
    | n + 1, x :: xs, o, k => go n xs (o + x.sz) k

/-- The value with another part at a path. -/
def setT (y : Tr) : List Nat → Tr → (Tr → T) → T
  | [], _, k => k y
  | f :: p, x, k => match x with
    | .agg xs => nthK (fun z => setT y p z fun z' => setK z' f xs fun xs' => k (.agg xs')) f xs
    | _ => .stuck "path"

def setA (y : AV) : List Nat → AV → (AV → T) → T
  | [], _, k => k y
  | f :: p, x, k => fieldsK x fun xs => nthK (fun z => setA y p z fun z' => setK z' f xs fun xs' => mkAgg xs' k) f xs

/-- Values of one cell each. -/
def AV.all1 : List AV → Bool
  | [] => true
  | x :: xs => match Nat.beq x.sz 1, x.isAgg with
    | true, false => AV.all1 xs
    | _, _ => false

def loadK (agg : Bool) (n : Nat) (H : Hp) (a : AV) (k : AV → T) : T :=
  match a with
  | .vp x => match Nat.beq x.sz n, x.isAgg, agg with
    | true, true, true | true, false, false => k (.t x)
    | _, _, _ => .stuck "load: size"
  | .ptr b i o p ix => nthK (fun ob => match ob with
    | .var v => getA p v 0 fun sub o' => match Nat.beq o o', i with
      | false, _ => .stuck "load: offset"
      | true, _ + 1 => .stuck "load: offset"
      | true, 0 => match ix with
        | none => match Nat.beq sub.sz n, sub.isAgg, agg with
          | true, true, true | true, false, false => k sub
          | _, _, _ => .stuck "load: size"
        | some j => match sub, agg, n with
          | .t (.arr _ xs), false, 1 => .idx xs j fun y => k (.t y)
          | .agg vs, false, 1 => match AV.all1 vs with
            | true => nthK k j vs
            | false => .stuck "load: array"
          | _, _, _ => .stuck "load: array"
    | .row _ xs => .idx xs i fun x => getT p x 0 fun sub o' => match Nat.beq o o' with
      | false => .stuck "load: offset"
      | true => match ix with
        | none => match Nat.beq sub.sz n, sub.isAgg, agg with
          | true, true, true | true, false, false => k (.t sub)
          | _, _, _ => .stuck "load: size"
        | some j => match sub, agg, n with
          | .arr _ ys, false, 1 => .idx ys j fun y => k (.t y)
          | _, _, _ => .stuck "load: array"
    | _ => .stuck "load: object") b H
  | _ => .stuck "load: address"

def storeK (n : Nat) (H : Hp) (a v : AV) (k : Hp → T) : T :=
  match a with
  | .ptr b i o p ix => nthK (fun ob => match ob with
    | .var w => solidK v (getA p w 0 fun sub o' => match Nat.beq o o', i with
      | false, _ => .stuck "store: offset"
      | true, _ + 1 => .stuck "store: offset"
      | true, 0 => match ix with
        | none => match Nat.beq sub.sz n, Nat.beq v.sz n with
          | true, true => setA v p w fun w' => setK (.var w') b H k
          | _, _ => .stuck "store: size"
        | some j => match sub, v, n with
          | .t (.arr m xs), .t y, 1 => match y.isAgg with
            | true => .stuck "store: array"
            | false => .asrt (decide (j < xs.length)) (setA (.t (.arr m (xs.set j y))) p w fun w' => setK (.var w') b H k)
          | _, _, _ => .stuck "store: array")
    | .row _ _ => frzK H v fun y H1 => nthK (fun ob1 => match ob1 with
      | .row esz xs => .idx xs i fun x => getT p x 0 fun sub o' => match Nat.beq o o' with
        | false => .stuck "store: offset"
        | true => match ix with
          | none => match Nat.beq sub.sz n, Nat.beq y.sz n with
            | true, true => setT y p x fun x' => setK (.row esz (xs.set i x')) b H1 k
            | _, _ => .stuck "store: size"
          | some j => match sub, y, n with
            | .arr m ys, y, 1 => match y.isAgg with
              | true => .stuck "store: array"
              | false => .asrt (decide (j < ys.length)) (setT (.arr m (ys.set j y)) p x fun x' => setK (.row esz (xs.set i x')) b H1 k)
            | _, _, _ => .stuck "store: an array in a row"
      | _ => .stuck "store: object") b H1
    | _ => .stuck "store: object") b H
  | _ => .stuck "store: address"

def bitsV (op : BinOp) (k : IntKind) (x y : Int) : Int :=
  let a := BitVec.ofInt k.bits x
  let b := BitVec.ofInt k.bits y
  k.wrap (match op with
    | .and => a &&& b
    | .or => a ||| b
    | .xor => a ^^^ b
    | _ => a &&& ~~~b : BitVec k.bits).toNat

def arithK (op : BinOp) (a b : AV) (k : AV → T) : T :=
  match a, b with
  | .t (.int j x), .t (.int j' y) =>
    match op with
    | .shl => .asrt (decide (0 ≤ y)) (.rng j (x * 2 ^ (min y.toNat j.bits)) fun n => k (.t (.int j n)))
    | .shr => .asrt (decide (0 ≤ y)) (k (.t (.int j (x.fdiv (2 ^ (min y.toNat j.bits))))))
    | op => match kindEq j j' with
      | false => .stuck "arith: kinds"
      | true => match op with
        | .add => .rng j (x + y) fun n => k (.t (.int j n))
        | .sub => .rng j (x - y) fun n => k (.t (.int j n))
        | .mul => .rng j (x * y) fun n => k (.t (.int j n))
        | .quo => .asrt (y != 0) (.rng j (x.tdiv y) fun n => k (.t (.int j n)))
        | .rem => .asrt (y != 0) (k (.t (.int j (x.tmod y))))
        | .and => k (.t (.int j (bitsV .and j x y)))
        | .or => k (.t (.int j (bitsV .or j x y)))
        | .xor => k (.t (.int j (bitsV .xor j x y)))
        | .andNot => k (.t (.int j (bitsV .andNot j x y)))
        | _ => .stuck "arith: op"
  | .t (.str s), .t (.str u) => match op with
    | .add => .asrt (decide (((s.size + u.size : Nat) : Int) ≤ IntKind.i64.max)) (k (.t (.str (s ++ u))))
    | _ => .stuck "arith: strings"
  | _, _ => .stuck "arith"

def cmpK (op : BinOp) (a b : AV) (k : AV → T) : T :=
  match a, b with
  | .t (.int j x), .t (.int j' y) => match kindEq j j' with
    | false => .stuck "cmp: kinds"
    | true => match op with
      | .eql => k (.t (.bool (x == y)))
      | .neq => k (.t (.bool (x != y)))
      | .lss => k (.t (.bool (decide (x < y))))
      | .leq => k (.t (.bool (decide (x ≤ y))))
      | .gtr => k (.t (.bool (decide (x > y))))
      | .geq => k (.t (.bool (decide (x ≥ y))))
      | _ => .stuck "cmp: op"
  | .t (.str x), .t (.str y) => match op with
      | .eql => k (.t (.bool (x.toList == y.toList)))
      | .neq => k (.t (.bool (!(x.toList == y.toList))))
      | .lss => k (.t (.bool (Op.bytesLess x.toList y.toList)))
      | .leq => k (.t (.bool (Op.bytesLess x.toList y.toList || x.toList == y.toList)))
      | .gtr => k (.t (.bool (!(Op.bytesLess x.toList y.toList || x.toList == y.toList))))
      | .geq => k (.t (.bool (!(Op.bytesLess x.toList y.toList))))
      | _ => .stuck "cmp: strings"
  | _, _ => .stuck "cmp"

/-- Is a pointer, a slice, a map or a function nil? An empty slice may be. -/
def isnilK (kd : NK) (neg : Bool) (a : AV) (k : AV → T) : T :=
  match kd, a with
  | .ptr, .t .nilp | .mp, .t .nilm | .fn, .t .nilf | .ifc, .t .nili => k (.t (.bool (!neg)))
  | .ptr, .ptr _ _ _ _ _ | .ptr, .vp _ | .fn, .fn _ _ _ | .mp, .mp _ => k (.t (.bool neg))
  | .sl, .t (.sl _ _ xs) | .sl, .bz _ xs => .br (xs.isEmpty) (.any (k (.t (.bool true))) (k (.t (.bool false)))) (k (.t (.bool neg)))
  | .sl, .sl _ _ _ _ len _ => .br (len == 0) (.any (k (.t (.bool true))) (k (.t (.bool false)))) (k (.t (.bool neg)))
  | _, _ => .stuck "isnil"

def unK (op : UnOp) (a : AV) (k : AV → T) : T :=
  match op, a with
  | .not, .t (.bool b) => k (.t (.bool (!b)))
  | .neg, .t (.int j n) => .rng j (0 - n) fun n => k (.t (.int j n))
  | .xor, .t (.int j n) => k (.t (.int j (bitsV .xor j (if j.signed then -1 else j.max) n)))
  | _, _ => .stuck "un"

def byteT (b : UInt8) : Tr := .int .u8 b.toNat
def isByte : Tr → Bool
  | .int .u8 n => decide (0 ≤ n ∧ n < 256)
  | _ => false
def byteOfT : Tr → UInt8
  | .int _ n => UInt8.ofNat n.toNat
  | _ => 0
def strOf (xs : List Tr) : ByteArray := ⟨(xs.map byteOfT).toArray⟩

/-- The elements of a slice or of a string, for reading. -/
def elemsK (esz : Nat) (H : Hp) (a : AV) (k : List Tr → T) : T :=
  match a with
  | .t (.sl _ e xs) => match Nat.beq e esz, xs with
    | true, xs => k xs
    | false, [] => k []
    | _, _ => .stuck "elems: size"
  | .bz e xs => match Nat.beq e esz with
    | true => k xs
    | false => .stuck "elems: size"
  | .t (.str s) => match Nat.beq esz 1 with
    | true => k (s.data.toList.map byteT)
    | false => .stuck "elems: size"
  | .sl b o p off len _ => nthK (fun ob => match ob with
    | .row e xs => match Nat.beq e esz with
      | true => k ((xs.drop off).take len)
      | false => .stuck "elems: size"
    | .var v => getA p v 0 fun sub o' => match sub, Nat.beq o o', Nat.beq esz 1 with
      | .t (.arr _ xs), true, true => .asrt (decide (off + len ≤ xs.length)) (k ((xs.drop off).take len))
      | _, _, _ => .stuck "elems: array"
    | _ => .stuck "elems: object") b H
  | _ => .stuck "elems"

def intK (a : AV) (k : Int → T) : T :=
  match a with
  | .t (.int _ n) => k n
  | _ => .stuck "int"

def ointK (fr : Fr) (x : Option Opd) (k : Option Int → T) : T :=
  match x with
  | none => k none
  | some x => evK fr x fun a => intK a fun n => k (some n)

/-- Bounds of a cut: low, high, in range of `top`. -/
def lowK (lo : Option Int) (h : Nat) (k : Nat → Nat → T) : T :=
  match lo with
  | none => k 0 h
  | some l => .asrt (decide (0 ≤ l ∧ l ≤ (h : Int))) (k l.toNat h)
def cutK (len top : Nat) (lo hi : Option Int) (k : Nat → Nat → T) : T :=
  match hi with
  | none => lowK lo len k
  | some h => .asrt (decide (0 ≤ h ∧ h ≤ (top : Int))) (lowK lo h.toNat k)

def eszK (esz : Nat) (H : Hp) (b : Nat) (k : Nat → T) : T :=
  nthK (fun ob => match ob with
    | .row e xs => match Nat.beq e esz with
      | true => k xs.length
      | false => .stuck "size"
    | .var _ => match Nat.beq esz 1 with
      | true => k 0
      | false => .stuck "size"
    | _ => .stuck "object") b H

def sliceK (esz : Nat) (H : Hp) (a : AV) (lo hi mx : Option Int) (k : AV → T) : T :=
  match a with
  | .t (.sl full e xs) => match Nat.beq e esz with
    | false => .stuck "slice: size"
    | true => match mx with
      | none => match hi with
        | none => cutK xs.length xs.length lo none fun l _ => k (.t (.sl full esz (xs.drop l)))
        | some h => cutK xs.length xs.length lo (some h) fun l h => k (.t (.sl false esz ((xs.take h).drop l)))
      | some m => match hi with
        | none => .stuck "slice: max alone"
        | some h' => .asrt (m == h') (cutK xs.length xs.length lo (some h') fun l h => k (.t (.sl true esz ((xs.take h).drop l))))
  | .bz e xs => match Nat.beq e esz with
    | false => .stuck "slice: size"
    | true => match mx with
      | none => cutK xs.length xs.length lo hi fun l h => k (.bz esz ((xs.take h).drop l))
      | some m => match hi with
        | none => .stuck "slice: max alone"
        | some h' => .asrt (m == h') (cutK xs.length xs.length lo (some h') fun l h => k (.bz esz ((xs.take h).drop l)))
  | .sl b o p off len cap => eszK esz H b (fun rl => match mx with
    | none => cutK len (cap.getD (max len (rl - off))) lo hi fun l h => k (.sl b o p (off + l) (h - l) (match cap with | none => none | some c => some (c - l)))
    | some m => match hi with
      | none => .stuck "slice: max alone"
      | some h' => .asrt (decide (0 ≤ m ∧ m ≤ ((cap.getD len : Nat) : Int))) (cutK len m.toNat lo (some h') fun l h => k (.sl b o p (off + l) (h - l) (some (m.toNat - l)))))
  | _ => .stuck "slice"

def sliceAK (n : Nat) (H : Hp) (a : AV) (lo hi mx : Option Int) (k : AV → T) : T :=
  match a with
  | .ptr b 0 o p none => nthK (fun ob => match ob, mx with
    | .var _, none => cutK n n lo hi fun l h => k (.sl b o p l (h - l) (some (n - l)))
    | _, _ => .stuck "slice: array, max") b H
  | .vp (.arr m xs) => match mx, Nat.beq m n with
    | none, true => cutK n n lo hi fun l h => k (.bz 1 ((xs.take h).drop l))
    | _, _ => .stuck "slice: array, max"
  | _ => .stuck "slice: array"

def faK (off f : Nat) (a : AV) (k : AV → T) : T :=
  match a with
  | .ptr b i o p none => snocK f p fun p' => k (.ptr b i (o + off) p' none)
  | .vp (.agg xs) => getT [f] (.agg xs) 0 fun y o' => match Nat.beq o' off with
    | true => k (.vp y)
    | false => .stuck "field address: offset"
  | _ => .stuck "field address"

def fldK (agg : Bool) (off n f : Nat) (a : AV) (k : AV → T) : T :=
  getA [f] a 0 fun y o' => match Nat.beq o' off, Nat.beq y.sz n, y.isAgg, agg with
    | true, true, true, true | true, true, false, false => k y
    | _, _, _, _ => .stuck "field: offset"

/-- The address of an element of a slice. -/
def iaK (esz : Nat) (H : Hp) (a : AV) (i : Int) (k : AV → T) : T :=
  match a with
  | .t (.sl _ e xs) | .bz e xs => match Nat.beq e esz with
    | true => .idx xs i fun y => k (.vp y)
    | false => .stuck "index: size"
  | .sl b o p off len _ => .asrt (decide (0 ≤ i ∧ i < (len : Int))) (nthK (fun ob => match ob with
    | .row e _ => match Nat.beq e esz with
      | true => k (.ptr b (off + i.toNat) 0 [] none)
      | false => .stuck "index: size"
    | .dr e _ _ => match Nat.beq e esz with
      | true => k (.ptr b (off + i.toNat) 0 [] none)
      | false => .stuck "index: size"
    | .var _ => match Nat.beq esz 1 with
      | true => k (.ptr b 0 o p (some (off + i.toNat)))
      | false => .stuck "index: size"
    | _ => .stuck "index: object") b H)
  | _ => .stuck "index"

def iaAK (n : Nat) (a : AV) (i : Int) (k : AV → T) : T :=
  match a with
  | .ptr b j o p none => .asrt (decide (0 ≤ i ∧ i < (n : Int))) (k (.ptr b j o p (some i.toNat)))
  | .vp (.arr m xs) => match Nat.beq m n with
    | true => .idx xs i fun y => k (.vp y)
    | false => .stuck "index: array"
  | _ => .stuck "index: array"

/-- The address of an element of an array of structs. -/
def iaCK (n esz : Nat) (a : AV) (i : Int) (k : AV → T) : T :=
  match a with
  | .ptr b j o p none => .asrt (decide (0 ≤ i ∧ i < (n : Int))) (litK i.toNat fun q => snocK q p fun p' => k (.ptr b j (o + q * esz) p' none))
  | .vp (.agg xs) => .asrt (decide (0 ≤ i ∧ i < (n : Int))) (litK i.toNat fun q => getT [q] (.agg xs) 0 fun y o' => match Nat.beq o' (q * esz) with
    | true => k (.vp y)
    | false => .stuck "index: offset")
  | _ => .stuck "index: array of structs"

def ixAK (n : Nat) (a : AV) (i : Int) (k : AV → T) : T :=
  match a with
  | .t (.arr m xs) => match Nat.beq m n with
    | true => .idx xs i fun y => k (.t y)
    | false => .stuck "index of an array"
  | _ => .stuck "index of an array"
def ixSK (a : AV) (i : Int) (k : AV → T) : T :=
  match a with
  | .t (.str s) => .asrt (decide (0 ≤ i ∧ i < (s.size : Int))) (k (.t (.int .u8 (s.data.toList.getD i.toNat 0).toNat)))
  | _ => .stuck "index of a value"

/-- Room for an append: the bytes of what it may grow to. -/
def roomy (n bytes : Nat) : Bool := decide (2 * n * bytes ≤ 2 ^ 48 ∧ n < 2 ^ 62)

/-- A part of a list written over. -/
def over {α : Type} (xs : List α) (at_ : Nat) (ys : List α) : List α := xs.take at_ ++ ys ++ xs.drop (at_ + ys.length)

def appendK (inn : Bool) (esz bytes : Nat) (H : Hp) (s : AV) (ys : List Tr) (k : AV → Hp → T) : T :=
  match s with
  | .t (.sl true _ []) => .asrt (roomy ys.length bytes) (newK (.row esz ys) H fun b H' => k (.sl b 0 [] 0 ys.length none) H')
  | .sl b _ p off len cap => nthK (fun ob => match ob, p with
    | .row e xs, [] => match Nat.beq e esz with
      | false => .stuck "append: size"
      | true => match cap with
        | some 0 => .asrt (roomy ys.length bytes) (newK (.row esz ys) H fun b' H' => k (.sl b' 0 [] 0 ys.length none) H')
        | some c => .br (decide (len + ys.length ≤ c))
            (setK (.row esz (over xs (off + len) ys)) b H fun H' => k (.sl b 0 [] off (len + ys.length) (some c)) H')
            (.asrt (roomy (len + ys.length) bytes) (newK (.row esz ((xs.drop off).take len ++ ys)) H fun b' H' => k (.sl b' 0 [] 0 (len + ys.length) none) H'))
        | none => match inn with
          | true => .asrt (decide (off + len + ys.length ≤ xs.length)) (setK (.row esz (over xs (off + len) ys)) b H fun H' => k (.sl b 0 [] off (len + ys.length) none) H')
          | false => .asrt (decide (off = 0 ∧ len ≤ xs.length)) (.asrt (roomy (len + ys.length) bytes) (.br (Nat.beq len xs.length)
              (setK .gone b H fun H1 => newK (.row esz (xs ++ ys)) H1 fun b' H' => k (.sl b' 0 [] 0 (xs ++ ys).length none) H')
              (setK .gone b H fun H1 => newK (.row esz (xs.take len ++ ys)) H1 fun b' H' => k (.sl b' 0 [] 0 (xs.take len ++ ys).length none) H')))
    | _, _ => .stuck "append: object") b H
  | _ => .stuck "append"

def minL (a b : Nat) : Nat := if a ≤ b then a else b

/-- Elements written into a slice from its begin on. -/
def writeK (esz : Nat) (H : Hp) (d : AV) (ys : List Tr) (k : Hp → T) : T :=
  match d with
  | .sl b o p off _ _ => nthK (fun ob => match ob with
    | .row e xs => match p, Nat.beq e esz with
      | [], true => setK (.row e (over xs off ys)) b H k
      | _, _ => .stuck "write: size"
    | .var v => getA p v 0 fun sub o' => match sub, Nat.beq o o', Nat.beq esz 1 with
      | .t (.arr m xs), true, true => .asrt (decide (off + ys.length ≤ xs.length) && !(ys.any Tr.isAgg)) (setA (.t (.arr m (over xs off ys))) p v fun v' => setK (.var v') b H k)
      | _, _, _ => .stuck "write: array"
    | _ => .stuck "write: object") b H
  | _ => .stuck "write"

def copyK (esz : Nat) (H : Hp) (d s : AV) (k : AV → Hp → T) : T :=
  match d with
  | .sl _ _ _ _ dl _ => elemsK esz H s fun ys => writeK esz H d (ys.take dl) fun H' => k (.t (.int .i64 (min ys.length dl : Nat))) H'
  | _ => .stuck "copy"

def clearK (esz : Nat) (z : Tr) (H : Hp) (d : AV) (k : Hp → T) : T :=
  match d with
  | .sl _ _ _ _ dl _ => writeK esz H d (List.replicate dl z) k
  | _ => .stuck "clear"

def mnmxK (mx : Bool) (j : IntKind) : Int → List AV → (AV → T) → T
  | x, [], k => k (.t (.int j x))
  | x, v :: r, k => match v with
    | .t (.int j' y) => match kindEq j j', mx with
      | true, true => mnmxK mx j (max x y) r k
      | true, false => mnmxK mx j (min x y) r k
      | _, _ => .stuck "min"
    | _ => .stuck "min"

/-! ### Maps: keys and elements are data -/
def mfind (x : Tr) : List (Tr × Tr) → Option Tr
  | [] => none
  | (a, v) :: r => if x.eqb a then some v else mfind x r
def mput (x v : Tr) : List (Tr × Tr) → List (Tr × Tr)
  | [] => [(x, v)]
  | (a, u) :: r => if x.eqb a then (x, v) :: r else (a, u) :: mput x v r
def mdel (x : Tr) : List (Tr × Tr) → List (Tr × Tr)
  | [] => []
  | (a, u) :: r => if x.eqb a then r else (a, u) :: mdel x r

/-! ### What is reached; other names -/
mutual
def AV.refs : AV → List Nat
  | .ptr b _ _ _ _ | .sl b _ _ _ _ _ | .mp b => [b]
  | .agg xs | .tup xs => AV.refss xs
  | .fn _ xs ys => AV.refss xs ++ AV.refss ys
  | _ => []
def AV.refss : List AV → List Nat
  | [] => []
  | x :: xs => x.refs ++ AV.refss xs
end
def AO.refs : AO → List Nat
  | .var v => v.refs
  | .mapI _ i => [i]
  | .iter m _ _ _ => [m]
  | .dr _ _ (some (_, v)) => v.refs
  | _ => []
def nameIn (b : Nat) : List Nat → Bool
  | [] => false
  | c :: r => match Nat.beq b c with
    | true => true
    | false => nameIn b r
/-- The blocks that are reached, each once, in the order in which they are met. -/
def reachK (H : Hp) (k : List Nat → T) : Nat → List Nat → List Nat → T
  | 0, _, acc => k acc
  | _ + 1, [], acc => k acc
  | n + 1, b :: ws, acc => match nameIn b acc with
    | true => reachK H k n ws acc
    | false => nthK (fun o => match o with
      | .gone => reachK H k n ws acc
      | o => snocK b acc fun acc' => reachK H k n (o.refs ++ ws) acc') b H
/-- The number under which a name stands in a list. -/
def posK (b : Nat) (no : T) (k : Nat → T) : Nat → List Nat → T
  | _, [] => no
  | n, c :: r => match Nat.beq b c with
    | true => litK n k
    | false => posK b no k (n + 1) r
mutual
/-- A value with its names turned by f; a name that f does not know is lost. -/
def renK (f : Nat → T → (Nat → T) → T) : AV → (AV → T) → T
  | .ptr b i o p ix, k => f b (k .undef) fun b' => k (.ptr b' i o p ix)
  | .sl b o p off len cap, k => f b (k .undef) fun b' => k (.sl b' o p off len cap)
  | .mp b, k => f b (k .undef) fun b' => k (.mp b')
  | .agg xs, k => rensK f xs fun ys => k (.agg ys)
  | .tup xs, k => rensK f xs fun ys => k (.tup ys)
  | .fn g xs ys, k => rensK f xs fun xs' => rensK f ys fun ys' => k (.fn g xs' ys')
  | v, k => k v
def rensK (f : Nat → T → (Nat → T) → T) : List AV → (List AV → T) → T
  | [], k => k []
  | x :: xs, k => renK f x fun y => rensK f xs fun ys => k (y :: ys)
end
def renOK (f : Nat → T → (Nat → T) → T) (o : AO) (k : AO → T) : T :=
  match o with
  | .var v => renK f v fun v' => k (.var v')
  | .mapI es i => f i (k (.map es)) fun i' => k (.mapI es i')
  | .iter m es left last => f m (.stuck "iter") fun m' => k (.iter m' es left last)
  | .dr esz ms (some (i, v)) => renK f v fun v' => k (.dr esz ms (some (i, v')))
  | o => k o
def inward (ρ : List Nat) (b : Nat) (no : T) (k : Nat → T) : T := posK b no k 0 ρ
/-- Names of a focus as names around it: the i-th of ρ; behind it, behind what is around (n blocks). -/
def outward (ρ : List Nat) (n : Nat) (b : Nat) (_ : T) (k : Nat → T) : T := go ρ b
where
  go : List Nat → Nat → T
    | [], j => litK (n + j) k
    | c :: _, 0 => k c
    | _ :: r, j + 1 => go r j
/-- The blocks of a focus. -/
def focK (H : Hp) (ρ : List Nat) : List Nat → (Hp → T) → T
  | [], k => k []
  | b :: r, k => nthK (fun o => renOK (inward ρ) o fun o' => focK H ρ r fun os => k (o' :: os)) b H

/-- Behind a call: the blocks of the focus laid back. -/
def backK (ρ : List Nat) (n : Nat) : List Nat → Hp → Hp → (Hp → T) → T
  | _, [], H, k => k H
  | b :: r, o :: os, H, k => renOK (outward ρ n) o fun o' => setK o' b H fun H' => backK ρ n r os H' k
  | [], o :: os, H, k => renOK (outward ρ n) o fun o' => snocK o' H fun H' => backK ρ n [] os H' k

/-- Behind a loop: rows of the focus come back under new names. -/
def isRow : AO → Bool
  | .row _ _ => true
  | .dr _ _ _ => true
  | _ => false

mutual
def hasSl : Tr → Bool
  | .sl _ _ _ => true
  | .agg xs => hasSls xs
  | _ => false
def hasSls : List Tr → Bool
  | [] => false
  | x :: xs => match hasSl x with
    | true => true
    | false => hasSls xs
end
mutual
/-- Data lent: slices for reading alone. -/
def lendTK : Tr → (AV → T) → T
  | .sl _ e xs, k => k (.bz e xs)
  | .agg xs, k => match hasSls xs with
    | true => lendTsK xs fun ys => k (.agg ys)
    | false => k (.t (.agg xs))
  | x, k => k (.t x)
def lendTsK : List Tr → (List AV → T) → T
  | [], k => k []
  | x :: xs, k => lendTK x fun y => lendTsK xs fun ys => k (y :: ys)
end
mutual
/-- An argument lent: own slices as what they hold. -/
def lendK (H : Hp) : AV → (AV → List Nat → T) → T
  | .sl b o p off len _, k => nthK (fun ob => match ob with
    | .row e xs => k (.bz e ((xs.drop off).take len)) [b]
    | .var v => getA p v 0 fun sub o' => match sub, Nat.beq o o' with
      | .t (.arr _ xs), true => .asrt (decide (off + len ≤ xs.length)) (k (.bz 1 ((xs.drop off).take len)) [b])
      | _, _ => .stuck "lend: array"
    | _ => .stuck "lend") b H
  | .agg xs, k => lendsK H xs fun ys bs => k (.agg ys) bs
  | .t x, k => lendTK x fun v => k v []
  | v, k => k v []
def lendsK (H : Hp) : List AV → (List AV → List Nat → T) → T
  | [], k => k [] []
  | x :: xs, k => lendK H x fun y bs => lendsK H xs fun ys cs => k (y :: ys) (bs ++ cs)
end
def lendArgsK (H : Hp) : List Bool → List AV → (List AV → List Nat → T) → T
  | true :: r, x :: xs, k => lendK H x fun y bs => lendArgsK H r xs fun ys cs => k (y :: ys) (bs ++ cs)
  | false :: r, x :: xs, k => lendArgsK H r xs fun ys cs => k (x :: ys) cs
  | [], x :: xs, k => lendArgsK H [] xs fun ys cs => k (x :: ys) cs
  | _, [], k => k [] []
mutual
/-- Nothing lent in a value. -/
def AV.free : AV → Bool
  | .bz _ _ | .vp _ => false
  | .agg xs | .tup xs => AV.frees xs
  | .fn _ xs ys => AV.frees xs && AV.frees ys
  | _ => true
def AV.frees : List AV → Bool
  | [] => true
  | x :: xs => x.free && AV.frees xs
end
def Hp.free : Hp → Bool
  | [] => true
  | .var v :: H => v.free && Hp.free H
  | .dr _ _ (some (_, v)) :: H => v.free && Hp.free H
  | _ :: H => Hp.free H
def apartB (ρ : List Nat) : List Nat → Bool
  | [] => true
  | b :: bs => !(nameIn b ρ) && apartB ρ bs

/-! ### Rows whose elements hold memory of their own -/
/-- Objects that lie flat. -/
def AO.flat : AO → Bool
  | .var _ | .row _ _ | .map _ => true
  | _ => false
/-- Nothing lent in it. -/
def AO.own : AO → Bool
  | .var v => v.free
  | .row _ _ | .map _ => true
  | _ => false
/-- Objects that lie flat, and hold nothing that is lent. -/
def flatsK (H : Hp) (k : T) : List Nat → T
  | [] => k
  | b :: r => nthK (fun o => match o.own with
    | true => flatsK H k r
    | false => .stuck "close: not flat") b H
def shiftN (N : Nat) (b : Nat) (_ : T) (k : Nat → T) : T := litK (N + b) k
/-- Objects under names behind N. -/
def shiftK (N : Nat) : Hp → (Hp → T) → T
  | [], k => k []
  | o :: os, k => renOK (shiftN N) o fun o' => shiftK N os fun r => k (o' :: r)
def catK : Hp → Hp → (Hp → T) → T
  | [], ys, k => k ys
  | x :: xs, ys, k => catK xs ys fun zs => k (x :: zs)
/-- The i-th element comes out. -/
def openK (H : Hp) (b esz : Nat) (ms : List (AV × List AO)) (i : Nat) (k : AV → Hp → T) : T :=
  .idxD ms i fun v0 Hs => litK H.length fun N => renK (shiftN N) v0 fun v => shiftK N Hs fun Hs' =>
    setK (.dr esz ms (some (i, v))) b H fun H1 => catK H1 Hs' fun H2 => k v H2
def goneK : List Nat → Hp → (Hp → T) → T
  | [], H, k => k H
  | b :: r, H, k => setK .gone b H fun H' => goneK r H' k
/-- The element that is out goes in again. -/
def closeK (b : Nat) (H : Hp) (k : Hp → T) : T :=
  nthK (fun ob => match ob with
    | .dr esz ms (some (i, v)) => reachK H (fun ρ => match nameIn b ρ with
      | true => .stuck "close: the row itself is reached"
      | false => match v.free with
        | false => .stuck "close: lent"
        | true => flatsK H (renK (inward ρ) v fun v' => focK H ρ ρ fun Hs => goneK ρ H fun H1 => setK (.dr esz (ms.set i (v', Hs)) none) b H1 k) ρ) 60 v.refs []
    | _ => k H) b H
/-- All elements that are out, and reached, go in again; with fin the ranges end. -/
def settlesK (fin : Bool) : List Nat → Hp → (Hp → T) → T
  | [], H, k => k H
  | b :: r, H, k => nthK (fun ob => match ob, fin with
    | .dr _ _ (some _), _ => closeK b H fun H' => settlesK fin r H' k
    | .mapI es _, true => setK (.map es) b H fun H' => settlesK fin r H' k
    | _, _ => settlesK fin r H k) b H
def settleK (fin : Bool) (refs : List Nat) (H : Hp) (k : Hp → T) : T := reachK H (fun ρ => settlesK fin ρ H k) 60 refs []

/-- A row of data becomes one whose elements may hold memory of their own. -/
def castK (k : AV → Hp → T) (v : AV) (H : Hp) : T :=
  match v with
  | .sl b o p off len cap => nthK (fun ob => match ob with
    | .row e xs => match o, p, off, Nat.beq len xs.length with
      | 0, [], 0, true => setK (.dr e (xs.map fun y => (.t y, [])) none) b H fun H' => k (.sl b 0 [] 0 len cap) H'
      | _, _, _, _ => .stuck "cast"
    | _ => .stuck "cast") b H
  | _ => .stuck "cast"
/-- One element is put behind a row whose elements hold memory of their own: under a new name, the new element still out. -/
def appDK (esz bytes : Nat) (H : Hp) (s : AV) (v : AV) (k : AV → Hp → T) : T :=
  match s with
  | .sl b 0 [] 0 len cap => closeK b H fun H1 => nthK (fun ob => match ob with
    | .dr e ms none => match Nat.beq e esz with
      | false => .stuck "append: size"
      | true => .asrt (decide (len = ms.length) && Nat.beq (cap.getD len) len) (.asrt (roomy (len + 1) bytes) (setK .gone b H1 fun H2 => newK (.dr esz (ms ++ [(.undef, [])]) (some (ms.length, v))) H2 fun b' H3 => k (.sl b' 0 [] 0 (ms.length + 1) none) H3))
    | _ => .stuck "append: object") b H1
  | _ => .stuck "append"

def callK (f : FuncId) (bor : List Bool) (args : List AV) (H : Hp) (k : AV → Hp → T) : T :=
  lendArgsK H bor args fun args' lent => reachK H (fun ρ => match apartB ρ lent with
    | false => .stuck "call: what is lent is reached"
    | true => rensK (inward ρ) args' fun as => focK H ρ ρ fun Hs => litK H.length fun n =>
      .call f as Hs fun r Hs' => match lent, r.free && Hp.free Hs' with
        | _ :: _, false => .stuck "call: what is lent comes back"
        | _, _ => renK (outward ρ n) r fun r' => backK ρ n ρ Hs' H fun H' => k r' H') 60 (AV.refss args') []

def nb (neg b : Bool) : Bool :=
  match neg with
  | true => !b
  | false => b

def opT (fr : Fr) (H : Hp) (op : I) (k : AV → Hp → T) : T :=
  match op with
  | .mv x => evK fr x fun v => k v H
  | .mvf x => evK fr x fun v => match v with
    | .t y => k (.t y) H
    | .sl b o p off len cap => frzK H (.sl b o p off len cap) fun y H' => match y.isAgg with
      | true => .stuck "freeze"
      | false => k (.t y) H'
    | _ => .stuck "freeze"
  | .nsl esz => newK (.row esz []) H fun b H' => k (.sl b 0 [] 0 0 none) H'
  | .pick c a b => evK fr c fun v => match v with
    | .t (.bool v) => .br v (evK fr a fun x => k x H) (evK fr b fun x => k x H)
    | _ => .stuck "pick"
  | .alloc z vs => virtsK vs (.t z) H fun v H1 => newK (.var v) H1 fun b H' => k (.ptr b 0 0 [] none) H'
  | .box x vs => evK fr x fun v => solidK v <| virtsK vs v H fun v' H1 => newK (.var v') H1 fun b H' => k (.ptr b 0 0 [] none) H'
  | .mkS xs => srcsK fr xs fun vs => mkAgg vs fun v => k v H
  | .mkA n xs => srcsK fr xs fun vs => allTr (.stuck "array") vs fun ys => match Nat.beq ys.length n, ys.any Tr.isAgg with
    | true, false => k (.t (.arr n ys)) H
    | _, _ => .stuck "array"
  | .mkSl esz xs => srcsK fr xs fun vs => litK vs.length fun n =>
      allTr (newK (.var (.agg vs)) H fun b H' => k (.sl b 0 [] 0 n (some n)) H') vs fun ys => match Tr.allSz esz ys with
        | true => newK (.row esz ys) H fun b H' => k (.sl b 0 [] 0 n (some n)) H'
        | false => .stuck "literal: size"
  | .mkSlF esz xs => srcsK fr xs fun vs => litK vs.length fun n => frzsK H vs fun ys H1 => match Tr.allSz esz ys with
      | true => newK (.row esz ys) H1 fun b H' => k (.sl b 0 [] 0 n (some n)) H'
      | false => .stuck "literal: size"
  | .load agg n x => evK fr x fun a => loadK agg n H a fun v => k v H
  | .store n x y vs => evK fr x fun a => evK fr y fun v => solidK v <| virtsK vs v H fun v' H1 => storeK n H1 a v' fun H' => k .undef H'
  | .storeN n esz x => evK fr x fun a => newK (.row esz []) H fun b H1 => storeK n H1 a (.sl b 0 [] 0 0 none) fun H' => k .undef H'
  | .nilck x => evK fr x fun v => match v with
    | .ptr b i o p ix => k (.ptr b i o p ix) H
    | .vp x => k (.vp x) H
    | .fn f xs ys => k (.fn f xs ys) H
    | _ => .stuck "nil"
  | .arith op x y => evK fr x fun a => evK fr y fun b => arithK op a b fun v => k v H
  | .cmp op x y => evK fr x fun a => evK fr y fun b => cmpK op a b fun v => k v H
  | .cmpb neg x y => evK fr x fun a => evK fr y fun b => match a, b with
    | .t (.bool p), .t (.bool q) => k (.t (.bool (nb neg (p == q)))) H
    | _, _ => .stuck "bools"
  | .isnil kd neg x => evK fr x fun a => isnilK kd neg a fun v => k v H
  | .eqs neg sh x y => evK fr x fun a => evK fr y fun b => match a, b with
    | .t x, .t y => .asrt (x.fits sh && y.fits sh) (k (.t (.bool (nb neg (x.eqb y)))) H)
    | _, _ => .stuck "eq"
  | .un op x => evK fr x fun a => unK op a fun v => k v H
  | .toInt j x => evK fr x fun a => match a with
    | .t (.int _ n) => .rng j n fun n => k (.t (.int j n)) H
    | _ => .stuck "conversion"
  | .b2s x => evK fr x fun a => match a with
    | .t (.str _) => .stuck "b2s: a string"
    | _ => elemsK 1 H a fun xs => .asrt (xs.all isByte) (k (.t (.str (strOf xs))) H)
  | .s2b x => evK fr x fun a => match a with
    | .t (.str s) => newK (.row 1 (s.data.toList.map byteT)) H fun b H' => k (.sl b 0 [] 0 (s.data.toList.map byteT).length none) H'
    | _ => .stuck "conversion"
  | .mks x => evK fr x fun a => match a with
    | .sl b o p off len cap => .asrt (Nat.blt 0 len) (nthK (fun ob => match ob with
      | .row _ _ => k (.sl b o p off len cap) H
      | _ => .stuck "a slice's mark") b H)
    | _ => .stuck "a slice's mark"
  | .mkfn f xs ys => evsK fr xs fun vs => evsK fr ys fun ws => k (.fn f vs ws) H
  | .mkmap => newK (.map []) H fun b H' => k (.mp b) H'
  | .mksl esz bytes z l c => evK fr l fun a => intK a fun l => evK fr c fun a => intK a fun c =>
      .asrt (decide (0 ≤ l ∧ l ≤ c ∧ c * bytes ≤ 2 ^ 48 ∧ c < 2 ^ 63)) (newK (.row esz (List.replicate c.toNat z)) H fun b H' => k (.sl b 0 [] 0 l.toNat (some c.toNat)) H')
  | .slice esz x lo hi mx => evK fr x fun a => ointK fr lo fun l => ointK fr hi fun h => ointK fr mx fun m => sliceK esz H a l h m fun v => k v H
  | .sliceS x lo hi => evK fr x fun a => ointK fr lo fun l => ointK fr hi fun h => match a with
    | .t (.str s) => cutK s.size s.size l h fun l h => k (.t (.str (s.extract l h))) H
    | _ => .stuck "slice of a string"
  | .sliceA n x lo hi mx => evK fr x fun a => ointK fr lo fun l => ointK fr hi fun h => ointK fr mx fun m => sliceAK n H a l h m fun v => k v H
  | .fa off f x => evK fr x fun a => faK off f a fun v => k v H
  | .fld agg off n f x => evK fr x fun a => fldK agg off n f a fun v => k v H
  | .ia esz x i => evK fr x fun a => evK fr i fun j => intK j fun n => iaK esz H a n fun v => k v H
  | .iaA m x i => evK fr x fun a => evK fr i fun j => intK j fun n => iaAK m a n fun v => k v H
  | .iaC m esz x i => evK fr x fun a => evK fr i fun j => intK j fun n => iaCK m esz a n fun v => k v H
  | .ixA m x i => evK fr x fun a => evK fr i fun j => intK j fun n => ixAK m a n fun v => k v H
  | .ixS x i => evK fr x fun a => evK fr i fun j => intK j fun n => ixSK a n fun v => k v H
  | .ext x i => evK fr x fun a => match a with
    | .tup vs => nthK (fun v => k v H) i vs
    | _ => .stuck "extract"
  | .call f bor args => evsK fr args fun vs => settleK false (AV.refss vs) H fun H1 => callK f bor vs H1 k
  | .callv x bor args => evK fr x fun g => evsK fr args fun vs => match g with
    | .fn f first cap => settleK false (AV.refss (first ++ vs ++ cap)) H fun H1 => callK f (List.replicate first.length false ++ bor) (first ++ vs ++ cap) H1 k
    | _ => .stuck "call of a value"
  | .lenL x => evK fr x fun a => match a with
    | .t (.sl _ _ xs) => k (.t (.int .i64 (xs.length : Int))) H
    | .bz _ xs => k (.t (.int .i64 (xs.length : Int))) H
    | .sl _ _ _ _ len _ => k (.t (.int .i64 (len : Int))) H
    | _ => .stuck "len"
  | .lenS x => evK fr x fun a => match a with
    | .t (.str s) => k (.t (.int .i64 (s.size : Int))) H
    | _ => .stuck "len of a string"
  | .lenM x => evK fr x fun a => match a with
    | .t .nilm => k (.t (.int .i64 0)) H
    | .mp b => nthK (fun o => match o with
      | .map es => k (.t (.int .i64 (es.length : Int))) H
      | .mapI es _ => k (.t (.int .i64 (es.length : Int))) H
      | _ => .stuck "len of a map") b H
    | _ => .stuck "len of a map"
  | .lenA n => k (.t (.int .i64 (n : Int))) H
  | .append inn esz bytes s x => evK fr s fun a => evK fr x fun b => match a with
    | .sl _ _ _ _ _ _ | .t (.sl true _ []) => match b with
      | .sl c o p off len _ => nthK (fun ob => match ob with
          | .var (.agg vs) => match o, p, off, Nat.beq len vs.length with
            | 0, [], 0, true => frzsK H vs fun ys H1 => match Tr.allSz esz ys with
              | true => appendK inn esz bytes H1 a ys k
              | false => .stuck "append: size"
            | _, _, _, _ => elemsK esz H b fun ys => appendK inn esz bytes H a ys k
          | _ => elemsK esz H b fun ys => appendK inn esz bytes H a ys k) c H
      | _ => elemsK esz H b fun ys => appendK inn esz bytes H a ys k
    | _ => .stuck "append to what?"
  | .copy esz d s => evK fr d fun a => evK fr s fun b => copyK esz H a b k
  | .clear esz z x => evK fr x fun a => clearK esz z H a fun H' => k (.tup []) H'
  | .mnmx mx xs => evsK fr xs fun vs => match vs with
    | .t (.int j x) :: vs => mnmxK mx j x vs fun v => k v H
    | _ => .stuck "min"
  | .lookup ok z sh m x => evK fr m fun a => evK fr x fun y => match a, y with
    | .t .nilm, .t y => .asrt (y.fits sh) (match ok with
      | true => k (.tup [.t z, .t (.bool false)]) H
      | false => k (.t z) H)
    | .mp b, .t y => nthK (fun o => match o with
      | .map es => .asrt (y.fits sh && es.all (fun p => p.1.fits sh)) (match ok with
        | true => k (.tup [.t ((mfind y es).getD z), .t (.bool (mfind y es).isSome)]) H
        | false => k (.t ((mfind y es).getD z)) H)
      | .mapI es _ => .asrt (y.fits sh && es.all (fun p => p.1.fits sh)) (match ok with
        | true => k (.tup [.t ((mfind y es).getD z), .t (.bool (mfind y es).isSome)]) H
        | false => k (.t ((mfind y es).getD z)) H)
      | _ => .stuck "lookup") b H
    | _, _ => .stuck "lookup"
  | .mapup sh m x v => evK fr m fun a => evK fr x fun y => evK fr v fun u => match a, y with
    | .mp b, .t y => frzK H u fun u' H1 => nthK (fun o => match o with
      | .map es => .asrt (y.fits sh && es.all (fun p => p.1.fits sh)) (setK (.map (mput y u' es)) b H1 fun H' => k .undef H')
      | _ => .stuck "map") b H1
    | _, _ => .stuck "map"
  | .del sh m x => evK fr m fun a => evK fr x fun y => match a, y with
    | .t .nilm, .t y => .asrt (y.fits sh) (k (.tup []) H)
    | .mp b, .t y => nthK (fun o => match o with
      | .map es => .asrt (y.fits sh && es.all (fun p => p.1.fits sh)) (setK (.map (mdel y es)) b H fun H' => k (.tup []) H')
      | _ => .stuck "delete") b H
    | _, _ => .stuck "delete"
  | .eqp neg x y => evK fr x fun a => evK fr y fun b => match b with
    | .t .nilp => isnilK .ptr neg a fun v => k v H
    | b => match a with
      | .t .nilp => isnilK .ptr neg b fun v => k v H
      | _ => .stuck "pointers"
  | .range x => evK fr x fun a => match a with
    | .mp m => nthK (fun o => match o with
      | .map es => newK (.iter m es es none) H fun i H1 => setK (.mapI es i) m H1 fun H2 => k (.ptr i 0 0 [] none) H2
      | .mapI es _ => newK (.iter m es es none) H fun i H1 => setK (.mapI es i) m H1 fun H2 => k (.ptr i 0 0 [] none) H2
      | _ => .stuck "range") m H
    | _ => .stuck "range"
  | .next x => evK fr x fun a => match a with
    | .ptr i 0 0 [] none => nthK (fun o => match o with
      | .iter m es left _ => nthK (fun o' => match o' with
        | .mapI es' j => match Nat.beq j i with
          | true => .nxt es es' left (setK (.map es') m H fun H1 => setK .gone i H1 fun H2 => k (.tup [.t (.bool false)]) H2)
              (fun p left' => setK (.iter m es left' (some p)) i H fun H1 => k (.tup [.t (.bool true), .t p.1, .t p.2]) H1)
          | false => .stuck "next"
        | _ => .stuck "next") m H
      | _ => .stuck "next") i H
    | _ => .stuck "next"
  | .entry x => evK fr x fun a => match a with
    | .ptr i 0 0 [] none => nthK (fun o => match o with
      | .iter m es _ (some p) => nthK (fun o' => match o' with
        | .mapI es' j => match Nat.beq j i with
          | true => .same es es' (k (.tup [.t p.1, .t p.2]) H)
          | false => .stuck "entry"
        | _ => .stuck "entry") m H
      | _ => .stuck "entry") i H
    | _ => .stuck "entry"
  | .nslD esz => newK (.row esz []) H fun b H' => castK k (.sl b 0 [] 0 0 none) H'
  | .mkSlD esz xs => srcsK fr xs fun vs => litK vs.length fun n =>
      allTr (newK (.var (.agg vs)) H fun b H' => castK k (.sl b 0 [] 0 n (some n)) H') vs fun ys => match Tr.allSz esz ys with
        | true => newK (.row esz ys) H fun b H' => castK k (.sl b 0 [] 0 n (some n)) H'
        | false => .stuck "literal: size"
  | .loadD agg n x => evK fr x fun a => match a with
    | .ptr b i 0 [] none => closeK b H fun H1 => nthK (fun o => match o with
      | .dr esz ms none => match Nat.beq esz n with
        | true => openK H1 b esz ms i fun v H2 => match v.isAgg, agg with
          | true, true | false, false => k v H2
          | _, _ => .stuck "load: deep"
        | false => .stuck "load: deep"
      | _ => .stuck "load: deep") b H1
    | _ => .stuck "load: deep"
  | .storeD n x y => evK fr x fun a => evK fr y fun v => solidK v <| match a with
    | .ptr b i 0 [] none => closeK b H fun H1 => nthK (fun o => match o with
      | .dr esz ms none => match Nat.beq esz n, Nat.beq v.sz n with
        | true, true => .asrt (decide (i < ms.length)) (setK (.dr esz ms (some (i, v))) b H1 fun H2 => k .undef H2)
        | _, _ => .stuck "store: deep"
      | _ => .stuck "store: deep") b H1
    | _ => .stuck "store: deep"
  | .appD esz bytes s x => evK fr s fun a => evK fr x fun y => match y with
    | .sl c o p off len _ => nthK (fun ob => match ob with
      | .var (.agg [v]) => match o, p, off, len, Nat.beq v.sz esz with
        | 0, [], 0, 1, true => appDK esz bytes H a v k
        | _, _, _, _, _ => .stuck "append: deep"
      | .row _ [y] => match off, len, Nat.beq y.sz esz with
        | 0, 1, true => appDK esz bytes H a (.t y) k
        | _, _, _ => .stuck "append: deep"
      | _ => .stuck "append: deep") c H
    | _ => .stuck "append: deep"

def put (dst : Option Nat) (v : AV) (fr : Fr) : Fr :=
  match dst with
  | none => fr
  | some d => (d, v) :: fr

def iopT (o : IOp) (fr : Fr) (H : Hp) (k : Fr → Hp → T) : T :=
  match o.guard with
  | none => opT fr H o.op fun v H' => k (put o.dst v fr) H'
  | some (g, want) => lk g (fun v => match v with
    | .t (.bool b) => match want with
      | true => .br b (opT fr H o.op fun v H' => k (put o.dst v ((g, .t (.bool true)) :: fr)) H') (k (put o.dst (.tup []) ((g, .t (.bool false)) :: fr)) H)
      | false => .br b (k (put o.dst (.tup []) ((g, .t (.bool true)) :: fr)) H) (opT fr H o.op fun v H' => k (put o.dst v ((g, .t (.bool false)) :: fr)) H')
    | .tup [] => k (put o.dst (.tup []) fr) H
    | _ => .stuck "guard") fr

def opsT : List IOp → Fr → Hp → (Fr → Hp → T) → T
  | [], fr, H, k => k fr H
  | o :: os, fr, H, k => iopT o fr H fun fr' H' => opsT os fr' H' k

/-! ### Drawn regions: the operations with an effect in each order that may be, the others as soon as they may be; and again behind each effect. -/
def subN : List Nat → List Nat → Bool
  | [], _ => true
  | x :: xs, M => nameIn x M && subN xs M
def dropN (D : List Nat) : List Nat → List Nat
  | [] => []
  | x :: xs => match nameIn x D with
    | true => dropN D xs
    | false => x :: dropN D xs

/-- What is ready and without effect, in the text's order. -/
def readsT : Nat → List IOp → List Nat → List Nat → Fr → Hp → (List Nat → List Nat → Fr → T) → T
  | _, [], M, P, fr, _, k => k M P fr
  | i, o :: os, M, P, fr, H, k => match o.eff, nameIn i M, subN o.pre M with
    | false, false, true => iopT o fr H fun fr' _ => litK i fun i => readsT (i + 1) os (i :: M) (i :: P) fr' H k
    | _, _, _ => readsT (i + 1) os M P fr H k

/-- One of them again. -/
def againT (o : IOp) (fr : Fr) (H : Hp) (next : T) : T :=
  match o.guard with
  | none => one
  | some (g, want) => lk g (fun v => match v with
    | .t (.bool b) => match want with
      | true => .br b one off
      | false => .br b off one
    | .tup [] => off
    | _ => .stuck "guard") fr
where
  off : T := match o.dst with
    | none => next
    | some d => lk d (fun v => match v with
      | .tup [] => next
      | _ => .stuck "again") fr
  one : T := opT fr H o.op fun v' _ => match o.dst with
    | none => next
    | some d => lk d (fun v => .eqv v v' next) fr

def againsT (P : List Nat) : Nat → List IOp → Fr → Hp → T → T
  | _, [], _, _, next => next
  | i, o :: os, fr, H, next => match nameIn i P with
    | true => againT o fr H (againsT P (i + 1) os fr H next)
    | false => againsT P (i + 1) os fr H next

/-- Each of the effects that are ready. -/
def candsT (f : Nat → IOp → T) (M : List Nat) : Nat → List IOp → Option T → T
  | _, [], none => .stuck "no effect is ready"
  | _, [], some t => t
  | i, o :: os, acc => match o.eff, nameIn i M, subN o.pre M with
    | true, false, true => litK i fun i => match acc with
      | none => candsT f M (i + 1) os (some (f i o))
      | some t => candsT f M (i + 1) os (some (.any t (f i o)))
    | _, _, _ => candsT f M (i + 1) os acc

def allN : Nat → List IOp → List Nat → Bool
  | _, [], _ => true
  | i, _ :: os, M => nameIn i M && allN (i + 1) os M

def pickT : Nat → List IOp → List Nat → List Nat → Fr → Hp → (Fr → Hp → T) → T
  | 0, _, _, _, _, _, _ => .stuck "fuel"
  | n + 1, ds, M, P, fr, H, k => match allN 0 ds M with
    | true => k fr H
    | false => candsT (fun i o => iopT o fr H fun fr' H' => againsT (dropN o.pre P) 0 ds fr' H' (readsT 0 ds (i :: M) (dropN o.pre P) fr' H' fun M' P' fr'' => pickT n ds M' P' fr'' H' k)) M 0 ds none

def dregT (ds : List IOp) (fr : Fr) (H : Hp) (k : Fr → Hp → T) : T :=
  readsT 0 ds [] [] fr H fun M P fr' => pickT (ds.length + 1) ds M P fr' H k

/-- The slots that live, in their order. -/
def liveK (fr : Fr) : List Nat → (List AV → T) → T
  | [], k => k []
  | t :: ts, k => lk t (fun v => liveK fr ts fun vs => k (v :: vs)) fr

def zipFr : List Nat → List AV → Fr
  | t :: ts, v :: vs => (t, v) :: zipFr ts vs
  | _, _ => []

def renFrK (f : Nat → T → (Nat → T) → T) : Fr → (Fr → T) → T
  | [], k => k []
  | (t, v) :: r, k => renK f v fun v' => renFrK f r fun r' => k ((t, v') :: r')

/-- Which blocks of a focus move in a loop: rows, and those that are named. -/
def mvd (mv : List Nat) (b : Nat) (o : AO) : Bool :=
  match o with
  | .row _ _ => true
  | .dr _ _ _ => true
  | _ => nameIn b mv
def movesK (mv : List Nat) : Nat → Hp → (List Bool → T) → T
  | _, [], k => k []
  | i, o :: os, k => match mvd mv i o with
    | true => movesK mv (i + 1) os fun r => k (true :: r)
    | false => movesK mv (i + 1) os fun r => k (false :: r)

/-- They go out of the heap around. -/
def takeRowsK : List Nat → List Bool → Hp → (Hp → T) → T
  | b :: r, true :: ms, H', k => setK .gone b H' fun H'' => takeRowsK r ms H'' k
  | _ :: r, false :: ms, H', k => takeRowsK r ms H' k
  | _, _, H', k => k H'

/-- Behind a loop: names of the focus as names around: a block that was no row there keeps its name, all others get new ones. -/
def afterName (ρ : List Nat) (ms : List Bool) (n : Nat) (b : Nat) (_ : T) (k : Nat → T) : T := go ρ ms b
where
  go : List Nat → List Bool → Nat → T
    | c :: _, false :: _, 0 => k c
    | _ :: r, _ :: os, j + 1 => go r os j
    | _, _, _ => litK (n + b) k

def afterK (ρ : List Nat) (ms : List Bool) (n : Nat) : List Nat → List Bool → Hp → Hp → (Hp → T) → T
  | _, _, [], H, k => k H
  | b :: r, h :: hs, o :: os, H, k => renOK (afterName ρ ms n) o fun o' => match h with
    | true => snocK o' H fun H' => afterK ρ ms n r hs os H' k
    | false => setK o' b H fun H1 => snocK .gone H1 fun H' => afterK ρ ms n r hs os H' k
  | _, _, o :: os, H, k => renOK (afterName ρ ms n) o fun o' => snocK o' H fun H' => afterK ρ ms n [] [] os H' k

def codeT : IC → Fr → Hp → (Ex → Fr → Hp → T) → T
  | .skip, fr, H, k => k .normal fr H
  | .reg ops, fr, H, k => opsT ops fr H fun fr' H' => k .normal fr' H'
  | .dreg ops, fr, H, k => dregT ops fr H fun fr' H' => k .normal fr' H'
  | .seq a b, fr, H, k => codeT a fr H fun e fr' H' => match e with
    | .normal => codeT b fr' H' k
    | e => k e fr' H'
  | .cond c a b, fr, H, k => match c with
    | .tmp t => lk t (fun v => match v with
      | .t (.bool v) => .br v (codeT a ((t, .t (.bool true)) :: fr) H k) (codeT b ((t, .t (.bool false)) :: fr) H k)
      | _ => .stuck "cond") fr
    | .con (.t (.bool v)) => .br v (codeT a fr H k) (codeT b fr H k)
    | _ => .stuck "cond"
  | .block id a, fr, H, k => codeT a fr H fun e fr' H' => match e with
    | .exit j => match Nat.beq j id with
      | true => k .normal fr' H'
      | false => k (.exit j) fr' H'
    | e => k e fr' H'
  | .loop live keep mv a, fr, H0, k => liveK fr live fun vs => settleK false (AV.refss vs) H0 fun H => reachK H (fun ρ =>
      rensK (inward ρ) vs fun vs' => focK H ρ ρ fun Hs => movesK mv 0 Hs fun ms => litK H.length fun n => takeRowsK ρ ms H fun H1 =>
        .loop live keep mv a (zipFr live vs') Hs fun e fr' Hs' => renFrK (afterName ρ ms n) fr' fun fr'' => afterK ρ ms n ρ ms Hs' H1 fun H' => k e fr'' H') 60 (AV.refss vs) []
  | .exit id, fr, H, k => k (.exit id) fr H
  | .ret, fr, H, k => k .ret fr H
  | .bad, _, _, _ => .stuck "bad"

/-- Are the blocks of a focus at a loop's end, that were no rows at its head, at their old places? -/
def stays : Nat → List Bool → List Nat → Bool
  | _, [], _ => true
  | n, true :: os, [] => stays (n + 1) os []
  | _, false :: _, [] => false
  | n, true :: os, _ :: r => stays (n + 1) os r
  | n, false :: os, b :: r => Nat.beq n b && stays (n + 1) os r

/-- One round of a loop: at its end the state as it stands at a head. -/
def roundT (live keep mv : List Nat) (a : IC) (fr : Fr) (H : Hp) : T :=
  movesK mv 0 H fun ms => codeT a fr H fun e fr' H' => match e with
    | .normal => liveK fr' live fun vs => settleK false (AV.refss vs) H' fun H' => reachK H' (fun ρ => match stays 0 ms ρ with
      | true => rensK (inward ρ) vs fun vs' => focK H' ρ ρ fun Hs => .ret .normal (zipFr live vs') Hs
      | false => .stuck "loop: a block moved") 60 (AV.refss vs) []
    | e => liveK fr' keep fun vs => .ret e (zipFr keep vs) H'

def resK (H : Hp) (fr : Fr) : List IRes → (List AV → T) → T
  | [], k => k []
  | .tmp t :: r, k => lk t (fun v => resK H fr r fun vs => k (v :: vs)) fr
  | .cell a agg n :: r, k => lk a (fun p => loadK agg n H p fun v => resK H fr r fun vs => k (v :: vs)) fr

def argsFr : Nat → List AV → Fr
  | _, [] => []
  | n, v :: vs => (n, v) :: argsFr (n + 1) vs

def argFrK (n : Nat) (acc : Fr) : List AV → (Fr → T) → T
  | [], k => k acc
  | v :: vs, k => litK n fun m => argFrK (n + 1) ((m, v) :: acc) vs k

/-- A function's body: the result stands in slot 0. -/
def bodyT (f : IF) (args : List AV) (H : Hp) : T :=
  argFrK 0 [] args fun fr => codeT f.body fr H fun e fr' H' => match e with
    | .exit _ => .stuck "exit"
    | _ => resK H' fr' f.results fun vs => match vs with
      | [v] => .ret .ret [(0, v)] H'
      | vs => .ret .ret [(0, .tup vs)] H'

end Stk
