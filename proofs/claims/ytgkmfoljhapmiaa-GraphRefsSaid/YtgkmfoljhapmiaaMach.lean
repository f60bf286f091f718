/-
A deterministic interpreter of the model's code on an abstract heap, with fuel. Nothing is proved here; its soundness stands in the texts that follow.
-/
import GoSem.Step
set_option linter.unusedSimpArgs false
set_option linter.unusedVariables false
namespace Go.Ev

/-- Where a slice begins: nowhere; a cell of a block at one of its generations; not known (an empty slice cut off at its end). -/
inductive SA where
  | nil
  | at (b g o : Nat)
  | any
  deriving Inhabited, DecidableEq

/-- A value. Addresses are block, generation, offset. A slice whose z is 0 has just the capacity cap; another one, of elements of z cells, has cap at least. -/
inductive V where
  | bool (b : Bool)
  | int (k : IntKind) (n : Int)
  | str (s : ByteArray)
  | nilp
  | ptr (b g o : Nat)
  | sl (a : SA) (len cap z : Nat)
  | nilm
  | map (r : Nat)
  | fn (f : FuncId) (cap : List V)
  | yld (l : Nat)
  | nilFn
  | agg (cs : List V)
  | tup (vs : List V)
  deriving Inhabited

/-- What a temporary holds: a value; the address of a cell, or a slice of cells, of the frame's own memory (slot, version); nothing yet; something that nobody looks at. -/
inductive TV where
  | v (x : V)
  | lp (s ver off : Nat)
  | ls (s ver off len : Nat)
  | u
  | bad
  deriving Inhabited

inductive TD where
  | bool | int (k : IntKind) | str | ptr (e : TypeId) | slice (e : TypeId) | struct (fs : List (Nat × TypeId)) | arr (n : Nat) (e : TypeId)
  | map (k e : TypeId) | func | tup | other
  deriving Inhabited

structure TI where
  desc : TD
  size : Nat
  bytes : Nat
  zero : List V
  eqok : Bool
  deriving Inhabited

/-- A loop over a function: its frame's temporaries and memory, what it assigns, its body; state 0 ready, 1 busy, 2 done, 3 exhausted. -/
structure LoopR where
  state : Nat
  pending : Option Code
  fn : FuncId
  e : List TV
  l : List (Nat × List V)
  params : List Tmp
  assign : Code
  body : Code
  lent : Bool
  deriving Inhabited

inductive Blk where
  | cells (gen : Nat) (rw : Bool) (c : List V)
  | map (ex : Bool) (es : List (V × V × Nat)) (clock : Nat)
  | loop (r : LoopR)
  deriving Inhabited

abbrev Heap := List Blk
abbrev Locs := List (Nat × List V)

structure St where
  e : List TV
  l : Locs
  h : Heap
  deriving Inhabited

inductive Ex where
  | normal | exit (id : Nat) | ret
  deriving Inhabited, DecidableEq

/-- An entry of a plan: an operation; the slots of the frame that its operands lead to; the loads (with theirs) that are looked at again behind it. -/
abbrev PE := Nat × List Nat × List (Nat × List Nat)

/-- What the interpreter is told of the program: types; bodies (with the number of temporaries, and the results); which boxes live in the frame; how regions whose order is open are gone through; functions without arguments of which it is known what they answer (and that they leave no trace). -/
structure Env where
  ty : TypeId → TI
  body : FuncId → Option (Code × Nat × List ResultVar)
  slot : FuncId → Tmp → Option Nat
  nslots : FuncId → Nat
  plan : FuncId → Nat → List PE
  pin : FuncId → Option Bool

def bnd {α β : Type} (x : Option α) (k : α → Option β) : Option β := match x with | some a => k a | none => none
def cnd {α : Type} (b : Bool) (x y : Option α) : Option α := match b with | true => x | false => y
def grd {α : Type} (c : Prop) [Decidable c] (x : Option α) : Option α := if c then x else none

def getT (e : List TV) (t : Nat) : TV := e.getD t .u

def ofValue : Value → Option V
  | .bool b => some (.bool b)
  | .int k n => some (.int k n)
  | .string s => some (.str s)
  | .pointer none => some .nilp
  | .slice none 0 0 => some (.sl .nil 0 0 0)
  | .map none => some .nilm
  | .nilFunc => some .nilFn
  | _ => none

def constT (v : Value) : TV := match ofValue v with | some x => .v x | none => .bad

def opd (e : List TV) : Operand → TV
  | .tmp t => getT e t
  | .const v => constT v
  | .func f => .v (.fn f [])
  | .global _ => .bad

def isCell : V → Bool
  | .agg _ | .tup _ => false
  | _ => true

/-- The cells of a value; a tuple has none. -/
def cellsV : V → Option (List V)
  | .agg cs => some cs
  | .tup _ => none
  | v => some [v]

/-- Is a type's value several cells, or one? (Of some types nothing is known.) -/
def TI.kind (t : TI) : Option Bool := match t.desc with | .struct _ | .arr _ _ => some true | .other => none | _ => some false

def rd (c : List V) (off : Nat) (t : TI) : Option V :=
  bnd t.kind fun ag => cnd ag (grd (off + t.size ≤ c.length) (some (.agg ((c.drop off).take t.size)))) c[off]?

def splice (c : List V) (off : Nat) (vs : List V) : Option (List V) :=
  grd (off + vs.length ≤ c.length) (some (c.take off ++ vs ++ c.drop (off + vs.length)))

def wr (c : List V) (off : Nat) (t : TI) (v : V) : Option (List V) :=
  bnd t.kind fun ag => cnd ag (match v with | .agg cs => grd (cs.length = t.size) (splice c off cs) | _ => none)
    (cnd (isCell v) (grd (off < c.length ∧ t.size = 1) (some (c.set off v))) none)

def hcells (h : Heap) (b g : Nat) : Option (Bool × List V) :=
  match h[b]? with
  | some (.cells g' k c) => grd (g' = g) (some (k, c))
  | _ => none

def lcells (l : Locs) (s ver : Nat) : Option (List V) :=
  match l[s]? with
  | some (ver', c) => grd (ver' = ver ∧ 0 < ver) (some c)
  | none => none

def load (t : TI) (s : St) : TV → Option V
  | .v (.ptr b g o) => bnd (hcells s.h b g) fun p => rd p.2 o t
  | .lp sl ver o => bnd (lcells s.l sl ver) fun c => rd c o t
  | _ => none

/-- A block of cells is written. -/
def putBlk (s : St) (b g : Nat) (w : List V → Option (List V)) : Option St :=
  bnd (hcells s.h b g) fun p => cnd p.1 (bnd (w p.2) fun c' => some { s with h := s.h.set b (.cells g true c') }) none

def store (t : TI) (s : St) (a : TV) (x : V) : Option St :=
  match a with
  | .v (.ptr b g o) => putBlk s b g fun c => wr c o t x
  | .lp sl ver o => bnd (lcells s.l sl ver) fun c => bnd (wr c o t x) fun c' => some { s with l := s.l.set sl (ver, c') }
  | _ => none

def SA.add (a : SA) (n : Nat) : SA := match a with | .at b g o => .at b g (o + n) | a => a

def strEq (a b : ByteArray) : Bool := decide (a.data.toList = b.data.toList)

def intOp (op : BinOp) (k : IntKind) (a b : Int) : Option V :=
  match op with
  | .add => some (.int k (k.wrap (a + b)))
  | .sub => some (.int k (k.wrap (a - b)))
  | .mul => some (.int k (k.wrap (a * b)))
  | .quo => grd (b ≠ 0) (some (.int k (k.wrap (a.tdiv b))))
  | .rem => grd (b ≠ 0) (some (.int k (a.tmod b)))
  | .and => some (.int k (k.wrap (BitVec.ofInt k.bits a &&& BitVec.ofInt k.bits b).toNat))
  | .or => some (.int k (k.wrap (BitVec.ofInt k.bits a ||| BitVec.ofInt k.bits b).toNat))
  | .xor => some (.int k (k.wrap (BitVec.ofInt k.bits a ^^^ BitVec.ofInt k.bits b).toNat))
  | .eql => some (.bool (decide (a = b)))
  | .neq => some (.bool (!decide (a = b)))
  | .lss => some (.bool (decide (a < b)))
  | .leq => some (.bool (decide (a ≤ b)))
  | .gtr => some (.bool (decide (b < a)))
  | .geq => some (.bool (decide (b ≤ a)))
  | _ => none

def shift (op : BinOp) (k : IntKind) (a b : Int) : Option V :=
  match op with
  | .shl => grd (0 ≤ b) (some (.int k (k.wrap (a * 2 ^ (min b.toNat k.bits)))))
  | .shr => grd (0 ≤ b) (some (.int k (a.fdiv (2 ^ (min b.toNat k.bits)))))
  | _ => none

def unOp (op : UnOp) (x : V) : Option V :=
  match op, x with
  | .not, .bool b => some (.bool !b)
  | .neg, .int k n => some (.int k (k.wrap (0 - n)))
  | .xor, .int k n => some (.int k (k.wrap (BitVec.ofInt k.bits (if k.signed then -1 else k.max) ^^^ BitVec.ofInt k.bits n).toNat))
  | _, _ => none

def idx (i : Int) (n : Nat) : Option Nat := grd (0 ≤ i ∧ i < n) (some i.toNat)
def idxLe (i : Int) (n : Nat) : Option Nat := grd (0 ≤ i ∧ i ≤ n) (some i.toNat)

def asInt : TV → Option Int
  | .v (.int _ n) => some n
  | _ => none

def bytesV (s : ByteArray) : List V := s.data.toList.map fun b => .int .u8 b.toNat

def toBytes : List V → Option (List UInt8)
  | [] => some []
  | .int .u8 n :: r => bnd (toBytes r) fun l => some (UInt8.ofNat n.toNat :: l)
  | _ => none

mutual
def vsame : V → V → Bool
  | .bool a, .bool b => a == b
  | .int k a, .int k' b => decide (k = k') && decide (a = b)
  | .str a, .str b => strEq a b
  | .nilp, .nilp => true
  | .ptr b g o, .ptr b' g' o' => decide (b = b') && decide (g = g') && decide (o = o')
  | .sl a n c x, .sl a' n' c' x' => decide (a = a') && decide (n = n') && decide (c = c') && decide (x = x')
  | .nilm, .nilm => true
  | .map a, .map b => decide (a = b)
  | .agg xs, .agg ys => vsames xs ys
  | _, _ => false
def vsames : List V → List V → Bool
  | [], [] => true
  | x :: xs, y :: ys => vsame x y && vsames xs ys
  | _, _ => false
end

/-! Maps. An entry: its key, its value, its stamp. -/
abbrev ME := V × V × Nat
/-- Plain: may be a key. -/
def plainC : V → Bool
  | .bool _ | .int _ _ | .str _ => true
  | _ => false
def plainV : V → Bool
  | .agg cs => cs.all plainC
  | v => plainC v
def findM (k : V) (es : List ME) : Option ME := es.find? fun e => vsame k e.1
/-- A map's entries with one written. -/
def putM (k v : V) (es : List ME) (c : Nat) : List ME × Nat :=
  match findM k es with
  | some _ => (es.map fun e => cond (vsame k e.1) (e.1, v, e.2.2) e, c)
  | none => (es ++ [(k, v, c)], c + 1)
def outV (ok : Bool) (v : V) (b : Bool) : V := cond ok (.tup [v, .bool b]) v
def zeroV (t : TI) : Option V := grd (t.zero.length = t.size ∧ 0 < t.size) (bnd t.kind fun ag => cnd ag (some (.agg t.zero)) t.zero.head?)

def reps (n : Nat) (z : List V) : List V := (List.replicate n z).flatten

section
variable (T : TypeId → TI)

/-- Equal, of two values of a type; by the type for structs and arrays. -/
def veq : Nat → TypeId → V → V → Option Bool
  | 0, _, _, _ => none
  | d + 1, t, x, y =>
    match (T t).desc, x, y with
    | .int _, .int k a, .int k' b => grd (k = k') (some (decide (a = b)))
    | .str, .str a, .str b => some (strEq a b)
    | .bool, .bool a, .bool b => some (a == b)
    | .ptr _, .nilp, .nilp => some true
    | .ptr _, .nilp, .ptr _ _ _ => some false
    | .ptr _, .ptr _ _ _, .nilp => some false
    | .slice _, .sl .nil _ _ _, .sl .nil _ _ _ => some true
    | .slice _, .sl .nil _ _ _, .sl (.at _ _ _) _ _ _ => some false
    | .slice _, .sl .nil _ _ _, .sl .any _ _ _ => some false
    | .slice _, .sl (.at _ _ _) _ _ _, .sl .nil _ _ _ => some false
    | .slice _, .sl .any _ _ _, .sl .nil _ _ _ => some false
    | .map _ _, .nilm, .nilm => some true
    | .map _ _, .nilm, .map _ => some false
    | .map _ _, .map _, .nilm => some false
    | .func, .nilFn, .nilFn => some true
    | .func, .nilFn, .fn _ _ => some false
    | .func, .fn _ _, .nilFn => some false
    | .struct fs, .agg xs, .agg ys => cnd (T t).eqok (fs.foldr (fun p acc => bnd (rd xs p.1 (T p.2)) fun a => bnd (rd ys p.1 (T p.2)) fun b => bnd (veq d p.2 a b) fun r => cnd r acc (some false)) (some true)) none
    | .arr n e, .agg xs, .agg ys => cnd (T t).eqok ((List.range n).foldr (fun i acc => bnd (rd xs (i * (T e).size) (T e)) fun a => bnd (rd ys (i * (T e).size) (T e)) fun b => bnd (veq d e a b) fun r => cnd r acc (some false)) (some true)) none
    | _, _, _ => none

def binOp (op : BinOp) (t : TypeId) (x y : V) : Option V :=
  match op, x, y with
  | .shl, .int k a, .int _ b => shift .shl k a b
  | .shr, .int k a, .int _ b => shift .shr k a b
  | op, .int k a, .int k' b => grd (k = k') (intOp op k a b)
  | .eql, .str a, .str b => some (.bool (strEq a b))
  | .neq, .str a, .str b => some (.bool !(strEq a b))
  | .eql, .str _, _ => none
  | .neq, .str _, _ => none
  | .eql, .int _ _, _ => none
  | .neq, .int _ _, _ => none
  | .eql, x, y => bnd (veq T 6 t x y) fun b => some (.bool b)
  | .neq, x, y => bnd (veq T 6 t x y) fun b => some (.bool !b)
  | .add, .str a, .str b => grd (a.size + b.size ≤ 9223372036854775807) (some (.str (a ++ b)))
  | _, _, _ => none

def fieldOff (t : TypeId) (f : Nat) : Option (Nat × TypeId) :=
  match (T t).desc with
  | .struct fs => fs[f]?
  | _ => none

/-- The bounds of a slice expression against n; where none is given: d. -/
def bound (e : List TV) (n : Nat) (o : Option Operand) (d : Nat) : Option Nat :=
  match o with
  | some o => bnd (asInt (opd e o)) fun i => idxLe i n
  | none => some d

def sliceV (e : List TV) (t : TypeId) (x : TV) (lo hi mx : Option Operand) : Option TV :=
  match (T t).desc, x with
  | .str, .v (.str s) =>
    cnd mx.isSome none
    (bnd (bound e s.size hi s.size) fun h => bnd (bound e h lo 0) fun l => some (.v (.str (s.extract l h))))
  | .slice el, .v (.sl a len cap z) =>
    cnd (mx.isNone || hi.isSome) (bnd (bound e cap mx cap) fun m => bnd (bound e m hi len) fun h => bnd (bound e h lo 0) fun l =>
      cnd (decide (a = .any)) (some (.v (.sl .any 0 0 1)))
      (cnd (decide (z = 0) || mx.isSome)
        (cnd (decide (m = l)) (some (.v (.sl a (h - l) (m - l) 0))) (some (.v (.sl (a.add (l * (T el).size)) (h - l) (m - l) 0))))
        (cnd (decide (l = 0)) (some (.v (.sl a h m z)))
          (cnd (decide (l < m)) (grd (z = (T el).size) (some (.v (.sl (a.add (l * (T el).size)) (h - l) (m - l) z)))) (grd (h ≤ l) (some (.v (.sl .any 0 0 1)))))))) none
  | _, _ => none

def fillV (pl : Nat → Option (Nat × Nat)) (e : List TV) : List V → List (Nat × Operand) → Option (List V)
  | c, [] => some c
  | c, p :: r =>
    bnd (pl p.1) fun q =>
    match opd e p.2 with
    | .v x => bnd (cellsV x) fun cs => grd (cs.length = q.2) (bnd (splice c q.1 cs) fun c' => fillV pl e c' r)
    | _ => none

def buildV (e : List TV) (t : TypeId) (parts : List (Nat × Operand)) : Option V :=
  match (T t).desc with
  | .struct fs => grd ((T t).zero.length = (T t).size ∧ 0 < (T t).size) <| bnd (fillV (fun i => bnd fs[i]? fun p => some (p.1, (T p.2).size)) e (T t).zero parts) fun c => some (.agg c)
  | .arr _ el => grd ((T t).zero.length = (T t).size ∧ 0 < (T t).size) <| bnd (fillV (fun i => some (i * (T el).size, (T el).size)) e (T t).zero parts) fun c => some (.agg c)
  | _ => none

/-- How many elements, and their cells. -/
def sliceCells (z : Nat) (s : St) (x : TV) : Option (Nat × List V) :=
  match x with
  | .v (.sl .nil n _ _) => grd (n = 0) (some (0, []))
  | .v (.sl .any n _ _) => grd (n = 0) (some (0, []))
  | .v (.sl (.at b g o) n _ _) => cnd (decide (n = 0)) (some (0, [])) (bnd (hcells s.h b g) fun p => grd (o + n * z ≤ p.2.length) (some (n, (p.2.drop o).take (n * z))))
  | .ls sl ver o n => bnd (lcells s.l sl ver) fun c => grd (o + n * z ≤ c.length) (some (n, (c.drop o).take (n * z)))
  | .v (.str b) => grd (z = 1) (some (b.size, bytesV b))
  | _ => none

def newBlk (s : St) (n : Nat) (z : Nat) (c : List V) : Option (TV × St) :=
  some (.v (.sl (.at s.h.length 0 0) n n z), { s with h := s.h ++ [.cells 0 true c] })

def appendV (t : TypeId) (s : St) (x y : TV) : Option (TV × St) :=
  match (T t).desc, x with
  | .slice el, .v (.sl a len cap z) =>
    bnd (sliceCells (T el).size s y) fun q =>
    cnd (decide (len + q.1 ≤ cap))
      (cnd (decide (q.1 = 0)) (some (.v (.sl a len cap z), s))
        (match a with
        | .at b g o => bnd (putBlk s b g fun c => splice c (o + len * (T el).size) q.2) fun s' => some (.v (.sl a (len + q.1) cap z), s')
        | _ => none))
      (grd ((len + q.1) * (T el).bytes ≤ 35184372088832 ∧ len + q.1 ≤ 35184372088832 ∧ (T el).zero.length = (T el).size ∧ 0 < (T el).size)
        (match a with
        | .nil => newBlk s q.1 (T el).size q.2
        | .at b g o =>
          cnd (decide (z = 0)) (cnd (decide (len = 0)) (newBlk s q.1 (T el).size q.2)
              (bnd (hcells s.h b g) fun p => grd (o + len * (T el).size ≤ p.2.length) (newBlk s (len + q.1) (T el).size ((p.2.drop o).take (len * (T el).size) ++ q.2))))
            (bnd (hcells s.h b g) fun p => cnd p.1 (grd (o + len * (T el).size ≤ p.2.length ∧ z = (T el).size)
              (some (.v (.sl (.at b (g + 1) 0) (len + q.1) (len + q.1) z), { s with h := s.h.set b (.cells (g + 1) true ((p.2.drop o).take (len * (T el).size) ++ q.2)) }))) none)
        | .any => none))
  | _, _ => none

/-- So many zero elements behind no slice. -/
def appendZ (t : TypeId) (s : St) (x y : TV) : Option (TV × St) :=
  match (T t).desc, x, y with
  | .slice el, .v (.sl .nil 0 0 0), .v (.int .i64 n) =>
    grd (0 < n ∧ n * (T el).bytes ≤ 35184372088832 ∧ n ≤ 35184372088832 ∧ (T el).zero.length = (T el).size ∧ 0 < (T el).size) (newBlk s n.toNat (T el).size (reps n.toNat (T el).zero))
  | _, _, _ => none

def capV (t : TypeId) (x : TV) : Option Int :=
  match (T t).desc, x with
  | .slice _, .v (.sl _ _ cap 0) => some cap
  | _, _ => none

def copyV (t : TypeId) (s : St) (x y : TV) : Option (TV × St) :=
  match (T t).desc, x with
  | .slice el, .v (.sl a len _ _) =>
    bnd (sliceCells (T el).size s y) fun q =>
      cnd (decide (min q.1 len = 0)) (some (.v (.int .i64 0), s))
        (match a with
        | .at b g o => bnd (putBlk s b g fun c => splice c o (q.2.take (min q.1 len * (T el).size))) fun s' => some (.v (.int .i64 (min q.1 len : Nat)), s')
        | _ => none)
  | _, _ => none

def clearV (t : TypeId) (s : St) (x : TV) : Option (TV × St) :=
  match (T t).desc, x with
  | .slice el, .v (.sl a len _ _) =>
    cnd (decide (len = 0)) (some (.v (.tup []), s))
      (match a with
      | .at b g o => grd ((T el).zero.length = (T el).size ∧ 0 < (T el).size) (bnd (putBlk s b g fun c => splice c o (reps len (T el).zero)) fun s' => some (.v (.tup []), s'))
      | _ => none)
  | _, _ => none

def lenV (t : TypeId) (s : St) (x : TV) : Option Int :=
  match (T t).desc, x with
  | .arr n _, _ => some n
  | .str, .v (.str b) => some b.size
  | .slice _, .v (.sl _ n _ _) => some n
  | .slice _, .ls _ _ _ n => some n
  | .map _ _, .v .nilm => some 0
  | .map _ _, .v (.map r) => match s.h[r]? with | some (.map _ es _) => some es.length | _ => none
  | _, _ => none

/-- max and min of integers, from the left. -/
def minmax (mx : Bool) : Int → IntKind → List TV → Option V
  | a, k, [] => some (.int k a)
  | a, k, .v (.int k' b) :: r => grd (k = k') (minmax mx (cond mx (if a < b then b else a) (if b < a then b else a)) k r)
  | _, _, _ => none

def minmaxV (mx : Bool) : List TV → Option V
  | .v (.int k a) :: r => minmax mx a k r
  | _ => none

def convV (src dst : TypeId) (s : St) (x : TV) : Option (TV × St) :=
  match (T src).desc, (T dst).desc, x with
  | .int _, .int k, .v (.int _ n) => some (.v (.int k (k.wrap n)), s)
  | .str, .str, .v (.str b) => some (.v (.str b), s)
  | .slice el, .str, .v (.sl a n c z) =>
    match (T el).desc with
    | .int .u8 => bnd (sliceCells 1 s (.v (.sl a n c z))) fun q => bnd (toBytes q.2) fun l => some (.v (.str ⟨l.toArray⟩), s)
    | _ => none
  | .str, .slice el, .v (.str b) =>
    match (T el).desc with
    | .int .u8 => newBlk s b.size 1 (bytesV b)
    | _ => none
  | _, _, _ => none

/-- May a value be a key of a type, and be held against the keys that are there? -/
def keyTD : Nat → TypeId → Bool
  | 0, _ => false
  | d + 1, t => match (T t).desc with
    | .int _ | .str | .bool => true
    | .struct fs => fs.all fun p => keyTD d p.2
    | _ => false
def keyOk (kt : TypeId) (k : V) (es : List ME) : Bool :=
  plainV k && keyTD T 3 kt && decide (veq T 6 kt k k = some true) && es.all fun e => decide (veq T 6 kt k e.1 = some (vsame k e.1))

def makeMapV (t : TypeId) (s : St) : Option (TV × St) :=
  match (T t).desc with
  | .map _ _ => some (.v (.map s.h.length), { s with h := s.h ++ [.map true [] 0] })
  | _ => none

def lookupIn (kt el : TypeId) (k : V) (ok : Bool) (es : List ME) : Option TV :=
  bnd (zeroV (T el)) fun z => grd (keyOk T kt k es = true) (match findM k es with
    | some e => some (.v (outV ok e.2.1 true))
    | none => some (.v (outV ok z false)))

def lookupV (t : TypeId) (m k : TV) (ok : Bool) (s : St) : Option TV :=
  match (T t).desc, m, k with
  | .map kt el, .v .nilm, .v k => lookupIn T kt el k ok []
  | .map kt el, .v (.map r), .v k => match s.h[r]? with
    | some (.map _ es _) => lookupIn T kt el k ok es
    | _ => none
  | _, _, _ => none

def updateV (t : TypeId) (m k v : TV) (s : St) : Option St :=
  match (T t).desc, m, k, v with
  | .map kt _, .v (.map r), .v k, .v v => match s.h[r]? with
    | some (.map ex es c) => grd (keyOk T kt k es = true) (some { s with h := s.h.set r (.map ex (putM k v es c).1 (putM k v es c).2) })
    | _ => none
  | _, _, _, _ => none

def entryV (t : TypeId) (m k : TV) (s : St) : Option (TV × St) :=
  match (T t).desc, m, k with
  | .map kt el, .v (.map r), .v k => match s.h[r]? with
    | some (.map true es c) => bnd (zeroV (T el)) fun z => grd (keyOk T kt k es = true) (match findM k es with
      | some e => some (.v (.tup [e.2.1, .int .i64 e.2.2]), s)
      | none => some (.v (.tup [z, .int .i64 c]), { s with h := s.h.set r (.map true (es ++ [(k, z, c)]) (c + 1)) }))
    | _ => none
  | _, _, _ => none

def entryStoreV (m st v : TV) (s : St) : Option St :=
  match m, st, v with
  | .v (.map r), .v (.int _ n), .v v => match s.h[r]? with
    | some (.map true es c) => grd (es.any (fun e => decide ((e.2.2 : Int) = n)) = true) (some { s with h := s.h.set r (.map true (es.map fun e => cond (decide ((e.2.2 : Int) = n)) (e.1, v, e.2.2) e) c) })
    | _ => none
  | _, _, _ => none

def deleteV (t : TypeId) (m k : TV) (s : St) : Option (TV × St) :=
  match (T t).desc, m, k with
  | .map kt _, .v .nilm, .v k => grd (keyOk T kt k [] = true) (some (.v (.tup []), s))
  | .map kt _, .v (.map r), .v k => match s.h[r]? with
    | some (.map ex es c) => grd (keyOk T kt k es = true) (some (.v (.tup []), { s with h := s.h.set r (.map ex (es.filter fun e => !vsame k e.1) c) }))
    | _ => none
  | _, _, _ => none

def allV : List TV → Option (List V)
  | [] => some []
  | .v x :: r => bnd (allV r) fun l => some (x :: l)
  | _ => none

/-- A new variable: in the frame's slot, or on the heap. -/
def newVar (sl : Option Nat) (s : St) (c : List V) : Option (TV × St) :=
  match sl with
  | some k => bnd s.l[k]? fun p => some (.lp k (p.1 + 1) 0, { s with l := s.l.set k (p.1 + 1, c) })
  | none => some (.v (.ptr s.h.length 0 0), { s with h := s.h ++ [.cells 0 true c] })

def buildSliceV (sl : Option Nat) (t : TypeId) (n : Nat) (parts : List (Nat × Operand)) (s : St) : Option (TV × St) :=
  match (T t).desc with
  | .slice el =>
    grd (n * (T el).size ≤ 16777216 ∧ (T el).zero.length = (T el).size ∧ 0 < (T el).size) (bnd (fillV (fun i => some (i * (T el).size, (T el).size)) s.e (reps n (T el).zero) parts) fun c =>
      match sl with
      | some k => bnd s.l[k]? fun p => some (.ls k (p.1 + 1) 0 n, { s with l := s.l.set k (p.1 + 1, c) })
      | none => some (.v (.sl (.at s.h.length 0 0) n n 0), { s with h := s.h ++ [.cells 0 true c] }))
  | _ => none

def makeSliceV (t : TypeId) (l c : TV) (s : St) : Option (TV × St) :=
  match (T t).desc, l, c with
  | .slice el, .v (.int .i64 l), .v (.int .i64 c) =>
    grd (0 ≤ l ∧ l ≤ c ∧ c * (T el).bytes ≤ 281474976710656 ∧ c ≤ 35184372088832 ∧ (T el).zero.length = (T el).size ∧ 0 < (T el).size)
      (some (.v (.sl (.at s.h.length 0 0) l.toNat c.toNat 0), { s with h := s.h ++ [.cells 0 true (reps c.toNat (T el).zero)] }))
  | _, _, _ => none

def fieldAddrV (t : TypeId) (x : TV) (f : Nat) : Option TV :=
  bnd (fieldOff T t f) fun p => grd (0 < (T p.2).size) <| match x with
    | .v (.ptr b g o) => some (.v (.ptr b g (o + p.1)))
    | .lp a b o => some (.lp a b (o + p.1))
    | _ => none

def indexAddrV (t : TypeId) (x i : TV) : Option TV :=
  match (T t).desc, x, i with
  | .slice el, .v (.sl (.at b g o) n _ _), .v (.int _ i) => bnd (idx i n) fun i => some (.v (.ptr b g (o + i * (T el).size)))
  | .slice el, .ls a b o n, .v (.int _ i) => bnd (idx i n) fun i => some (.lp a b (o + i * (T el).size))
  | .arr n el, .v (.ptr b g o), .v (.int _ i) => bnd (idx i n) fun i => some (.v (.ptr b g (o + i * (T el).size)))
  | .arr n el, .lp a b o, .v (.int _ i) => bnd (idx i n) fun i => some (.lp a b (o + i * (T el).size))
  | _, _, _ => none

def indexV (t : TypeId) (x i : TV) : Option V :=
  match (T t).desc, x, i with
  | .arr n el, .v (.agg cs), .v (.int _ i) => bnd (idx i n) fun i => rd cs (i * (T el).size) (T el)
  | .str, .v (.str b), .v (.int _ i) => bnd (idx i b.size) fun i => bnd b.data.toList[i]? fun c => some (.int .u8 c.toNat)
  | _, _, _ => none

def nilCheckV : TV → Option TV
  | .v (.ptr b g o) => some (.v (.ptr b g o))
  | .v (.fn f c) => some (.v (.fn f c))
  | .v (.yld l) => some (.v (.yld l))
  | .lp a b c => some (.lp a b c)
  | _ => none

def builtinV (b : Builtin) (argTypes : List TypeId) (args : List TV) (s : St) : Option (TV × St) :=
  match b, argTypes, args with
  | .len, [t], [x] => bnd (lenV T t s x) fun n => some (.v (.int .i64 n), s)
  | .append, [t, u], [x, y] => match (T u).desc with
    | .slice _ => appendV T t s x y
    | .str => appendV T t s x y
    | .int _ => appendZ T t s x y
    | _ => none
  | .copy, [t, _], [x, y] => copyV T t s x y
  | .clear, [t], [x] => clearV T t s x
  | .delete, [t, _], [m, k] => deleteV T t m k s
  | .cap, [t], [x] => bnd (capV T t x) fun n => some (.v (.int .i64 n), s)
  | .max, _, xs => bnd (minmaxV true xs) fun v => some (.v v, s)
  | .min, _, xs => bnd (minmaxV false xs) fun v => some (.v v, s)
  | _, _, _ => none

/-- An operation that is no call of a function. sl: the slot of its box, if it lives in the frame. -/
def exPure (sl : Option Nat) (o : Op) (s : St) : Option (TV × St) :=
  match o with
  | .move x | .assign x => some (opd s.e x, s)
  | .pick c a b => match opd s.e c with | .v (.bool t) => some (cond t (opd s.e a) (opd s.e b), s) | _ => none
  | .box _ x => match opd s.e x with | .v v => bnd (cellsV v) fun c => newVar sl s c | _ => none
  | .alloc el => grd ((T el).zero.length = (T el).size ∧ 0 < (T el).size) (newVar sl s (T el).zero)
  | .build t parts => bnd (buildV T s.e t parts.toList) fun v => some (.v v, s)
  | .buildSlice t n parts => buildSliceV T sl t n parts.toList s
  | .load t a => bnd (load (T t) s (opd s.e a)) fun v => some (.v v, s)
  | .store t a x => match opd s.e x with | .v v => bnd (store (T t) s (opd s.e a) v) fun s' => some (.u, s') | _ => none
  | .nilCheck x => bnd (nilCheckV (opd s.e x)) fun v => some (v, s)
  | .binOp op t x y _ => match opd s.e x, opd s.e y with | .v a, .v b => bnd (binOp T op t a b) fun v => some (.v v, s) | _, _ => none
  | .unOp op _ x => match opd s.e x with | .v a => bnd (unOp op a) fun v => some (.v v, s) | _ => none
  | .convert src dst x => convV T src dst s (opd s.e x)
  | .makeFunc (.func f) first cap => cnd first.isEmpty (bnd (allV (cap.toList.map (opd s.e))) fun vs => some (.v (.fn f vs), s)) none
  | .makeSlice t l c => makeSliceV T t (opd s.e l) (opd s.e c) s
  | .makeMap t none => makeMapV T t s
  | .lookup t m k ok => bnd (lookupV T t (opd s.e m) (opd s.e k) ok s) fun v => some (v, s)
  | .mapUpdate t m k x | .insert t m k x => bnd (updateV T t (opd s.e m) (opd s.e k) (opd s.e x) s) fun s' => some (.u, s')
  | .mapEntry t m k => entryV T t (opd s.e m) (opd s.e k) s
  | .entryStore t m st x => bnd (entryStoreV (opd s.e m) (opd s.e st) (opd s.e x) s) fun s' => some (.u, s')
  | .slice t x lo hi mx => bnd (sliceV T s.e t (opd s.e x) lo hi mx) fun v => some (v, s)
  | .fieldAddr t x f => bnd (fieldAddrV T t (opd s.e x) f) fun v => some (v, s)
  | .field t x f => match opd s.e x with
    | .v (.agg cs) => bnd (fieldOff T t f) fun p => bnd (rd cs p.1 (T p.2)) fun v => some (.v v, s)
    | _ => none
  | .indexAddr t x i => bnd (indexAddrV T t (opd s.e x) (opd s.e i)) fun v => some (v, s)
  | .index t x i => bnd (indexV T t (opd s.e x) (opd s.e i)) fun v => some (.v v, s)
  | .extract t i => match opd s.e t with | .v (.tup vs) => bnd vs[i]? fun v => some (.v v, s) | _ => none
  | .call c => match c.callee with
    | .builtin b => builtinV T b c.argTypes.toList (c.args.toList.map (opd s.e)) s
    | _ => none
  | _ => none
end

abbrev CallSem := V → List V → Heap → Option (V × Heap)

def setT (e : List TV) (d : Option Tmp) (v : TV) : List TV := match d with | some t => e.set t v | none => e

def St.put (s : St) (d : Option Tmp) (v : TV) : St := { s with e := setT s.e d v }

/-- Is an operation's guard met? -/
def wantedT (ops : List Oper) (e : List TV) (g : Option (Nat × Bool)) : Option Bool :=
  match g with
  | none => some true
  | some (j, want) => match (ops[j]?).bind (·.dst) with
    | some d => match getT e d with
      | .v (.bool b) => some (b == want)
      | .bad => none
      | _ => some false
    | none => some false

def exOp (X : Env) (C : CallSem) (f : FuncId) (o : Oper) (s : St) : Option St :=
  match o.op with
  | .call { callee := .value g, args, .. } =>
    match opd s.e g with
    | .v fv => bnd (allV (args.toList.map (opd s.e))) fun vs => bnd (C fv vs s.h) fun p => some ({ s with h := p.2 }.put o.dst (.v p.1))
    | _ => none
  | op => bnd (exPure X.ty (o.dst.bind (X.slot f)) op s) fun p => some (p.2.put o.dst p.1)

def exOps (X : Env) (C : CallSem) (f : FuncId) (ops : List Oper) : List Oper → St → Option St
  | [], s => some s
  | o :: r, s => bnd (wantedT ops s.e o.guard) fun w => bnd (cnd w (exOp X C f o s) (some (s.put o.dst .u))) fun s' => exOps X C f ops r s'

/-- The slots that operands lead to. -/
def leadsT (e : List TV) (sl : List Nat) : List Operand → Bool
  | [] => true
  | o :: r => (match opd e o with | .lp s _ _ => sl.elem s | .ls s _ _ _ => sl.elem s | _ => true) && leadsT e sl r

/-- What an operation reads: a load; a slice's bytes as a string. -/
def rdV (T : TypeId → TI) (op : Op) (s : St) : Option V :=
  match op with
  | .load t a => load (T t) s (opd s.e a)
  | .convert src dst a => match (T src).desc, (T dst).desc with
    | .slice _, .str => match convV T src dst s (opd s.e a) with
      | some (.v v, _) => some v
      | _ => none
    | _, _ => none
  | _ => none

/-- A read is looked at again: does it still give what it gave? -/
def again (X : Env) (ops : List Oper) (s : St) (p : Nat × List Nat) : Bool :=
  match ops[p.1]? with
  | some o => match wantedT ops s.e o.guard with
    | some true => leadsT s.e p.2 o.op.operands.toList && (match rdV X.ty o.op s with
        | some v => match o.dst with
          | some d => match getT s.e d with | .v w => vsame v w | _ => false
          | none => false
        | none => false)
    | some false => true
    | none => false
  | none => false

/-- A region whose order is open, by a plan. -/
def exPlan (X : Env) (C : CallSem) (f : FuncId) (ops : List Oper) : List PE → St → Option St
  | [], s => some s
  | p :: r, s => match ops[p.1]? with
    | some o => bnd (wantedT ops s.e o.guard) fun w => bnd (cnd w (cnd (leadsT s.e p.2.1 o.op.operands.toList) (exOp X C f o s) none) (some (s.put o.dst .u))) fun s' =>
        cnd (p.2.2.all (again X ops s')) (exPlan X C f ops r s') none
    | none => none

abbrev LoopSem := Code → St → Option (Ex × St)

def endRF {R : Type} (k : Ex → St → Option R) (e : List TV) (l : Nat) (h : Heap) : Option R :=
  match h[l]? with
  | some (.loop r) =>
    grd (r.state ≠ 1 ∧ r.lent = false) (
      match r.pending with
      | none => k .normal ⟨e, r.l, h.set l (.loop { r with state := 3, lent := true })⟩
      | some .ret => k .ret ⟨e, r.l, h.set l (.loop { r with state := 3, lent := true })⟩
      | some (.exit id) => k (.exit id) ⟨e, r.l, h.set l (.loop { r with state := 3, lent := true })⟩
      | _ => none)
  | _ => none

def evC (X : Env) (C : CallSem) (L : LoopSem) (f : FuncId) {R : Type} : Code → St → (Ex → St → Option R) → Option R
  | .skip, s, k => k .normal s
  | .label _, s, k => k .normal s
  | .region id ops draw, s, k => cnd draw (bnd (exPlan X C f ops.toList (X.plan f id) s) (k .normal)) (bnd (exOps X C f ops.toList ops.toList s) (k .normal))
  | .seq a b, s, k => evC X C L f a s fun x s' => match x with | .normal => evC X C L f b s' k | x => k x s'
  | .cond c t e, s, k => match opd s.e c with
    | .v (.bool b) => cnd b (evC X C L f t s k) (evC X C L f e s k)
    | _ => none
  | .block id c, s, k => evC X C L f c s fun x s' => match x with | .exit id' => cnd (decide (id' = id)) (k .normal s') (k (.exit id') s') | x => k x s'
  | .scope c, s, k => evC X C L f c s k
  | .loop c, s, k => bnd (L c s) fun p => k p.1 p.2
  | .exit id, s, k => k (.exit id) s
  | .ret, s, k => k .ret s
  | .rangeFunc g params assign body, s, k =>
    match opd s.e g with
    | .v (.fn gf cap) => bnd (C (.fn gf cap) [.yld s.h.length] (s.h ++ [.loop { state := 0, pending := none, fn := f, e := s.e, l := s.l, params := params.toList, assign := assign, body := body, lent := false }]))
        fun p => endRF k s.e s.h.length p.2
    | _ => none
  | _, _, _ => none

def results (X : Env) (s : St) : List ResultVar → Option (List V)
  | [] => some []
  | .tmp t :: r => match getT s.e t with | .v x => bnd (results X s r) fun l => some (x :: l) | _ => none
  | .cell a t :: r => bnd (load (X.ty t) s (getT s.e a)) fun x => bnd (results X s r) fun l => some (x :: l)

def resV : List V → V
  | [v] => v
  | vs => .tup vs

/-- A function's body. -/
def evBody (X : Env) (C : CallSem) (L : FuncId → LoopSem) (f : FuncId) (args : List V) (h : Heap) : Option (V × Heap) :=
  match X.body f with
  | some b =>
    evC X C (L f) f b.1 ⟨args.map .v ++ List.replicate (b.2.1 - args.length) .u, List.replicate (X.nslots f) (0, []), h⟩ fun x s => match x with
      | .exit _ => none
      | _ => bnd (results X s b.2.2) fun vs => some (resV vs, s.h)
  | none => none

def setArgs (e : List TV) : List Tmp → List V → List TV
  | t :: ts, v :: vs => setArgs (e.set t (.v v)) ts vs
  | _, _ => e

/-- How a round ends. -/
def endRound (l : Nat) (x : Ex) (s : St) : Option (V × Heap) :=
  match s.h[l]? with
  | some (.loop r) =>
    match x with
    | .normal => some (.bool true, s.h.set l (.loop { r with state := 0, pending := none, l := s.l, lent := false }))
    | .ret => some (.bool false, s.h.set l (.loop { r with state := 2, pending := some .ret, l := s.l, lent := false }))
    | .exit id => some (.bool false, s.h.set l (.loop { r with state := 2, pending := some (.exit id), l := s.l, lent := false }))
  | _ => none

/-- How it begins, behind what it assigns. -/
def beginRound (l : Nat) (s : St) : Option St :=
  match s.h[l]? with
  | some (.loop r) => grd (r.state = 0) (some { s with h := s.h.set l (.loop { r with state := 1 }) })
  | _ => none

/-- One round of a loop over a function. -/
def evRound (X : Env) (C : CallSem) (L : FuncId → LoopSem) (l : Nat) (args : List V) (h : Heap) : Option (V × Heap) :=
  match h[l]? with
  | some (.loop r) =>
    grd (args.length = r.params.length ∧ r.lent = false) (
      evC X C (L r.fn) r.fn r.assign ⟨setArgs r.e r.params args, r.l, h.set l (.loop { r with lent := true })⟩ fun x s => match x with
        | .normal => bnd (beginRound l s) fun s' => evC X C (L r.fn) r.fn r.body s' (endRound l)
        | _ => none)
  | _ => none

def loopBody (X : Env) (C : CallSem) (L : LoopSem) (again : LoopSem) (f : FuncId) (c : Code) (s : St) : Option (Ex × St) :=
  evC X C L f c s fun x s' => match x with
    | .normal => again c s'
    | x => some (x, s')

def loopN (X : Env) (C : CallSem) (f : FuncId) : Nat → LoopSem
  | 0 => fun _ _ => none
  | n + 1 => loopBody X C (loopN X C f n) (loopN X C f n) f

def callBody (X : Env) (C : CallSem) (L : FuncId → LoopSem) : CallSem := fun fv args h => match fv with
  | .fn f cap => match X.pin f with
    | some b => match args, cap with
      | [], [] => some (.bool b, h)
      | _, _ => none
    | none => evBody X C L f (args ++ cap) h
  | .yld l => evRound X C L l args h
  | _ => none

def callN (X : Env) : Nat → CallSem
  | 0 => fun _ _ _ => none
  | n + 1 => callBody X (callN X n) (fun f => loopN X (callN X n) f n)

/-! What a program says of itself. -/

def descOf (u : TypeDesc) : TD :=
  match u with
  | .bool => .bool | .int k => .int k | .string => .str | .pointer e => .ptr e | .slice e => .slice e
  | .struct fs => .struct (fs.toList.map fun f => (f.offset, f.type)) | .array n e => .arr n e | .map k e => .map k e
  | .func _ _ _ => .func | .tuple _ => .tup | _ => .other

def zeroOf : Option Value → List V
  | some (.agg cs) => cs.toList.filterMap ofValue
  | some v => (ofValue v).toList
  | none => []

def tyOf (P : Program) (t : TypeId) : TI :=
  { desc := cond (decide (t < P.types.size)) (((P.underlying t).map descOf).getD .other) .other, size := P.cellsOf t, bytes := P.bytesOf t, zero := cond (decide (t < P.types.size)) (zeroOf ((P.info? t).bind (·.zero))) [],
    eqok := (!P.eqGuardType P.depth t && !P.stoodInHeld t) && (match P.underlying t with | some (.struct fs) => fs.toList.all (·.name != "_") | _ => true) }

def bodyOf (P : Program) (f : FuncId) : Option (Code × Nat × List ResultVar) :=
  match P.funcs[f]? with
  | some fn => match fn.body with | some c => some (c, fn.ntmps, fn.results.toList) | none => none
  | none => none

end Go.Ev
