/- THE ABSTRACT MACHINE, A PART OF IT. -/
import Derived.RangeFuncNested
import Derived.OrdersIn
import Derived.RangeFuncRecord
import Derived.Deep.MidRow
import Derived.Below
import Derived.Laws.Entries
import Derived.Laws.IdiomStrings
import Derived.Laws.Strings
import Derived.Laws.Strings2
/- THE ABSTRACT MACHINE, FIRST FILE: its values, its memory, its operations, its runs. Nothing is proved here. -/
set_option linter.unusedVariables false
namespace Go.Am

/-! ### Values -/
inductive AV where
  | int (k : IntKind) (n : Int)
  | bool (b : Bool)
  | str (s : List UInt8)
  | undef
  | nilp | nils | nilm | nilf | nili | emp
  | ifc
  | ptr (o off : Nat)
  | eptr (o g i off : Nat)
  | iptr (row : List AV) (off : Nat)
  | vec (rows : List (List AV))
  | lit (rows : List (List AV))
  | own (rows : List (List AV)) (o g : Nat)
  | sref (o g off len : Nat)
  | map (o : Nat)
  | fn (f : FuncId) (first cap : List AV)
  | yield (l : Nat)
  | agg (cs : List AV)
  | tup (vs : List AV)
  deriving Inhabited

abbrev Rows := List (List AV)

def AV.cells : AV → List AV
  | .agg cs => cs
  | v => [v]

/-- How a piece of code is left. -/
inductive Ex where
  | nrm
  | exit (id : Nat)
  | goto (l : Nat)
  | ret
  deriving DecidableEq, Inhabited

inductive AObj where
  | dead
  | row (cells : List AV) (lock : Bool)
  | seq (g es : Nat) (rows : Rows) (exp : Nat)
  | tail (g : Nat)
  | map (es : List (AV × AV × Nat)) (clock : Nat)
  | miter (m : Option Nat) (since : Nat) (seen : List Nat) (stepped : Nat)
  | siter (s : List UInt8) (pos : Nat)
  | loop (st : LoopState) (pend : Ex) (fn : FuncId) (tmps : List AV) (ps : List Tmp) (asg body : Code) (d : Nat)
  | dfr
  deriving Inhabited

/-- Memory: objects, the newest first; 'n': how many; 'base': objects below it take plain data alone. -/
structure St where
  h : List AObj
  n : Nat
  base : Nat
  deriving Inhabited

def St.get (S : St) (id : Nat) : Option AObj := if id < S.n then S.h[S.n - 1 - id]? else none
def St.set (S : St) (id : Nat) (o : AObj) : St := { S with h := S.h.set (S.n - 1 - id) o }
def St.putO (S : St) (id : Nat) (o : AObj) : Option St := if S.base ≤ id then some (S.set id o) else none
def St.push (S : St) (o : AObj) : St := { S with h := o :: S.h, n := S.n + 1 }
def St.nil : St := ⟨[], 0, 0⟩

/-! ### Plain data -/
mutual
def nrm : AV → Option AV
  | .int k n => some (.int k n)
  | .bool b => some (.bool b)
  | .str s => some (.str s)
  | .undef => some .undef
  | .nilp => some .nilp
  | .nils => some (.vec [])
  | .emp => some (.vec [])
  | .nilm => some .nilm
  | .nilf => some .nilf
  | .nili => some .nili
  | .ifc => some .ifc
  | .ptr _ _ => none
  | .eptr _ _ _ _ => none
  | .iptr row off => (nrmL row).map (.iptr · off)
  | .vec rows => (nrmR rows).map .vec
  | .lit rows => (nrmR rows).map .vec
  | .own rows _ _ => (nrmR rows).map .vec
  | .sref _ _ _ _ => none
  | .map _ => none
  | .fn f first cap => (nrmL first).bind fun a => (nrmL cap).map fun b => .fn f a b
  | .yield _ => none
  | .agg cs => (nrmL cs).map .agg
  | .tup vs => (nrmL vs).map .tup
def nrmL : List AV → Option (List AV)
  | [] => some []
  | x :: xs => (nrm x).bind fun a => (nrmL xs).map fun b => a :: b
def nrmR : List (List AV) → Option (List (List AV))
  | [] => some []
  | x :: xs => (nrmL x).bind fun a => (nrmR xs).map fun b => a :: b
end

/-- The rows of a slice's object, as far as a slice value sees them. -/
def St.rows (S : St) (o g off len : Nat) : Option Rows :=
  match S.get o with
  | some (.seq g' _ rows _) => if g = g' ∧ off + len ≤ rows.length then some ((rows.drop off).take len) else none
  | _ => none

/-- A slice's rows. -/
def St.rowsOf (S : St) : AV → Option Rows
  | .nils => some []
  | .emp => some []
  | .vec r => some r
  | .lit r => some r
  | .own r _ _ => some r
  | .sref o g off len => S.rows o g off len
  | _ => none

/-- A value as plain data; and which objects' rows must not be written any more. -/
def frz1 (S : St) : AV → Option (AV × List (Nat × Nat))
  | .sref o g off len => (S.rows o g off len).bind fun r => (nrmR r).map fun r' => (.vec r', [(o, off + len)])
  | v => (nrm v).map fun v' => (v', [])
def frzL (S : St) : List AV → Option (List AV × List (Nat × Nat))
  | [] => some ([], [])
  | x :: xs => (frz1 S x).bind fun a => (frzL S xs).map fun b => (a.1 :: b.1, a.2 ++ b.2)
def frzA (S : St) : AV → Option (AV × List (Nat × Nat))
  | .agg cs => (frzL S cs).map fun a => (AV.agg a.1, a.2)
  | v => frz1 S v
def frzLA (S : St) : List AV → Option (List AV × List (Nat × Nat))
  | [] => some ([], [])
  | x :: xs => (frzA S x).bind fun a => (frzLA S xs).map fun b => (a.1 :: b.1, a.2 ++ b.2)
def frz (S : St) : AV → Option (AV × List (Nat × Nat))
  | .tup vs => (frzLA S vs).map fun a => (AV.tup a.1, a.2)
  | v => frzA S v
def St.lockAll (S : St) : List (Nat × Nat) → Option St
  | [] => some S
  | (o, k) :: l => match S.get o with
      | some (.seq g es rows exp) => (S.putO o (.seq g es rows (max exp k))).bind fun S' => S'.lockAll l
      | _ => none

def leaf : AV → Bool
  | .agg _ => false
  | .tup _ => false
  | .undef => false
  | _ => true

def leafC : AV → Bool
  | .agg _ => true
  | v => leaf v

/-! ### Types -/
inductive TK where
  | int (k : IntKind) | bool | str | ptr (e : TypeId) | slice (e : TypeId) | array (n : Nat) (e : TypeId)
  | struct (fs : List (TypeId × Nat)) | map (k e : TypeId) | func | iface | other
  deriving DecidableEq, Inhabited

structure Ty where
  kind : TK
  size : Nat
  bytes : Nat
  zero : Option (List AV)

/-- How a function is called: on plain data in a memory of its own · on the caller's memory, what it made thrown away · on the caller's memory. -/
inductive CM where
  | pure | temp | raw
  deriving DecidableEq

/-- A function that is taken as given: its value hangs on its arguments alone · it makes one object besides. -/
inductive XT where
  | val (F : List AV → Option AV)
  | push (F : List AV → Nat → Option (AV × AObj))

def XT.run : XT → List AV → St → Option (AV × St)
  | .val F, a, S => (F a).map fun v => (v, S)
  | .push F, a, S => (F a S.n).map fun r => (r.1, S.push r.2)

structure Cfg where
  ty : TypeId → Option Ty
  fn : FuncId → Option Func
  mode : FuncId → CM
  ext : FuncId → Option XT
  muts : FuncId → Nat → Bool
  eqt : TypeId → Bool

def constV : Value → Option AV
  | .int k n => some (.int k n)
  | .bool b => some (.bool b)
  | .string s => some (.str s.data.toList)
  | .pointer none => some .nilp
  | .slice none 0 0 => some .nils
  | .map none => some .nilm
  | .nilFunc => some .nilf
  | .nilIface => some .nili
  | _ => none

def constL : List Value → Option (List AV)
  | [] => some []
  | x :: xs => (constV x).bind fun a => (constL xs).map fun b => a :: b

def constC : Value → Option AV
  | .agg cs => (constL cs.toList).map .agg
  | .tuple ⟨[]⟩ => some .undef
  | v => constV v

def tkOf : TypeDesc → TK
  | .int k => .int k
  | .bool => .bool
  | .string => .str
  | .pointer e => .ptr e
  | .slice e => .slice e
  | .array n e => .array n e
  | .struct fs => .struct (fs.toList.map fun f => (f.type, f.offset))
  | .map k e => .map k e
  | .func _ _ _ => .func
  | .interface _ => .iface
  | _ => .other

def isAggK : TK → Bool
  | .struct _ => true
  | .array _ _ => true
  | _ => false

def zeroC (agg : Bool) (z : Value) : Option (List AV) :=
  match z with
  | .agg cs => if agg then constL cs.toList else none
  | z => if agg then none else (constV z).map fun x => [x]

def tyOf (P : Program) (t : TypeId) : Option Ty :=
  match P.info? t, P.underlying t with
  | some i, some d => some { kind := tkOf d, size := i.size, bytes := i.bytes, zero := i.zero.bind fun z => zeroC (isAggK (tkOf d)) z }
  | _, _ => none

/-! ### Operands -/
def evalT (tm : List AV) : Operand → Option AV
  | .tmp t => some (tm.getD t .undef)
  | .const v => constC v
  | .global _ => none
  | .func f => some (.fn f [] [])

def evalL (tm : List AV) : List Operand → Option (List AV)
  | [] => some []
  | x :: xs => (evalT tm x).bind fun a => (evalL tm xs).map fun b => a :: b

def evalO (tm : List AV) : Option Operand → Option (Option AV)
  | none => some none
  | some x => (evalT tm x).map some

/-! ### Arithmetic and comparisons -/
def maxI64 : Int := 9223372036854775807

def aint (op : BinOp) (k : IntKind) (a b : Int) : Option AV :=
  match op with
  | .add => some (.int k (k.wrap (a + b)))
  | .sub => some (.int k (k.wrap (a - b)))
  | .mul => some (.int k (k.wrap (a * b)))
  | .quo => if b = 0 then none else some (.int k (k.wrap (a.tdiv b)))
  | .rem => if b = 0 then none else some (.int k (a.tmod b))
  | .and => some (.int k (k.wrap (BitVec.ofInt k.bits a &&& BitVec.ofInt k.bits b).toNat))
  | .or => some (.int k (k.wrap (BitVec.ofInt k.bits a ||| BitVec.ofInt k.bits b).toNat))
  | .xor => some (.int k (k.wrap (BitVec.ofInt k.bits a ^^^ BitVec.ofInt k.bits b).toNat))
  | .andNot => some (.int k (k.wrap (BitVec.ofInt k.bits a &&& ~~~BitVec.ofInt k.bits b).toNat))
  | .eql => some (.bool (a == b))
  | .neq => some (.bool (a != b))
  | .lss => some (.bool (a < b))
  | .leq => some (.bool (a ≤ b))
  | .gtr => some (.bool (a > b))
  | .geq => some (.bool (a ≥ b))
  | _ => none

def ashift (op : BinOp) (k : IntKind) (a b : Int) : Option AV :=
  if b < 0 then none else
  match op with
  | .shl => some (.int k (k.wrap (a * 2 ^ (min b.toNat k.bits))))
  | .shr => some (.int k (a.fdiv (2 ^ (min b.toNat k.bits))))
  | _ => none

def astr (op : BinOp) (a b : List UInt8) : Option AV :=
  match op with
  | .add => if (a.length : Int) + b.length ≤ maxI64 then some (.str (a ++ b)) else none
  | .eql => some (.bool (a == b))
  | .neq => some (.bool !(a == b))
  | .lss => some (.bool (Op.bytesLess a b))
  | .leq => some (.bool (Op.bytesLess a b || a == b))
  | .gtr => some (.bool !(Op.bytesLess a b || a == b))
  | .geq => some (.bool !(Op.bytesLess a b))
  | _ => none

/-- Plain leaves: are they the same? -/
def leafEq : AV → AV → Option Bool
  | .int k a, .int k' b => if k = k' then some (a == b) else none
  | .bool a, .bool b => some (a == b)
  | .str a, .str b => some (a == b)
  | _, _ => none

def leavesEq : List AV → List AV → Option Bool
  | [], [] => some true
  | x :: xs, y :: ys => (leafEq x y).bind fun a => (leavesEq xs ys).map fun b => a && b
  | _, _ => none

def kindFits : TK → AV → Bool
  | .int k, .int k' _ => k == k'
  | .bool, .bool _ => true
  | .str, .str _ => true
  | _, _ => false

/-- The same kind of leaf. -/
def sameLeaf : AV → AV → Bool
  | .int k _, .int k' _ => k == k'
  | .bool _, .bool _ => true
  | .str _, .str _ => true
  | _, _ => false
def sameLeaves : List AV → List AV → Bool
  | [], [] => true
  | x :: xs, y :: ys => sameLeaf x y && sameLeaves xs ys
  | _, _ => false
/-- Cells of a type's form. -/
def fitsT (c : Cfg) (t : TypeId) (xs : List AV) : Bool :=
  match c.ty t with
  | some i => (match i.zero with | some z => sameLeaves z xs | none => false)
  | none => false

/-- '==' by type. -/
def aeq (c : Cfg) (t : TypeId) (x y : AV) : Option Bool :=
  (c.ty t).bind fun i =>
  match i.kind, x, y with
  | .bool, .bool a, .bool b => some (a == b)
  | .ptr _, .nilp, .nilp => some true
  | .ptr _, .nilp, .ptr _ _ => some false
  | .ptr _, .ptr _ _, .nilp => some false
  | .slice _, .nils, .nils => some true
  | .slice _, .emp, .nils => some false
  | .slice _, .vec (_ :: _), .nils => some false
  | .slice _, .lit (_ :: _), .nils => some false
  | .slice _, .own (_ :: _) _ _, .nils => some false
  | .slice _, .sref _ _ _ _, .nils => some false
  | .map _ _, .nilm, .nilm => some true
  | .map _ _, .map _, .nilm => some false
  | .func, .nilf, .nilf => some true
  | .func, .fn _ _ _, .nilf => some false
  | .iface, .nili, .nili => some true
  | .iface, .ifc, .nili => some false
  | .struct _, .agg xs, .agg ys => if c.eqt t = true ∧ fitsT c t xs = true then leavesEq xs ys else none
  | _, _, _ => none

def abin (c : Cfg) (op : BinOp) (t : TypeId) (x y : AV) : Option AV :=
  match op, x, y with
  | .shl, .int k a, .int _ b => ashift .shl k a b
  | .shr, .int k a, .int _ b => ashift .shr k a b
  | op, .int k a, .int k' b => if k = k' then aint op k a b else none
  | op, .str a, .str b => astr op a b
  | .eql, x, y => (aeq c t x y).map .bool
  | .neq, x, y => (aeq c t x y).map fun b => .bool !b
  | _, _, _ => none

def aun (op : UnOp) (x : AV) : Option AV :=
  match op, x with
  | .neg, .int k n => some (.int k (k.wrap (0 - n)))
  | .xor, .int k n => some (.int k (k.wrap (BitVec.ofInt k.bits (if k.signed then -1 else k.max) ^^^ BitVec.ofInt k.bits n).toNat))
  | .not, .bool b => some (.bool !b)
  | _, _ => none

def aconv (c : Cfg) (src dst : TypeId) (x : AV) : Option AV :=
  (c.ty src).bind fun i => (c.ty dst).bind fun j =>
  match i.kind, j.kind, x with
  | _, .int k, .int _ n => some (.int k (k.wrap n))
  | _, .str, .str s => some (.str s)
  | .slice e, .str, .lit [[.int .u8 n]] => (c.ty e).bind fun ei => if ei.kind = .int .u8 ∧ 0 ≤ n ∧ n < 256 then some (.str [UInt8.ofNat n.toNat]) else none
  | _, _, _ => none

/-! ### Structs and slices -/
def splice (cs : List AV) (off : Nat) (vs : List AV) : List AV := cs.take off ++ vs ++ cs.drop (off + vs.length)

/-- The part of type i at 'off' of some cells. -/
def apart (i : Ty) (cs : List AV) (off : Nat) : Option AV :=
  if isAggK i.kind then (if off + i.size ≤ cs.length then some (.agg ((cs.drop off).take i.size)) else none)
  else cs[off]?

def fillS (c : Cfg) (fs : List (TypeId × Nat)) : List AV → List (Nat × AV) → Option (List AV)
  | cs, [] => some cs
  | cs, (i, v) :: rest => (fs[i]?).bind fun f => (c.ty f.1).bind fun ft =>
      if leafC v ∧ v.cells.length = ft.size ∧ f.2 + v.cells.length ≤ cs.length then fillS c fs (splice cs f.2 v.cells) rest else none

def fillA (size : Nat) : List AV → List (Nat × AV) → Option (List AV)
  | cs, [] => some cs
  | cs, (i, v) :: rest => if leafC v ∧ v.cells.length = size ∧ i * size + v.cells.length ≤ cs.length then fillA size (splice cs (i * size) v.cells) rest else none

def fillR (size : Nat) : Rows → List (Nat × AV) → Option Rows
  | rs, [] => some rs
  | rs, (i, v) :: rest => if leafC v ∧ v.cells.length = size ∧ i < rs.length then fillR size (rs.set i v.cells) rest else none

def abuild (c : Cfg) (t : TypeId) (parts : List (Nat × AV)) : Option AV :=
  (c.ty t).bind fun i => i.zero.bind fun z =>
  match i.kind with
  | .struct fs => if fs.all fun f => (c.ty f.1).isSome then (fillS c fs z parts).map .agg else none
  | .array _ e => (c.ty e).bind fun ei => (fillA ei.size z parts).map .agg
  | _ => none

def capOk (need bytes : Nat) : Bool := 0 < bytes ∧ (need + need / 4 + 1000) * bytes ≤ 281474976710656

def headOk (es : Nat) : Rows → Bool
  | [] => true
  | r :: _ => r.length == es

def aappend (es bytes : Nat) (mutb : Bool) (x : AV) (ys : Rows) (S : St) : Option (AV × St) :=
  if headOk es ys = false then none else
  match ys with
  | [] => (match x with | .nils | .emp | .vec _ | .lit _ | .own _ _ _ | .sref _ _ _ _ => some (x, S) | _ => none)
  | _ =>
    match x with
    | .nils => if capOk ys.length bytes then fresh ys S else none
    | .lit rows => if capOk (rows.length + ys.length) bytes ∧ headOk es rows then fresh (rows ++ ys) S else none
    | .own rows o g =>
      match S.get o with
      | some (.tail g') => if g = g' ∧ rows.isEmpty = false ∧ capOk (rows.length + ys.length) bytes ∧ headOk es rows ∧ S.base ≤ o then some (.own (rows ++ ys) o (g + 1), S.set o (.tail (g + 1))) else none
      | _ => none
    | .sref o g off len =>
      match S.get o with
      | some (.seq g' es' rows exp) =>
        if g = g' ∧ es = es' ∧ off + len = rows.length ∧ exp ≤ rows.length ∧ capOk (len + ys.length) bytes ∧ S.base ≤ o
        then some (.sref o (g + 1) 0 (len + ys.length), S.set o (.seq (g + 1) es (rows.drop off ++ ys) (exp - off))) else none
      | _ => none
    | _ => none
where
  fresh (rows : Rows) (S : St) : Option (AV × St) :=
    if mutb then some (.sref S.n 0 0 rows.length, S.push (.seq 0 es rows 0)) else some (.own rows S.n 0, S.push (.tail 0))

def bnd (x : Option AV) (dflt top : Nat) : Option Nat :=
  match x with
  | none => some dflt
  | some (.int _ n) => if 0 ≤ n ∧ n ≤ top then some n.toNat else none
  | some _ => none

def acut (es : Nat) (r : Rows) (lo hi : Option AV) : Option AV :=
  if headOk es r then (bnd hi r.length r.length).bind fun h => (bnd lo 0 h).map fun l => .vec ((r.drop l).take (h - l)) else none

/-- x[l:h] of a slice. -/
def asliceV (S : St) (es : Nat) (x : AV) (lo hi : Option AV) : Option AV :=
  match x with
  | .nils => (bnd hi 0 0).bind fun h => (bnd lo 0 h).map fun _ => .nils
  | .vec r => acut es r lo hi
  | .lit r => acut es r lo hi
  | .own r _ _ => acut es r lo hi
  | .sref o g off len =>
    match S.get o with
    | some (.seq g' es' _ _) => if es = es' ∧ g = g' then (bnd hi len len).bind fun h => (bnd lo 0 h).map fun l => .sref o g (off + l) (h - l) else none
    | _ => none
  | _ => none

def asliceS (s : List UInt8) (lo hi : Option AV) : Option AV :=
  (bnd hi s.length s.length).bind fun h => (bnd lo 0 h).map fun l => .str ((s.drop l).take (h - l))

/-! ### Memory -/
def St.load (S : St) (i : Ty) (a : AV) : Option AV :=
  match a with
  | .ptr o off => (match S.get o with | some (.row cs _) => apart i cs off | _ => none)
  | .eptr o g r off => (match S.get o with | some (.seq g' _ rows _) => if g = g' then (rows[r]?).bind fun cs => apart i cs off else none | _ => none)
  | .iptr cs off => apart i cs off
  | _ => none

def St.store (S : St) (i : Ty) (a v : AV) : Option St :=
  if leafC v ∧ v.cells.length = i.size then
    match a with
    | .ptr o off => (match S.get o with
      | some (.row cs false) => if off + i.size ≤ cs.length then S.putO o (.row (splice cs off v.cells) false) else none
      | _ => none)
    | .eptr o g r off => (match S.get o with
      | some (.seq g' es rows exp) => (rows[r]?).bind fun cs =>
          if g = g' ∧ exp ≤ r ∧ off + i.size ≤ cs.length then S.putO o (.seq g es (rows.set r (splice cs off v.cells)) exp) else none
      | _ => none)
    | _ => none
  else none

def addOff (a : AV) (k : Nat) : Option AV :=
  match a with
  | .ptr o off => some (.ptr o (off + k))
  | .eptr o g i off => some (.eptr o g i (off + k))
  | .iptr r off => some (.iptr r (off + k))
  | _ => none

def asIdx : AV → Option Int
  | .int _ n => some n
  | _ => none

/-! ### Maps -/
def keyFits (c : Cfg) (t : TypeId) : AV → Bool
  | .int k _ => (match ((c.ty t).map (·.kind) : Option TK) with | some (.int k') => k == k' | _ => false)
  | .bool _ => (match ((c.ty t).map (·.kind) : Option TK) with | some .bool => true | _ => false)
  | .str _ => (match ((c.ty t).map (·.kind) : Option TK) with | some .str => true | _ => false)
  | .agg xs => (match ((c.ty t).map (·.kind) : Option TK) with | some (.struct _) => c.eqt t && fitsT c t xs && (leavesEq xs xs).isSome | _ => false)
  | _ => false

def keyEq : AV → AV → Option Bool
  | .agg xs, .agg ys => leavesEq xs ys
  | x, y => leafEq x y

def findKey (k : AV) : List (AV × AV × Nat) → Nat → Option (Option (Nat × AV))
  | [], _ => some none
  | (k', v, _) :: es, i => (keyEq k k').bind fun b => if b then some (some (i, v)) else findKey k es (i + 1)

def zeroOf (c : Cfg) (t : TypeId) : Option AV :=
  (c.ty t).bind fun i => i.zero.bind fun z => if isAggK i.kind then some (.agg z) else match z with | [x] => some x | _ => none

end Go.Am

/- THE ABSTRACT MACHINE, SECOND FILE: operations, regions, code, calls. -/
set_option linter.unusedVariables false
namespace Go.Am

structure Fr where
  tmps : List AV
  marks : List Nat
  round : Option Nat
  fn : FuncId
  deriving Inhabited

def putT (tm : List AV) (d : Option Tmp) (v : AV) : List AV :=
  match d with
  | some t => tm.set t v
  | none => tm

/-- Runs of what lies deeper. -/
structure Rec where
  code : Code → Fr → St → Option (Ex × Fr × St)
  call : FuncId → List AV → St → Option (AV × St)

/-! ### Calls -/
def unmark (S : St) : List Nat → Option St
  | [] => some S
  | m :: ms => match S.get m with
    | some .dfr => (S.putO m .dead).bind fun S' => unmark S' ms
    | _ => none

def aresults (c : Cfg) (S : St) (tm : List AV) : List ResultVar → Option (List AV)
  | [] => some []
  | .tmp t :: rs => (aresults c S tm rs).map fun l => tm.getD t .undef :: l
  | .cell a t :: rs => (c.ty t).bind fun i => (S.load i (tm.getD a .undef)).bind fun v => (aresults c S tm rs).map fun l => v :: l

def one : List AV → AV
  | [v] => v
  | l => .tup l

/-- A function's body, from its first operation to its results. -/
def callS (c : Cfg) (R : Rec) (f : FuncId) (args : List AV) (S : St) : Option (AV × St) :=
  (c.fn f).bind fun fn => fn.body.bind fun b =>
  (R.code b ⟨args ++ List.replicate (fn.ntmps - args.length) .undef, [], none, f⟩ S).bind fun r =>
  if r.1 = .nrm ∨ r.1 = .ret then
    (unmark r.2.2 r.2.1.marks).bind fun S2 => (aresults c S2 r.2.1.tmps fn.results.toList).map fun l => (one l, S2)
  else none

/-- A call, by the way in which its function is called. -/
def callM (c : Cfg) (R : Rec) (f : FuncId) (args : List AV) (S : St) : Option (AV × St) :=
  match c.mode f with
  | .raw => R.call f args S
  | .pure => (frzLA S args).bind fun a => (R.call f a.1 St.nil).bind fun r => (frz r.2 r.1).bind fun v => (S.lockAll a.2).map fun S' => (v.1, S')
  | .temp => (R.call f args { S with base := S.n }).bind fun r => (frz r.2 r.1).bind fun v => (S.lockAll (v.2.filter fun q => q.1 < S.n)).map fun S' => (v.1, S')

/-- A call. What is taken as given and makes an object may leave open some arguments: there its body is run. -/
def callF (c : Cfg) (R : Rec) (f : FuncId) (args : List AV) (S : St) : Option (AV × St) :=
  match c.ext f with
  | some (.val F) => (XT.val F).run args S
  | some (.push F) => (match (XT.push F).run args S with | some r => some r | none => callM c R f args S)
  | none => callM c R f args S

/-- A round of a loop over a function. -/
def yieldS (R : Rec) (l : Nat) (args : List AV) (S : St) : Option (AV × St) :=
  match S.get l with
  | some (.loop .ready _ fn tmps ps asg body _) =>
    if args.length = ps.length then
      (R.code asg ⟨(ps.zip args).foldl (fun t pa => t.set pa.1 pa.2) tmps, [], some l, fn⟩ S).bind fun r =>
      if r.1 = .nrm then
        match r.2.2.get l with
        | some (.loop .ready p fn' tmps' ps' asg' body' d') =>
          (r.2.2.putO l (.loop .busy p fn' tmps' ps' asg' body' d')).bind fun Sb =>
          (R.code body r.2.1 Sb).bind fun q =>
          match q.2.2.get l with
          | some (.loop _ _ fn'' tmps'' ps'' asg'' body'' d'') =>
            (q.2.2.putO l (.loop (if q.1 = .nrm then .ready else .done) q.1 fn'' tmps'' ps'' asg'' body'' d'')).map fun Se => (.bool (q.1 = .nrm), Se)
          | _ => none
        | _ => none
      else none
    else none
  | _ => none

def callV (c : Cfg) (R : Rec) (f : AV) (args : List AV) (S : St) : Option (AV × St) :=
  match f with
  | .fn f first cap => callF c R f (first ++ args ++ cap) S
  | .yield l => yieldS R l args S
  | _ => none

/-! ### Operations -/
def evalP (tm : List AV) : List (Nat × Operand) → Option (List (Nat × AV))
  | [] => some []
  | (i, x) :: xs => (evalT tm x).bind fun a => (evalP tm xs).map fun b => (i, a) :: b

def kindOf (c : Cfg) (t : TypeId) : TK := match c.ty t with | some i => i.kind | none => .other

def chunk (es : Nat) : Nat → List AV → Rows
  | 0, _ => []
  | n + 1, cs => cs.take es :: chunk es n (cs.drop es)

def alen (c : Cfg) (S : St) (t : TypeId) (x : AV) : Option AV :=
  match kindOf c t, x with
  | .str, .str s => some (.int .i64 s.length)
  | .array n _, _ => some (.int .i64 n)
  | .slice _, .nils => some (.int .i64 0)
  | .slice _, .emp => some (.int .i64 0)
  | .slice _, .vec r => some (.int .i64 r.length)
  | .slice _, .lit r => some (.int .i64 r.length)
  | .slice _, .own r _ _ => some (.int .i64 r.length)
  | .slice _, .sref _ _ _ n => some (.int .i64 n)
  | .map _ _, .nilm => some (.int .i64 0)
  | .map _ _, .map o => (match S.get o with | some (.map es _) => some (.int .i64 es.length) | _ => none)
  | _, _ => none

def amax : List AV → Option AV
  | [.int k a, .int k' b] => if k = k' then some (.int k (if b > a then b else a)) else none
  | _ => none
def amin : List AV → Option AV
  | [.int k a, .int k' b] => if k = k' then some (.int k (if b < a then b else a)) else none
  | _ => none

def aindexAddr (c : Cfg) (S : St) (t : TypeId) (x i : AV) : Option AV :=
  (asIdx i).bind fun n =>
  match kindOf c t with
  | .array len e => (c.ty e).bind fun ei => if 0 ≤ n ∧ n < len then addOff x (n.toNat * ei.size) else none
  | .slice e => (c.ty e).bind fun ei => if 0 ≤ n then (match x with
      | .sref o g off len => (match S.get o with
          | some (.seq g' es _ _) => if n < len ∧ es = ei.size ∧ g = g' then some (.eptr o g (off + n.toNat) 0) else none
          | _ => none)
      | x => (S.rowsOf x).bind fun rows => (rows[n.toNat]?).bind fun r => if r.length = ei.size then some (.iptr r 0) else none) else none
  | _ => none

def aindex (c : Cfg) (t : TypeId) (x i : AV) : Option AV :=
  (asIdx i).bind fun n =>
  match kindOf c t, x with
  | .array len e, .agg cs => (c.ty e).bind fun ei => if 0 ≤ n ∧ n < len then apart ei cs (n.toNat * ei.size) else none
  | .str, .str s => if 0 ≤ n then (s[n.toNat]?).map fun b => .int .u8 b.toNat else none
  | _, _ => none

def alookup (c : Cfg) (S : St) (t : TypeId) (x k : AV) (ok : Bool) : Option AV :=
  match kindOf c t with
  | .map kt et =>
    if keyFits c kt k then
      (match x with
        | .nilm => some []
        | .map o => (match S.get o with | some (.map es _) => some es | _ => none)
        | _ => none).bind fun es =>
      (findKey k es 0).bind fun r =>
      (match r with | some (_, v) => some (v, true) | none => (zeroOf c et).map fun z => (z, false)).map fun (v, b) =>
        if ok then .tup [v, .bool b] else v
    else none
  | _ => none

def isNili : AV → Bool
  | .nili => true
  | _ => false
def isConst : Operand → Bool
  | .const _ => true
  | _ => false

/-- What an operation that turns no memory of ours yields. -/
def aval (c : Cfg) (tm : List AV) (o : Oper) (S : St) : Option AV :=
  match o.op with
  | .move x | .assign x => evalT tm x
  | .pick x a b => (match evalT tm x with | some (.bool t) => evalT tm (if t then a else b) | _ => none)
  | .build t parts => (evalP tm parts.toList).bind (abuild c t)
  | .buildSlice t len parts =>
    (match kindOf c t with
      | .slice e => (c.ty e).bind fun ei => if len * ei.size ≤ 16777216 then
          (if len * ei.size = 0 then some [] else ei.zero).bind fun z => (evalP tm parts.toList).bind fun ps =>
          if z.length = ei.size ∨ len = 0 then (fillR ei.size (List.replicate len z) ps).map .lit else none
        else none
      | _ => none)
  | .load t a => (c.ty t).bind fun i => (evalT tm a).bind (S.load i)
  | .nilCheck x => (evalT tm x).bind fun v => (match v with | .ptr _ _ | .eptr _ _ _ _ | .iptr _ _ | .fn _ _ _ => some v | _ => none)
  | .binOp op t x y _ => (evalT tm x).bind fun a => (evalT tm y).bind fun b => if isNili a && isNili b && !(isConst x || isConst y) then none else abin c op t a b
  | .unOp op _ x => (evalT tm x).bind (aun op)
  | .convert s d x => (evalT tm x).bind (aconv c s d)
  | .makeFunc (.func f) first cap => (evalL tm first.toList).bind fun a => (evalL tm cap.toList).map fun b => .fn f a b
  | .slice t x lo hi none => (evalT tm x).bind fun v => (evalO tm lo).bind fun l => (evalO tm hi).bind fun h =>
      (match kindOf c t, v with | .str, .str s => asliceS s l h | .slice e, v => (c.ty e).bind fun ei => asliceV S ei.size v l h | _, _ => none)
  | .fieldAddr s x f => (match kindOf c s with
      | .struct fs => (fs[f]?).bind fun q => (c.ty q.1).bind fun fi => if fi.size = 0 then none else (evalT tm x).bind fun v => addOff v q.2
      | _ => none)
  | .field t x f => (match kindOf c t with
      | .struct fs => (fs[f]?).bind fun q => (c.ty q.1).bind fun fi => (match evalT tm x with | some (.agg cs) => apart fi cs q.2 | _ => none)
      | _ => none)
  | .indexAddr t x i => (evalT tm x).bind fun a => (evalT tm i).bind fun b => aindexAddr c S t a b
  | .index t x i => (evalT tm x).bind fun a => (evalT tm i).bind fun b => aindex c t a b
  | .lookup t x i ok => (evalT tm x).bind fun a => (evalT tm i).bind fun b => alookup c S t a b ok
  | .extract x i => (match evalT tm x with | some (.tup vs) => vs[i]? | _ => none)
  | .call { callee := .builtin .len, args, argTypes } =>
      (match args.toList, argTypes.toList with | [x], [t] => (evalT tm x).bind (alen c S t) | _, _ => none)
  | .call { callee := .builtin .max, args, .. } => (evalL tm args.toList).bind amax
  | .call { callee := .builtin .min, args, .. } => (evalL tm args.toList).bind amin
  | _ => none

def amapUpdate (c : Cfg) (S : St) (t : TypeId) (m k v : AV) : Option St :=
  match kindOf c t, m with
  | .map kt _, .map o =>
    if keyFits c kt k then
      match S.get o with
      | some (.map es clock) =>
        (findKey k es 0).bind fun r => match r with
            | some _ => none
            | none => S.putO o (.map (es ++ [(k, v, clock)]) (clock + 1))
      | _ => none
    else none
  | _, _ => none

def amapEntry (c : Cfg) (S : St) (t : TypeId) (m k : AV) : Option (AV × St) :=
  match kindOf c t, m with
  | .map kt et, .map o =>
    if keyFits c kt k then
      match S.get o with
      | some (.map es clock) =>
        (findKey k es 0).bind fun r => match r with
          | some _ => none
          | none => (zeroOf c et).bind fun z => (S.putO o (.map (es ++ [(k, z, clock)]) (clock + 1))).map fun S' => (.tup [z, .int .i64 clock], S')
      | _ => none
    else none
  | _, _ => none

def setBorn (v : AV) (b : Nat) : List (AV × AV × Nat) → Option (List (AV × AV × Nat))
  | [] => none
  | e :: es => if e.2.2 = b then some ((e.1, v, b) :: es) else (setBorn v b es).map fun r => e :: r

def aentryStore (S : St) (m s v : AV) : Option St :=
  match m, s with
  | .map o, .int _ b =>
    match S.get o with
    | some (.map es clock) => if 0 ≤ b then (setBorn v b.toNat es).bind fun es' => S.putO o (.map es' clock) else none
    | _ => none
  | _, _ => none

def eraseAt : Nat → List (AV × AV × Nat) → List (AV × AV × Nat)
  | _, [] => []
  | 0, _ :: es => es
  | n + 1, e :: es => e :: eraseAt n es

def adelete (c : Cfg) (S : St) (t : TypeId) (m k : AV) : Option St :=
  match kindOf c t, m with
  | .map kt _, .map o =>
    if keyFits c kt k then
      match S.get o with
      | some (.map es clock) => (findKey k es 0).bind fun r => match r with
          | some (i, _) => S.putO o (.map (es.eraseIdx i) clock)
          | none => none
      | _ => none
    else none
  | _, _ => none

/-- The rows that append takes its second operand for. -/
def appRows (S : St) : AV → Option Rows
  | .str s => some (s.map fun b => [.int .u8 b.toNat])
  | v => S.rowsOf v

/-- What an operation that makes or turns memory does. -/
def aeff (c : Cfg) (R : Rec) (fid rid : Nat) (tm : List AV) (o : Oper) (S : St) : Option (AV × St) :=
  match o.op with
  | .alloc e => (c.ty e).bind fun i => i.zero.map fun z => (.ptr S.n 0, S.push (.row z false))
  | .box _ x => (evalT tm x).bind fun v => if leafC v then some (.ptr S.n 0, S.push (.row v.cells false)) else none
  | .store t a x => (c.ty t).bind fun i => (evalT tm a).bind fun p => (evalT tm x).bind fun v => (S.store i p v).map fun S' => (.undef, S')
  | .makeSlice t l cp =>
    (match kindOf c t with
      | .slice e => (c.ty e).bind fun ei => ei.zero.bind fun z => (evalT tm l).bind fun lv => (evalT tm cp).bind fun cv =>
        (match lv, cv with
          | .int _ n, .int _ m => if 0 ≤ n ∧ n ≤ m ∧ m ≤ 281474976710656 ∧ ei.bytes * m ≤ 281474976710656 ∧ z.length = ei.size ∧ 0 < ei.size then
              some (.sref S.n 0 0 n.toNat, S.push (.seq 0 ei.size (List.replicate n.toNat z) 0)) else none
          | _, _ => none)
      | _ => none)
  | .slice t x lo hi none =>
    (match kindOf c t with
      | .array n e => (c.ty e).bind fun ei => (evalT tm x).bind fun v => (evalO tm lo).bind fun l => (evalO tm hi).bind fun h =>
        (match v with
          | .ptr ob off => (match S.get ob with
              | some (.row cs _) => (bnd h n n).bind fun h' => (bnd l 0 h').bind fun l' =>
                  if off + n * ei.size ≤ cs.length ∧ 0 < ei.size then
                    (S.putO ob (.row cs true)).map fun S' => (.vec (chunk ei.size (h' - l') (cs.drop (off + l' * ei.size))), S') else none
              | _ => none)
          | _ => none)
      | _ => none)
  | .call { callee := .builtin .append, args, argTypes } =>
      (match args.toList, argTypes.toList with
        | [x, y], [t, u] => (match kindOf c t, ((c.ty u).map (·.kind) : Option TK) with
            | .slice _, some (.int _) => none
            | .slice _, none => none
            | .slice e, _ => (c.ty e).bind fun ei => (evalT tm x).bind fun a => (evalT tm y).bind fun b => (appRows S b).bind fun ys =>
                if 0 < ei.size ∧ ei.zero.map List.length = some ei.size then aappend ei.size ei.bytes (c.muts fid rid) a ys S else none
            | _, _ => none)
        | _, _ => none)
  | .call { callee := .builtin .delete, args, argTypes } =>
      (match args.toList, argTypes.toList with
        | [x, y], [t, _] => (evalT tm x).bind fun a => (evalT tm y).bind fun b => (adelete c S t a b).map fun S' => (.tup [], S')
        | _, _ => none)
  | .call { callee := .value f, args, .. } => (evalT tm f).bind fun g => (evalL tm args.toList).bind fun a => callV c R g a S
  | .makeMap t none => (match kindOf c t with | .map _ _ => some (.map S.n, S.push (.map [] 0)) | _ => none)
  | .mapUpdate t m k x => (evalT tm m).bind fun a => (evalT tm k).bind fun b => (evalT tm x).bind fun d => (amapUpdate c S t a b d).map fun S' => (.undef, S')
  | .mapEntry t m k => (evalT tm m).bind fun a => (evalT tm k).bind fun b => amapEntry c S t a b
  | .entryStore _ m s x => (evalT tm m).bind fun a => (evalT tm s).bind fun b => (evalT tm x).bind fun d => (aentryStore S a b d).map fun S' => (.undef, S')
  | _ => none

def aop (c : Cfg) (R : Rec) (fid rid : Nat) (tm : List AV) (o : Oper) (S : St) : Option (AV × St) :=
  match aval c tm o S with
  | some v => some (v, S)
  | none => aeff c R fid rid tm o S

/-! ### Regions -/
def ayielded (ops : Array Oper) (tm : List AV) (j : Nat) : Option Bool :=
  match (ops[j]?).bind (·.dst) with
  | some d => (match tm.getD d .undef with | .bool b => some b | _ => none)
  | none => none

def awanted (ops : Array Oper) (tm : List AV) (o : Oper) : Bool :=
  match o.guard with
  | none => true
  | some (j, want) => ayielded ops tm j == some want

def runOps (c : Cfg) (R : Rec) (fid rid : Nat) (ops : Array Oper) : List Oper → List AV → St → Option (List AV × St)
  | [], tm, S => some (tm, S)
  | o :: l, tm, S =>
    if awanted ops tm o then (aop c R fid rid tm o S).bind fun r => runOps c R fid rid ops l (putT tm o.dst r.1) r.2
    else runOps c R fid rid ops l (putT tm o.dst .undef) S

/-! ### Regions whose order is open -/
/-- Objects: all, or some. -/
inductive Ft where
  | all
  | ids (l : List Nat)
  | but (l : List Nat)

def Ft.apart : Ft → Ft → Bool
  | .ids a, .ids b => a.all fun x => !b.contains x
  | .ids a, .but b => a.all fun x => b.contains x
  | .but b, .ids a => a.all fun x => b.contains x
  | .ids [], .all => true
  | .all, .ids [] => true
  | _, _ => false

/-- What an operation looks at (or turns), what it turns, and whether it makes objects. -/
structure Foot where
  F : Ft
  T : Ft
  N : Bool

def Foot.none : Foot := ⟨.ids [], .ids [], false⟩
def Foot.big : Foot := ⟨.all, .all, true⟩
def Foot.apart (x y : Foot) : Bool := y.T.apart x.F && x.T.apart y.F && !(x.N && y.N)

def refs : AV → List Nat
  | .ptr o _ => [o]
  | .eptr o _ _ _ => [o]
  | .sref o _ _ _ => [o]
  | .map o => [o]
  | .own _ o _ => [o]
  | _ => []

def refsO (tm : List AV) (x : Operand) : List Nat :=
  match evalT tm x with
  | some v => refs v
  | none => []

/-- The objects that 'aval' looks at. -/
def rfoot (tm : List AV) (o : Oper) : List Nat :=
  match o.op with
  | .load _ a => refsO tm a
  | .slice _ x _ _ _ => refsO tm x
  | .indexAddr _ x _ => refsO tm x
  | .lookup _ x _ _ => refsO tm x
  | .call { callee := .builtin .len, args, .. } => args.toList.flatMap (refsO tm)
  | _ => []

/-- The footprint of an operation that makes or turns memory. -/
def wfoot (c : Cfg) (tm : List AV) (o : Oper) (S : St) : Foot :=
  match o.op with
  | .alloc _ | .box .. | .makeSlice .. => ⟨.ids [S.n], .ids [S.n], true⟩
  | .store _ a _ => ⟨.ids (refsO tm a), .ids (refsO tm a), false⟩
  | .slice _ x _ _ _ => ⟨.ids (refsO tm x), .ids (refsO tm x), false⟩
  | .call { callee := .builtin .append, args, .. } =>
    (match args.toList with
      | [x, y] => (match evalT tm x with
          | some (.own _ o _) => ⟨.ids (o :: refsO tm y), .ids [o], false⟩
          | some (.sref o _ _ _) => ⟨.ids (o :: refsO tm y), .ids [o], false⟩
          | some .nils => ⟨.ids (S.n :: refsO tm y), .ids [S.n], true⟩
          | some (.lit _) => ⟨.ids (S.n :: refsO tm y), .ids [S.n], true⟩
          | _ => .big)
      | _ => .big)
  | .call { callee := .value (.func f), args, .. } =>
    (match c.ext f with
      | some (.push F) => if ((evalL tm args.toList).bind fun a => F a S.n).isSome then ⟨.ids [S.n], .ids [S.n], true⟩ else .big
      | _ => .big)
  | _ => .big

/-- A call on plain data alone, of a function whose value is all that comes of it. -/
def calm (c : Cfg) (R : Rec) (tm : List AV) (o : Oper) : Option AV :=
  match o.op with
  | .call { callee := .value (.func f), args, .. } =>
    (match c.ext f with
      | some (.val F) => (evalL tm args.toList).bind F
      | some _ => none
      | none => (match c.mode f with
          | .pure => (evalL tm args.toList).bind fun a => (frzLA St.nil a).bind fun q =>
              if q.2.length = 0 then (R.call f q.1 St.nil).bind fun r => (frz r.2 r.1).map fun v => v.1 else none
          | _ => none))
  | _ => none

/-- Whether a call looks at no memory: it is 'calm', or it is none. -/
def calmable (c : Cfg) (tm : List AV) (o : Oper) : Bool :=
  match o.op with
  | .call { callee := .value (.func f), args, .. } =>
    (match c.ext f with
      | some (.val _) => true
      | some _ => false
      | none => (match c.mode f with
          | .pure => (match (evalL tm args.toList).bind (frzLA St.nil) with
              | some q => decide (q.2.length = 0)
              | none => false)
          | _ => false))
  | _ => false

def opD (c : Cfg) (R : Rec) (fid rid : Nat) (tm : List AV) (o : Oper) (S : St) : Option (AV × St × Foot) :=
  match aval c tm o S with
  | some v => some (v, S, ⟨.ids (rfoot tm o), .ids [], false⟩)
  | none =>
    if calmable c tm o then (calm c R tm o).map fun v => (v, S, .none)
    else (aeff c R fid rid tm o S).map fun r => (r.1, r.2, wfoot c tm o S)

/-! ### Places that are kept ready for what is made beside a call -/
/-- A call on the caller's memory. -/
def rawCall (c : Cfg) (o : Oper) : Bool :=
  match o.op with
  | .call { callee := .value (.func f), .. } => (c.ext f).isNone && (match c.mode f with | .raw => true | _ => false)
  | _ => false

def St.kill (S : St) : List Nat → St
  | [] => S
  | r :: K => (S.set r .dead).kill K

/-- T, with S's objects at K. -/
def St.rest (S T : St) : List Nat → St
  | [] => T
  | r :: K => S.rest (match S.get r with | some a => T.set r a | none => T) K

def isDead : Option AObj → Bool
  | some .dead => true
  | _ => false
def isPlain : Option AObj → Bool
  | some .dead => true
  | some (.row _ _) => true
  | _ => false

/-- An operation in a region of which some objects (K) have their places beforehand; 'r': the place of what the operation makes. A call sees none of them. -/
def opR (c : Cfg) (R : Rec) (fid rid : Nat) (K : List Nat) (r : Option Nat) (tm : List AV) (o : Oper) (S : St) : Option (AV × St × Foot) :=
  match r with
  | some r => (match o.op with
    | .alloc e => (c.ty e).bind fun i => i.zero.bind fun z =>
        if isDead (S.get r) ∧ S.base ≤ r then some (.ptr r 0, S.set r (.row z false), ⟨.ids [r], .ids [r], false⟩) else none
    | _ => none)
  | none =>
    if K ≠ [] ∧ rawCall c o then
      (aeff c R fid rid tm o (S.kill K)).bind fun q => if K.all fun r => isDead (q.2.get r) then some (q.1, S.rest q.2 K, ⟨.but K, .but K, true⟩) else none
    else opD c R fid rid tm o S

def ridOf (l : List Nat) (n i : Nat) : Option Nat := if l.contains i then some (n + l.idxOf i) else none

def runOpsR (c : Cfg) (R : Rec) (fid rid : Nat) (ops : Array Oper) (K : List Nat) (rd : Nat → Option Nat) : List Oper → Nat → List AV → St → Option (List AV × St × List Foot)
  | [], _, tm, S => some (tm, S, [])
  | o :: l, i, tm, S =>
    if awanted ops tm o then
      (opR c R fid rid K (rd i) tm o S).bind fun r => if K.all fun k => isPlain (r.2.1.get k) then
        (runOpsR c R fid rid ops K rd l (i + 1) (putT tm o.dst r.1) r.2.1).map fun q => (q.1, q.2.1, r.2.2 :: q.2.2) else none
    else (runOpsR c R fid rid ops K rd l (i + 1) (putT tm o.dst .undef) S).map fun q => (q.1, q.2.1, .none :: q.2.2)

def St.pushD (S : St) : Nat → St
  | 0 => S
  | k + 1 => (S.push .dead).pushD k

def runOpsD (c : Cfg) (R : Rec) (fid rid : Nat) (ops : Array Oper) : List Oper → List AV → St → Option (List AV × St × List Foot)
  | [], tm, S => some (tm, S, [])
  | o :: l, tm, S =>
    if awanted ops tm o then
      (opD c R fid rid tm o S).bind fun r => (runOpsD c R fid rid ops l (putT tm o.dst r.1) r.2.1).map fun q => (q.1, q.2.1, r.2.2 :: q.2.2)
    else (runOpsD c R fid rid ops l (putT tm o.dst .undef) S).map fun q => (q.1, q.2.1, .none :: q.2.2)

def edgesAny (o : Oper) : List Nat := (o.after.toList.filter (Region.binds .any)).map (·.on)

/-- What is ahead of each operation in every order. -/
def ancs : List Oper → List (List Nat) → List (List Nat)
  | [], acc => acc
  | o :: l, acc => ancs l (acc ++ [((edgesAny o).flatMap fun e => e :: acc.getD e []).eraseDups])

def ahead (ops : Array Oper) : List (List Nat) := ancs ops.toList []

def tmpOf : Operand → Option Tmp
  | .tmp t => some t
  | _ => none

/-- The temporaries that an operation looks at. -/
def looks (ops : Array Oper) (o : Oper) : List Tmp :=
  o.op.operands.toList.filterMap tmpOf ++ (match o.guard with | some (k, _) => ((ops[k]?).bind (·.dst)).toList | none => [])

def tempsApart (ops : Array Oper) (x y : Oper) : Bool :=
  (match x.dst with | some d => !(looks ops y).contains d && !(y.dst == some d) | none => true) &&
  (match y.dst with | some d => !(looks ops x).contains d | none => true)

/-- In whatever order the region's edges allow: its temporaries are what they are in the order of the text. -/
def drawOk (ops : Array Oper) : Bool :=
  let p := ahead ops
  (ops.toList.zipIdx.all fun q => (edgesAny q.1).all fun e => e < q.2) &&
  (List.range ops.size).all fun j => (List.range j).all fun i => (p.getD j []).contains i ||
    (match ops[i]?, ops[j]? with | some x, some y => tempsApart ops x y | _, _ => false)

/-- .. and so is its memory. -/
def feetOk (ops : Array Oper) (l : List Foot) : Bool :=
  let p := ahead ops
  (List.range ops.size).all fun j => (List.range j).all fun i => (p.getD j []).contains i ||
    (match l[i]?, l[j]? with | some x, some y => x.apart y | _, _ => false)

def isAlloc (o : Oper) : Bool :=
  match o.op with
  | .alloc _ => true
  | _ => false

/-- The operations that make an object beside a call on the caller's memory, in no order. -/
def resvd (c : Cfg) (ops : Array Oper) : List Nat :=
  let p := ahead ops
  (List.range ops.size).filter fun i => (match ops[i]? with | some o => isAlloc o && o.guard.isNone | none => false) &&
    (List.range ops.size).any fun j => (match ops[j]? with | some o => rawCall c o && o.guard.isNone | none => false) && !(p.getD j []).contains i && !(p.getD i []).contains j

def isRow : Option AObj → Bool
  | some (.row _ _) => true
  | _ => false

/-- The rows of cells that others look at beside a call on the caller's memory, in no order. -/
def aside (c : Cfg) (ops : Array Oper) (tm : List AV) (S : St) : List Nat :=
  let p := ahead ops
  ((List.range ops.size).flatMap fun i => match ops[i]? with
    | some o => if rawCall c o || isAlloc o then [] else
        if (List.range ops.size).any fun j => (match ops[j]? with | some o => rawCall c o | none => false) && !(p.getD j []).contains i && !(p.getD i []).contains j then
          (looks ops o).flatMap fun t => refs (tm.getD t .undef) else []
    | none => []).filter fun o => isRow (S.get o)

def placesOf (n k : Nat) : List Nat := (List.range k).map (n + ·)

def aregion (c : Cfg) (R : Rec) (fid rid : Nat) (ops : Array Oper) (draw : Bool) (tm : List AV) (S : St) : Option (List AV × St) :=
  if draw then
    (if drawOk ops then
      (if resvd c ops = [] then (runOpsD c R fid rid ops ops.toList tm S).bind fun q => if feetOk ops q.2.2 then some (q.1, q.2.1) else none
      else (runOpsR c R fid rid ops (placesOf S.n (resvd c ops).length ++ aside c ops tm S) (ridOf (resvd c ops) S.n) ops.toList 0 tm (S.pushD (resvd c ops).length)).bind fun q => if feetOk ops q.2.2 then some (q.1, q.2.1) else none)
    else none)
  else runOps c R fid rid ops ops.toList tm S

/-! ### Code -/
def exitBlock (id : Nat) (r : Ex × Fr × St) : Ex × Fr × St := if r.1 = .exit id then (.nrm, r.2) else r

def rangeStart (fr : Fr) (S : St) : Option (Nat × St × List Nat) :=
  match fr.round with
  | none => some (S.n, S.push .dfr, [S.n])
  | some l => match S.get l with
    | some (.loop _ _ _ _ _ _ _ d) => some (d, S, [])
    | _ => none

def rangeEnd (l : Nat) (fr : Fr) (mk : List Nat) (S : St) : Option (Ex × Fr × St) :=
  match S.get l with
  | some (.loop st pend fn tmps ps asg body d) =>
    if st = .busy then none else (S.putO l (.loop .exhausted pend fn tmps ps asg body d)).map fun S' => (pend, { fr with marks := mk ++ fr.marks }, S')
  | _ => none

def execS (c : Cfg) (R : Rec) : Code → Fr → St → Option (Ex × Fr × St)
  | .skip, fr, S => some (.nrm, fr, S)
  | .label _, fr, S => some (.nrm, fr, S)
  | .exit id, fr, S => some (.exit id, fr, S)
  | .goto l, fr, S => some (.goto l, fr, S)
  | .ret, fr, S => some (.ret, fr, S)
  | .refuse _, _, _ => none
  | .scope _, _, _ => none
  | .region id ops draw, fr, S => (aregion c R fr.fn id ops draw fr.tmps S).map fun r => (.nrm, { fr with tmps := r.1 }, r.2)
  | .seq a b, fr, S => (execS c R a fr S).bind fun r => if r.1 = .nrm then execS c R b r.2.1 r.2.2 else some r
  | .cond x a b, fr, S =>
    match evalT fr.tmps x with
    | some (.bool true) => execS c R a fr S
    | some (.bool false) => execS c R b fr S
    | _ => none
  | .block id b, fr, S => (execS c R b fr S).map (exitBlock id)
  | .loop b, fr, S => (execS c R b fr S).bind fun r => if r.1 = .nrm then R.code (.loop b) r.2.1 r.2.2 else some r
  | .rangeFunc g ps asg body, fr, S =>
    (rangeStart fr S).bind fun q =>
    match evalT fr.tmps g with
    | some (.fn f first cap) =>
      (R.call f (first ++ [.yield q.2.1.n] ++ cap) (q.2.1.push (.loop .ready .nrm fr.fn fr.tmps ps.toList asg body q.1))).bind fun r =>
      rangeEnd q.2.1.n fr q.2.2 r.2
    | _ => none

def run (c : Cfg) : Nat → Rec
  | 0 => ⟨fun _ _ _ => none, fun _ _ _ => none⟩
  | n + 1 => ⟨execS c (run c n), callS c (run c n)⟩

end Go.Am

/- THE ABSTRACT MACHINE, THIRD FILE: what its values and its memory say of the model's. -/
set_option linter.unusedVariables false
namespace Go.Am

structure Seg where
  b : Nat
  st : Nat
  ln : Nat
  cp : Nat
  es : Nat

/-- Where objects lie, and which cells are written no more. -/
structure Gh where
  blk : Nat → Nat → Prop
  seg : Nat → Nat → Seg → Prop
  im : Nat → Nat → Prop

structure Gh.Le (G G' : Gh) : Prop where
  blk : ∀ o b, G.blk o b → G'.blk o b
  seg : ∀ o g s, G.seg o g s → G'.seg o g s
  im : ∀ b f, G.im b f → G'.im b f

theorem Gh.Le.refl (G : Gh) : G.Le G := ⟨fun _ _ h => h, fun _ _ _ h => h, fun _ _ h => h⟩
theorem Gh.Le.trans {A B C : Gh} (h : A.Le B) (k : B.Le C) : A.Le C :=
  ⟨fun o b x => k.blk o b (h.blk o b x), fun o g s x => k.seg o g s (h.seg o g s x), fun b f x => k.im b f (h.im b f x)⟩

def Gh.cell (G : Gh) (w : World) (b f : Nat) (u : Value) : Prop := G.im b f ∧ w.cell? ⟨b, f, none⟩ = some u

inductive Rep (G : Gh) (w : World) : AV → Value → Prop
  | int (k : IntKind) (n : Int) : Rep G w (.int k n) (.int k n)
  | bool (b : Bool) : Rep G w (.bool b) (.bool b)
  | str (s : List UInt8) : Rep G w (.str s) (.string ⟨s.toArray⟩)
  | undef : Rep G w .undef (.tuple #[])
  | nilp : Rep G w .nilp (.pointer none)
  | nils : Rep G w .nils (.slice none 0 0)
  | nilm : Rep G w .nilm (.map none)
  | nilf : Rep G w .nilf .nilFunc
  | nili : Rep G w .nili .nilIface
  | emp (a : Addr) (cap : Nat) : Rep G w .emp (.slice (some a) 0 cap)
  | ifc (t : TypeId) (v : Value) : Rep G w .ifc (.iface t v)
  | ptr (o off b : Nat) (h : G.blk o b) : Rep G w (.ptr o off) (.pointer (some ⟨b, off, none⟩))
  | eptr (o g i off : Nat) (s : Seg) (h : G.seg o g s) : Rep G w (.eptr o g i off) (.pointer (some ⟨s.b, s.st + i * s.es + off, none⟩))
  | iptr (row : List AV) (off b p : Nat) (us : Nat → Value)
      (hl : ∀ (j : Nat) (x : AV), row[j]? = some x → leaf x = true) (hc : ∀ (j : Nat) (x : AV), row[j]? = some x → G.cell w b (p + j) (us j)) (hr : ∀ (j : Nat) (x : AV), row[j]? = some x → Rep G w x (us j)) :
      Rep G w (.iptr row off) (.pointer (some ⟨b, p + off, none⟩))
  | vec0 (a : Option Addr) (cap : Nat) (h : a = none → cap = 0) : Rep G w (.vec []) (.slice a 0 cap)
  | vec (rows : Rows) (es b p cap : Nat) (us : Nat → Nat → Value) (hcap : rows.length ≤ cap) (hes : ∀ (i : Nat) (r : List AV), rows[i]? = some r → r.length = es)
      (hl : ∀ (i : Nat) (r : List AV) (j : Nat) (x : AV), rows[i]? = some r → r[j]? = some x → leaf x = true)
      (hc : ∀ (i : Nat) (r : List AV) (j : Nat) (x : AV), rows[i]? = some r → r[j]? = some x → G.cell w b (p + i * es + j) (us i j)) (hr : ∀ (i : Nat) (r : List AV) (j : Nat) (x : AV), rows[i]? = some r → r[j]? = some x → Rep G w x (us i j)) :
      Rep G w (.vec rows) (.slice (some ⟨b, p, none⟩) rows.length cap)
  | lit0 (a : Option Addr) : Rep G w (.lit []) (.slice a 0 0)
  | lit (rows : Rows) (es b p : Nat) (us : Nat → Nat → Value) (hes : ∀ (i : Nat) (r : List AV), rows[i]? = some r → r.length = es)
      (hl : ∀ (i : Nat) (r : List AV) (j : Nat) (x : AV), rows[i]? = some r → r[j]? = some x → leaf x = true)
      (hc : ∀ (i : Nat) (r : List AV) (j : Nat) (x : AV), rows[i]? = some r → r[j]? = some x → G.cell w b (p + i * es + j) (us i j)) (hr : ∀ (i : Nat) (r : List AV) (j : Nat) (x : AV), rows[i]? = some r → r[j]? = some x → Rep G w x (us i j)) :
      Rep G w (.lit rows) (.slice (some ⟨b, p, none⟩) rows.length rows.length)
  | own (rows : Rows) (o g : Nat) (s : Seg) (us : Nat → Nat → Value) (hs : G.seg o g s) (hn : rows.length = s.ln) (hcap : s.ln ≤ s.cp) (hes : ∀ (i : Nat) (r : List AV), rows[i]? = some r → r.length = s.es)
      (hl : ∀ (i : Nat) (r : List AV) (j : Nat) (x : AV), rows[i]? = some r → r[j]? = some x → leaf x = true)
      (hc : ∀ (i : Nat) (r : List AV) (j : Nat) (x : AV), rows[i]? = some r → r[j]? = some x → G.cell w s.b (s.st + i * s.es + j) (us i j)) (hr : ∀ (i : Nat) (r : List AV) (j : Nat) (x : AV), rows[i]? = some r → r[j]? = some x → Rep G w x (us i j)) :
      Rep G w (.own rows o g) (.slice (some ⟨s.b, s.st, none⟩) rows.length s.cp)
  | sref (o g off len : Nat) (s : Seg) (hs : G.seg o g s) (h : off < s.cp) (hle : off + len ≤ s.cp) : Rep G w (.sref o g off len) (.slice (some ⟨s.b, s.st + off * s.es, none⟩) len (s.cp - off))
  | sref0 (o g off : Nat) (s : Seg) (hs : G.seg o g s) (h : off = s.cp) (a : Addr) : Rep G w (.sref o g off 0) (.slice (some a) 0 0)
  | map (o b : Nat) (h : G.blk o b) : Rep G w (.map o) (.map (some b))
  | fn (f : FuncId) (first cap : List AV) (vf vc : Array Value) (uf uc : Nat → Value) (nf : vf.size = first.length) (nc : vc.size = cap.length)
      (hf : ∀ (j : Nat) (x : AV), first[j]? = some x → vf[j]? = some (uf j)) (hc : ∀ (j : Nat) (x : AV), cap[j]? = some x → vc[j]? = some (uc j))
      (rf : ∀ (j : Nat) (x : AV), first[j]? = some x → Rep G w x (uf j)) (rc : ∀ (j : Nat) (x : AV), cap[j]? = some x → Rep G w x (uc j)) : Rep G w (.fn f first cap) (.func (.func f) vf vc)
  | yield (l b : Nat) (h : G.blk l b) : Rep G w (.yield l) (.func (.yield b) #[] #[])
  | agg (cs : List AV) (vs : Array Value) (us : Nat → Value) (hn : vs.size = cs.length) (hl : ∀ (j : Nat) (x : AV), cs[j]? = some x → leaf x = true)
      (hv : ∀ (j : Nat) (x : AV), cs[j]? = some x → vs[j]? = some (us j)) (hr : ∀ (j : Nat) (x : AV), cs[j]? = some x → Rep G w x (us j)) : Rep G w (.agg cs) (.agg vs)
  | tup (cs : List AV) (vs : Array Value) (us : Nat → Value) (hn : vs.size = cs.length)
      (hv : ∀ (j : Nat) (x : AV), cs[j]? = some x → vs[j]? = some (us j)) (hr : ∀ (j : Nat) (x : AV), cs[j]? = some x → Rep G w x (us j)) : Rep G w (.tup cs) (.tuple vs)

/-- Cells that are written no more are as they were. -/
def Kept (G : Gh) (w w' : World) : Prop := ∀ b f u, G.im b f → w.cell? ⟨b, f, none⟩ = some u → w'.cell? ⟨b, f, none⟩ = some u

theorem Gh.cell.mono {G G' : Gh} {w w' : World} (hg : G.Le G') (hk : Kept G w w') {b f : Nat} {u : Value} (h : G.cell w b f u) : G'.cell w' b f u :=
  ⟨hg.im _ _ h.1, hk _ _ _ h.1 h.2⟩

theorem Rep.mono {G G' : Gh} {w w' : World} (hg : G.Le G') (hk : Kept G w w') {x : AV} {v : Value} (h : Rep G w x v) : Rep G' w' x v := by
  induction h with
  | int => exact .int _ _
  | bool => exact .bool _
  | str => exact .str _
  | undef => exact .undef
  | nilp => exact .nilp
  | nils => exact .nils
  | nilm => exact .nilm
  | nilf => exact .nilf
  | nili => exact .nili
  | emp => exact .emp _ _
  | ifc => exact .ifc _ _
  | ptr o off b h => exact .ptr _ _ _ (hg.blk _ _ h)
  | eptr o g i off s h => exact .eptr _ _ _ _ _ (hg.seg _ _ _ h)
  | iptr row off b p us hl hc hr ih => exact .iptr _ _ _ _ us hl (fun j x h => (hc j x h).mono hg hk) ih
  | vec0 a cap h => exact .vec0 _ _ h
  | vec rows es b p cap us hcap hes hl hc hr ih => exact .vec _ _ _ _ _ us hcap hes hl (fun i r j x h h' => (hc i r j x h h').mono hg hk) ih
  | lit0 a => exact .lit0 _
  | lit rows es b p us hes hl hc hr ih => exact .lit _ _ _ _ us hes hl (fun i r j x h h' => (hc i r j x h h').mono hg hk) ih
  | own rows o g s us hs hn hcap hes hl hc hr ih => exact .own _ _ _ _ us (hg.seg _ _ _ hs) hn hcap hes hl (fun i r j x h h' => (hc i r j x h h').mono hg hk) ih
  | sref o g off len s hs h hle => exact .sref _ _ _ _ _ (hg.seg _ _ _ hs) h hle
  | sref0 o g off s hs h a => exact .sref0 _ _ _ _ (hg.seg _ _ _ hs) h _
  | map o b h => exact .map _ _ (hg.blk _ _ h)
  | fn f first cap vf vc uf uc nf nc hf hc _ _ ihf ihc => exact .fn _ _ _ _ _ uf uc nf nc hf hc ihf ihc
  | yield l b h => exact .yield _ _ (hg.blk _ _ h)
  | agg cs vs us hn hl hv _ ih => exact .agg _ _ us hn hl hv ih
  | tup cs vs us hn hv _ ih => exact .tup _ _ us hn hv ih

/-! ### Rows of values -/
/-- Values, one by one. -/
def RepL (G : Gh) (w : World) (xs : List AV) (vs : List Value) : Prop := vs.length = xs.length ∧ ∀ (j : Nat) (x : AV), xs[j]? = some x → ∃ u, vs[j]? = some u ∧ Rep G w x u

theorem RepL.mono {G G' : Gh} {w w' : World} (hg : G.Le G') (hk : Kept G w w') {xs : List AV} {vs : List Value} (h : RepL G w xs vs) : RepL G' w' xs vs :=
  ⟨h.1, fun j x hx => let ⟨u, h1, h2⟩ := h.2 j x hx; ⟨u, h1, h2.mono hg hk⟩⟩

theorem RepL.nil (G : Gh) (w : World) : RepL G w [] [] := ⟨rfl, fun j x h => by simp at h⟩
theorem RepL.cons {G : Gh} {w : World} {x : AV} {v : Value} {xs : List AV} {vs : List Value} (h : Rep G w x v) (t : RepL G w xs vs) : RepL G w (x :: xs) (v :: vs) :=
  ⟨by simp [t.1], fun j y hy => by
    cases j with
    | zero => simp at hy; subst hy; exact ⟨v, by simp, h⟩
    | succ j => simp at hy; simpa using t.2 j y hy⟩
theorem RepL.uncons {G : Gh} {w : World} {x : AV} {xs : List AV} {vs : List Value} (h : RepL G w (x :: xs) vs) : ∃ v vs', vs = v :: vs' ∧ Rep G w x v ∧ RepL G w xs vs' := by
  obtain ⟨h1, h2⟩ := h
  cases vs with
  | nil => simp at h1
  | cons v vs =>
    obtain ⟨u, hu, hr⟩ := h2 0 x (by simp)
    simp at hu
    subst hu
    exact ⟨v, vs, rfl, hr, by simpa using h1, fun j y hy => by simpa using h2 (j + 1) y (by simpa using hy)⟩
theorem RepL.nil_inv {G : Gh} {w : World} {vs : List Value} (h : RepL G w [] vs) : vs = [] := by
  have := h.1
  exact List.eq_nil_of_length_eq_zero (by simpa using this)
theorem RepL.append {G : Gh} {w : World} {xs ys : List AV} {vs us : List Value} (h : RepL G w xs vs) (k : RepL G w ys us) : RepL G w (xs ++ ys) (vs ++ us) := by
  refine ⟨by simp [h.1, k.1], fun j x hx => ?_⟩
  rcases Nat.lt_or_ge j xs.length with hj | hj
  · rw [List.getElem?_append_left hj] at hx
    rw [List.getElem?_append_left (by rw [h.1]; exact hj)]
    exact h.2 j x hx
  · rw [List.getElem?_append_right hj] at hx
    rw [List.getElem?_append_right (by rw [h.1]; exact hj), h.1]
    exact k.2 _ x hx
theorem RepL.take {G : Gh} {w : World} {xs : List AV} {vs : List Value} (h : RepL G w xs vs) (n : Nat) : RepL G w (xs.take n) (vs.take n) := by
  refine ⟨by simp [h.1], fun j x hx => ?_⟩
  rw [List.getElem?_take] at hx ⊢
  split at hx
  · rename_i hj
    rw [if_pos hj]
    exact h.2 j x hx
  · simp at hx
theorem RepL.drop {G : Gh} {w : World} {xs : List AV} {vs : List Value} (h : RepL G w xs vs) (n : Nat) : RepL G w (xs.drop n) (vs.drop n) := by
  refine ⟨by simp [h.1], fun j x hx => ?_⟩
  rw [List.getElem?_drop] at hx ⊢
  exact h.2 _ x hx
theorem RepL.set {G : Gh} {w : World} {xs : List AV} {vs : List Value} (h : RepL G w xs vs) (n : Nat) {x : AV} {v : Value} (hv : Rep G w x v) : RepL G w (xs.set n x) (vs.set n v) := by
  refine ⟨by simp [h.1], fun j y hy => ?_⟩
  rw [List.getElem?_set] at hy ⊢
  split at hy
  · rename_i hn
    subst hn
    split at hy
    · rename_i hlt
      simp at hy
      subst hy
      exact ⟨v, by simp [h.1, hlt], hv⟩
    · simp at hy
  · rename_i hn
    rw [if_neg hn]
    exact h.2 j y hy
theorem RepL.get {G : Gh} {w : World} {xs : List AV} {vs : List Value} (h : RepL G w xs vs) {j : Nat} {x : AV} (hx : xs[j]? = some x) : ∃ u, vs[j]? = some u ∧ Rep G w x u := h.2 j x hx
theorem RepL.getD {G : Gh} {w : World} {xs : List AV} {vs : List Value} (h : RepL G w xs vs) (j : Nat) : Rep G w (xs.getD j .undef) (vs.getD j undef) := by
  cases hx : xs[j]? with
  | some x =>
    obtain ⟨u, hu, hr⟩ := h.2 j x hx
    simp [List.getD, hx, hu, hr]
  | none =>
    have hv : vs[j]? = none := by
      rw [List.getElem?_eq_none_iff] at hx ⊢
      rw [h.1]; exact hx
    simp [List.getD, hx, hv]
    exact Rep.undef
theorem RepL.replicate {G : Gh} {w : World} (n : Nat) {x : AV} {v : Value} (h : Rep G w x v) : RepL G w (List.replicate n x) (List.replicate n v) := by
  refine ⟨by simp, fun j y hy => ?_⟩
  rw [List.getElem?_replicate] at hy ⊢
  split at hy
  · rename_i hj; simp at hy; subst hy; exact ⟨v, by simp [hj], h⟩
  · simp at hy

theorem rep_agg {G : Gh} {w : World} {cs : List AV} {vs : Array Value} : Rep G w (.agg cs) (.agg vs) ↔ RepL G w cs vs.toList ∧ ∀ (j : Nat) (x : AV), cs[j]? = some x → leaf x = true := by
  constructor
  · intro h
    cases h with
    | agg _ _ us hn hl hv hr =>
      exact ⟨⟨by simpa using hn, fun j x hx => ⟨us j, by simpa using hv j x hx, hr j x hx⟩⟩, hl⟩
  · rintro ⟨⟨hn, h⟩, hl⟩
    refine .agg cs vs (fun j => vs.getD j undef) (by simpa using hn) hl (fun j x hx => ?_) (fun j x hx => ?_)
    · obtain ⟨u, hu, _⟩ := h j x hx
      have hu' : vs[j]? = some u := by simpa using hu
      simp [Array.getD_eq_getD_getElem?, hu']
    · obtain ⟨u, hu, hr⟩ := h j x hx
      have hu' : vs[j]? = some u := by simpa using hu
      simpa [Array.getD_eq_getD_getElem?, hu'] using hr
theorem rep_agg_inv {G : Gh} {w : World} {cs : List AV} {v : Value} (h : Rep G w (.agg cs) v) : ∃ vs, v = .agg vs ∧ RepL G w cs vs.toList ∧ ∀ (j : Nat) (x : AV), cs[j]? = some x → leaf x = true := by
  cases h with
  | agg _ vs us hn hl hv hr => exact ⟨vs, rfl, rep_agg.1 (.agg _ _ us hn hl hv hr)⟩
theorem rep_tup {G : Gh} {w : World} {cs : List AV} {vs : Array Value} : Rep G w (.tup cs) (.tuple vs) ↔ RepL G w cs vs.toList := by
  constructor
  · intro h
    cases h with
    | tup _ _ us hn hv hr => exact ⟨by simpa using hn, fun j x hx => ⟨us j, by simpa using hv j x hx, hr j x hx⟩⟩
  · rintro ⟨hn, h⟩
    refine .tup cs vs (fun j => vs.getD j undef) (by simpa using hn) (fun j x hx => ?_) (fun j x hx => ?_)
    · obtain ⟨u, hu, _⟩ := h j x hx
      have hu' : vs[j]? = some u := by simpa using hu
      simp [Array.getD_eq_getD_getElem?, hu']
    · obtain ⟨u, hu, hr⟩ := h j x hx
      have hu' : vs[j]? = some u := by simpa using hu
      simpa [Array.getD_eq_getD_getElem?, hu'] using hr
theorem rep_tup_inv {G : Gh} {w : World} {cs : List AV} {v : Value} (h : Rep G w (.tup cs) v) : ∃ vs, v = .tuple vs ∧ RepL G w cs vs.toList := by
  cases h with
  | tup _ vs us hn hv hr => exact ⟨vs, rfl, rep_tup.1 (.tup _ _ us hn hv hr)⟩
theorem rep_fn {G : Gh} {w : World} {f : FuncId} {a b : List AV} {vf vc : Array Value} (ha : RepL G w a vf.toList) (hb : RepL G w b vc.toList) : Rep G w (.fn f a b) (.func (.func f) vf vc) := by
  have key : ∀ {l : List AV} {vs : Array Value}, RepL G w l vs.toList → (∀ (j : Nat) (x : AV), l[j]? = some x → vs[j]? = some ((fun j => vs.getD j undef) j)) ∧ (∀ (j : Nat) (x : AV), l[j]? = some x → Rep G w x ((fun j => vs.getD j undef) j)) := by
    intro l vs h
    refine ⟨fun j x hx => ?_, fun j x hx => ?_⟩
    · obtain ⟨u, hu, _⟩ := h.2 j x hx
      have hu' : vs[j]? = some u := by simpa using hu
      simp [Array.getD_eq_getD_getElem?, hu']
    · obtain ⟨u, hu, hr⟩ := h.2 j x hx
      have hu' : vs[j]? = some u := by simpa using hu
      simpa [Array.getD_eq_getD_getElem?, hu'] using hr
  exact .fn f a b vf vc _ _ (by simpa using ha.1) (by simpa using hb.1) (key ha).1 (key hb).1 (key ha).2 (key hb).2
theorem rep_fn_inv {G : Gh} {w : World} {f : FuncId} {a b : List AV} {v : Value} (h : Rep G w (.fn f a b) v) : ∃ vf vc, v = .func (.func f) vf vc ∧ RepL G w a vf.toList ∧ RepL G w b vc.toList := by
  cases h with
  | fn _ _ _ vf vc uf uc nf nc hf hc rf rc =>
    exact ⟨vf, vc, rfl, ⟨by simpa using nf, fun j x hx => ⟨uf j, by simpa using hf j x hx, rf j x hx⟩⟩, ⟨by simpa using nc, fun j x hx => ⟨uc j, by simpa using hc j x hx, rc j x hx⟩⟩⟩

theorem rep_oneCell {G : Gh} {w : World} {x : AV} {v : Value} (h : Rep G w x v) (hl : leaf x = true) : v.oneCell' = true := by
  cases h <;> first | rfl | (simp [leaf] at hl)

/-- The cells of a value. -/
theorem rep_cells {G : Gh} {w : World} {x : AV} {v : Value} (h : Rep G w x v) (hl : leafC x = true) : RepL G w x.cells v.cells.toList ∧ ∀ (j : Nat) (y : AV), x.cells[j]? = some y → leaf y = true := by
  cases x with
  | agg cs =>
    obtain ⟨vs, rfl, h1, h2⟩ := rep_agg_inv h
    exact ⟨h1, h2⟩
  | tup => simp [leafC, leaf] at hl
  | undef => simp [leafC, leaf] at hl
  | _ =>
    have hv : v.cells = #[v] := by cases h <;> rfl
    rw [hv]
    refine ⟨RepL.cons h (RepL.nil _ _), fun j y hy => ?_⟩
    cases j with
    | zero => simp [AV.cells] at hy; subst hy; exact hl
    | succ j => simp [AV.cells] at hy

/-! ### Immutable rows -/
/-- Rows of cells that lie in w from cell p of block b on. -/
structure RowsAt (G : Gh) (w : World) (b p es : Nat) (rows : Rows) : Prop where
  len : ∀ (i : Nat) (r : List AV), rows[i]? = some r → r.length = es
  cell : ∀ (i : Nat) (r : List AV) (j : Nat) (x : AV), rows[i]? = some r → r[j]? = some x → leaf x = true ∧ ∃ u, G.cell w b (p + i * es + j) u ∧ Rep G w x u

theorem rowsAt_us {G : Gh} {w : World} {b p es : Nat} {rows : Rows} (h : RowsAt G w b p es rows) : ∃ us : Nat → Nat → Value,
    (∀ (i : Nat) (r : List AV) (j : Nat) (x : AV), rows[i]? = some r → r[j]? = some x → G.cell w b (p + i * es + j) (us i j)) ∧ (∀ (i : Nat) (r : List AV) (j : Nat) (x : AV), rows[i]? = some r → r[j]? = some x → Rep G w x (us i j)) := by
  refine ⟨fun i j => (w.cell? ⟨b, p + i * es + j, none⟩).getD undef, fun i r j x hi hj => ?_, fun i r j x hi hj => ?_⟩
  · obtain ⟨_, u, hc, _⟩ := h.cell i r j x hi hj
    show G.cell w b _ ((w.cell? _).getD undef)
    rw [hc.2]; exact hc
  · obtain ⟨_, u, hc, hr⟩ := h.cell i r j x hi hj
    show Rep G w x ((w.cell? _).getD undef)
    rw [hc.2]; exact hr

theorem RowsAt.mono {G G' : Gh} {w w' : World} (hg : G.Le G') (hk : Kept G w w') {b p es : Nat} {rows : Rows} (h : RowsAt G w b p es rows) : RowsAt G' w' b p es rows :=
  ⟨h.len, fun i r j x hi hj => let ⟨a, u, hc, hr⟩ := h.cell i r j x hi hj; ⟨a, u, hc.mono hg hk, hr.mono hg hk⟩⟩

theorem rep_vec {G : Gh} {w : World} {b p es cap : Nat} {rows : Rows} (h : RowsAt G w b p es rows) (hc : rows.length ≤ cap) : Rep G w (.vec rows) (.slice (some ⟨b, p, none⟩) rows.length cap) := by
  obtain ⟨us, h1, h2⟩ := rowsAt_us h
  exact .vec rows es b p cap us hc h.len (fun i r j x hi hj => (h.cell i r j x hi hj).1) h1 h2
theorem rep_lit {G : Gh} {w : World} {b p es : Nat} {rows : Rows} (h : RowsAt G w b p es rows) : Rep G w (.lit rows) (.slice (some ⟨b, p, none⟩) rows.length rows.length) := by
  obtain ⟨us, h1, h2⟩ := rowsAt_us h
  exact .lit rows es b p us h.len (fun i r j x hi hj => (h.cell i r j x hi hj).1) h1 h2
theorem rep_own {G : Gh} {w : World} {o g : Nat} {s : Seg} {rows : Rows} (hs : G.seg o g s) (hn : rows.length = s.ln) (hc : s.ln ≤ s.cp) (h : RowsAt G w s.b s.st s.es rows) :
    Rep G w (.own rows o g) (.slice (some ⟨s.b, s.st, none⟩) rows.length s.cp) := by
  obtain ⟨us, h1, h2⟩ := rowsAt_us h
  exact .own rows o g s us hs hn hc h.len (fun i r j x hi hj => (h.cell i r j x hi hj).1) h1 h2

/-- A slice value of plain rows: nothing, or rows somewhere. -/
theorem rep_rows_inv {G : Gh} {w : World} {x : AV} {v : Value} {rows : Rows} (h : Rep G w x v) (hx : (∃ r, x = .vec r ∧ rows = r) ∨ (∃ r, x = .lit r ∧ rows = r) ∨ (∃ r o g, x = .own r o g ∧ rows = r) ∨ (x = .nils ∧ rows = []) ∨ (x = .emp ∧ rows = [])) :
    ∃ a cap, v = .slice a rows.length cap ∧ rows.length ≤ cap ∧ (a = none → cap = 0) ∧ (rows = [] ∨ ∃ b p es, a = some ⟨b, p, none⟩ ∧ RowsAt G w b p es rows) := by
  rcases hx with ⟨r, rfl, rfl⟩ | ⟨r, rfl, rfl⟩ | ⟨r, o, g, rfl, rfl⟩ | ⟨rfl, rfl⟩ | ⟨rfl, rfl⟩
  · cases h with
    | vec0 a cap h => exact ⟨a, cap, rfl, Nat.zero_le _, h, .inl rfl⟩
    | vec _ es b p cap us hcap hes hl hc hr =>
      exact ⟨_, _, rfl, hcap, by simp, .inr ⟨b, p, es, rfl, hes, fun i r j x hi hj => ⟨hl i r j x hi hj, us i j, hc i r j x hi hj, hr i r j x hi hj⟩⟩⟩
  · cases h with
    | lit0 a => exact ⟨a, 0, rfl, Nat.zero_le _, fun _ => rfl, .inl rfl⟩
    | lit _ es b p us hes hl hc hr =>
      exact ⟨_, _, rfl, Nat.le_refl _, by simp, .inr ⟨b, p, es, rfl, hes, fun i r j x hi hj => ⟨hl i r j x hi hj, us i j, hc i r j x hi hj, hr i r j x hi hj⟩⟩⟩
  · cases h with
    | own _ _ _ s us hs hn hcap hes hl hc hr =>
      exact ⟨_, _, rfl, by rw [hn]; exact hcap, by simp, .inr ⟨s.b, s.st, s.es, rfl, hes, fun i r j x hi hj => ⟨hl i r j x hi hj, us i j, hc i r j x hi hj, hr i r j x hi hj⟩⟩⟩
  · cases h; exact ⟨none, 0, rfl, Nat.le_refl _, fun _ => rfl, .inl rfl⟩
  · cases h; exact ⟨_, _, rfl, Nat.zero_le _, by simp, .inl rfl⟩

end Go.Am

/- THE ABSTRACT MACHINE, FOURTH FILE: memory: what lies where, and how it turns. -/
set_option linter.unusedVariables false
namespace Go.Am
open Go.RowKit

/-! ### The list of objects -/
theorem St.get_lt {S : St} {id : Nat} {o : AObj} (h : S.get id = some o) : id < S.n := by
  unfold St.get at h
  split at h
  · assumption
  · simp at h
theorem St.get_push_new (S : St) (o : AObj) : (S.push o).get S.n = some o := by
  simp [St.get, St.push]
theorem St.get_push_old {S : St} (o : AObj) {id : Nat} (h : id < S.n) : (S.push o).get id = S.get id := by
  unfold St.get St.push
  simp only
  rw [if_pos (by omega), if_pos h, show S.n + 1 - 1 - id = (S.n - 1 - id) + 1 by omega, List.getElem?_cons_succ]
theorem St.get_push {S : St} {o : AObj} {id : Nat} {a : AObj} (h : (S.push o).get id = some a) : (id = S.n ∧ a = o) ∨ (id < S.n ∧ S.get id = some a) := by
  have hlt := St.get_lt h
  simp only [St.push] at hlt
  by_cases he : id = S.n
  · subst he
    rw [St.get_push_new] at h
    exact .inl ⟨rfl, by simpa using h.symm⟩
  · have hl : id < S.n := by omega
    rw [St.get_push_old o hl] at h
    exact .inr ⟨hl, h⟩
theorem St.get_set_same {S : St} (hl : S.h.length = S.n) (o : AObj) {id : Nat} (h : id < S.n) : (S.set id o).get id = some o := by
  unfold St.get St.set
  simp only
  rw [if_pos h, List.getElem?_set_self (by omega)]
theorem St.get_set_other {S : St} (o : AObj) {id id' : Nat} (h : id < S.n) (hne : id' ≠ id) : (S.set id o).get id' = S.get id' := by
  unfold St.get St.set
  simp only
  split
  · rename_i h'
    rw [List.getElem?_set_ne (by omega)]
  · rfl
theorem St.get_set {S : St} (hl : S.h.length = S.n) {o : AObj} {id id' : Nat} {a : AObj} (h : id < S.n) (hg : (S.set id o).get id' = some a) : (id' = id ∧ a = o) ∨ (id' ≠ id ∧ S.get id' = some a) := by
  by_cases he : id' = id
  · subst he
    rw [St.get_set_same hl o h] at hg
    exact .inl ⟨rfl, by simpa using hg.symm⟩
  · rw [St.get_set_other o h he] at hg
    exact .inr ⟨he, hg⟩
@[simp] theorem St.set_n (S : St) (id : Nat) (o : AObj) : (S.set id o).n = S.n := rfl
@[simp] theorem St.set_base (S : St) (id : Nat) (o : AObj) : (S.set id o).base = S.base := rfl
@[simp] theorem St.push_n (S : St) (o : AObj) : (S.push o).n = S.n + 1 := rfl
@[simp] theorem St.push_base (S : St) (o : AObj) : (S.push o).base = S.base := rfl
@[simp] theorem St.set_len (S : St) (id : Nat) (o : AObj) : (S.set id o).h.length = S.h.length := by simp [St.set]
theorem St.putO_some {S S' : St} {id : Nat} {o : AObj} (h : S.putO id o = some S') : S.base ≤ id ∧ S' = S.set id o := by
  unfold St.putO at h
  split at h
  · rename_i hb; simp at h; exact ⟨hb, h.symm⟩
  · simp at h

/-! ### Objects in the model's memory -/
def genOf : AObj → Option Nat
  | .seq g _ _ _ => some g
  | .tail g => some g
  | _ => none

def exCode : Ex → Option Code
  | .nrm => none
  | .exit id => some (.exit id)
  | .goto l => some (.goto l)
  | .ret => some .ret

/-- Which block an object has for itself. -/
def ownsA (G : Gh) (o : Nat) : AObj → Nat → Prop
  | .seq g _ _ _, b => ∃ s, G.seg o g s ∧ 0 < s.cp ∧ s.b = b
  | .tail g, b => ∃ s, G.seg o g s ∧ 0 < s.cp ∧ s.b = b
  | .dead, _ => False
  | _, b => G.blk o b

def Owns (G : Gh) (S : St) (o b : Nat) : Prop := ∃ a, S.get o = some a ∧ ownsA G o a b

/-- The cells of block b from p on are there, and may be written. -/
def Open (w : World) (b p n : Nat) : Prop := ∀ j, j < n → (w.cell? ⟨b, p + j, none⟩).isSome = true ∧ w.frozen? ⟨b, p + j, none⟩ = false

structure MapAt (G : Gh) (w : World) (b : Nat) (es : List (AV × AV × Nat)) (clock : Nat) : Prop where
  ex : ∃ mes : Array MapEntry, w.heap[b]? = some (.map mes clock) ∧ mes.size = es.length ∧
    ∀ (i : Nat) (e : AV × AV × Nat), es[i]? = some e → ∃ m : MapEntry, mes[i]? = some m ∧ Rep G w e.1 m.key ∧ Rep G w e.2.1 m.val ∧ m.born = e.2.2

def ObjRel (G : Gh) (w : World) (o : Nat) : AObj → Prop
  | .dead => True
  | .row cs lock => ∃ b, G.blk o b ∧ Open w b 0 cs.length ∧ (∀ (j : Nat) (x : AV), cs[j]? = some x → leaf x = true ∧ ∃ u, w.cell? ⟨b, j, none⟩ = some u ∧ Rep G w x u) ∧ (lock = false → ∀ f, ¬ G.im b f)
  | .seq g es rows exp => ∃ s, G.seg o g s ∧ s.es = es ∧ rows.length ≤ s.cp ∧ (∀ (i : Nat) (r : List AV), rows[i]? = some r → r.length = s.es) ∧
      (0 < s.cp → Open w s.b s.st (s.cp * s.es) ∧
        (∀ (i : Nat) (r : List AV) (j : Nat) (x : AV), rows[i]? = some r → r[j]? = some x → leaf x = true ∧ ∃ u, w.cell? ⟨s.b, s.st + i * s.es + j, none⟩ = some u ∧ Rep G w x u) ∧
        (∀ f, G.im s.b f → f < s.st + exp * s.es))
  | .tail g => ∃ s, G.seg o g s ∧ s.ln ≤ s.cp ∧ (0 < s.cp → Open w s.b s.st (s.cp * s.es) ∧ ∀ f, G.im s.b f → f < s.st + s.ln * s.es)
  | .map es clock => ∃ b, G.blk o b ∧ MapAt G w b es clock
  | .miter _ _ _ _ => False
  | .siter s pos => ∃ b, G.blk o b ∧ w.heap[b]? = some (.stringIter ⟨s.toArray⟩ pos)
  | .loop st pend _ tmps ps asg body d => ∃ b db tm fn', G.blk o b ∧ G.blk d db ∧ RepL G w tmps tm.toList ∧
      w.heap[b]? = some (.loop { state := st, pending := exCode pend, fn := fn', tmps := tm, params := ps.toArray, assign := asg, body := body, defers := db })
  | .dfr => ∃ b, G.blk o b ∧ w.heap[b]? = some (.deferred (some []))

/-- Blocks that are nobody's and stay as they are (package variables). -/
class Pin where
  pin : Nat → Obj → Prop
variable [Pin]

structure Wrel (G : Gh) (S : St) (w : World) : Prop where
  len : S.h.length = S.n
  base : S.base ≤ S.n
  obj : ∀ o a, S.get o = some a → ObjRel G w o a
  inj : ∀ o o' b, Owns G S o b → Owns G S o' b → o = o'
  lt : ∀ o b, Owns G S o b → b < w.heap.size
  fblk : ∀ o b b', G.blk o b → G.blk o b' → b = b'
  fseg : ∀ o g s s', G.seg o g s → G.seg o g s' → s = s'
  bblk : ∀ o b, G.blk o b → o < S.n
  bseg : ∀ o g s, G.seg o g s → o < S.n ∧ ∀ a g', S.get o = some a → genOf a = some g' → g ≤ g'
  im : ∀ b f, G.im b f → ∃ u, w.cell? ⟨b, f, none⟩ = some u
  pin : ∀ b x, Pin.pin b x → w.heap[b]? = some x ∧ ∀ o, ¬ Owns G S o b

structure Step0 (G : Gh) (S : St) (w : World) (G' : Gh) (S' : St) (w' : World) : Prop where
  le : G.Le G'
  kept : Kept G w w'
  size : w.heap.size ≤ w'.heap.size
  os : w'.os = w.os
  tape : w'.tape = w.tape
  output : w'.output = w.output
  frame : ∀ b, b < w.heap.size → (∀ o, ¬ Owns G S o b) → w'.heap[b]? = w.heap[b]?
  fresh : ∀ o b, Owns G' S' o b → (∃ o', Owns G S o' b) ∨ w.heap.size ≤ b
  newim : ∀ b f, G'.im b f → G.im b f ∨ (∃ o, Owns G S o b) ∨ w.heap.size ≤ b
  base : S'.base = S.base
  n : S.n ≤ S'.n
  low : ∀ id, id < S.base → S'.get id = S.get id

omit [Pin] in
theorem Step0.refl (G : Gh) (S : St) (w : World) : Step0 G S w G S w :=
  ⟨.refl G, fun _ _ _ _ h => h, Nat.le_refl _, rfl, rfl, rfl, fun _ _ _ => rfl, fun o _ h => .inl ⟨o, h⟩, fun _ _ h => .inl h, rfl, Nat.le_refl _, fun _ _ => rfl⟩

omit [Pin] in
theorem Step0.trans {G G' G'' : Gh} {S S' S'' : St} {w w' w'' : World} (h : Step0 G S w G' S' w') (k : Step0 G' S' w' G'' S'' w'') : Step0 G S w G'' S'' w'' where
  le := h.le.trans k.le
  kept := fun b f u hi hu => k.kept b f u (h.le.im _ _ hi) (h.kept b f u hi hu)
  size := Nat.le_trans h.size k.size
  os := k.os.trans h.os
  tape := k.tape.trans h.tape
  output := k.output.trans h.output
  frame := fun b hb hn => by
    rw [k.frame b (Nat.lt_of_lt_of_le hb h.size) (fun o ho => ?_), h.frame b hb hn]
    rcases h.fresh o b ho with ⟨o', h'⟩ | h'
    · exact hn o' h'
    · omega
  fresh := fun o b ho => by
    rcases k.fresh o b ho with ⟨o', h'⟩ | h'
    · exact h.fresh o' b h'
    · exact .inr (Nat.le_trans h.size h')
  newim := fun b f hi => by
    rcases k.newim b f hi with h' | ⟨o, h'⟩ | h'
    · exact h.newim b f h'
    · rcases h.fresh o b h' with h'' | h''
      · exact .inr (.inl h'')
      · exact .inr (.inr h'')
    · exact .inr (.inr (Nat.le_trans h.size h'))
  base := k.base.trans h.base
  n := Nat.le_trans h.n k.n
  low := fun id hid => (k.low id (by rw [h.base]; exact hid)).trans (h.low id hid)

/-- A dead object stays as it is, but for some. -/
structure StepK (K : Nat → Prop) (G : Gh) (S : St) (w : World) (G' : Gh) (S' : St) (w' : World) : Prop extends Step0 G S w G' S' w' where
  dead : ∀ o, ¬ K o → S.get o = some .dead → S'.get o = some .dead ∧ ∀ b, G'.blk o b → G.blk o b

abbrev Step (G : Gh) (S : St) (w : World) (G' : Gh) (S' : St) (w' : World) : Prop := StepK (fun _ => False) G S w G' S' w'

omit [Pin] in
theorem StepK.refl (K : Nat → Prop) (G : Gh) (S : St) (w : World) : StepK K G S w G S w := ⟨.refl G S w, fun _ _ h => ⟨h, fun _ h => h⟩⟩
omit [Pin] in
theorem Step.refl (G : Gh) (S : St) (w : World) : Step G S w G S w := StepK.refl _ G S w
omit [Pin] in
theorem StepK.trans {K : Nat → Prop} {G G' G'' : Gh} {S S' S'' : St} {w w' w'' : World} (h : StepK K G S w G' S' w') (k : StepK K G' S' w' G'' S'' w'') : StepK K G S w G'' S'' w'' :=
  ⟨h.toStep0.trans k.toStep0, fun o ho hd => let ⟨h1, h2⟩ := h.dead o ho hd; let ⟨k1, k2⟩ := k.dead o ho h1; ⟨k1, fun b hb => h2 b (k2 b hb)⟩⟩
omit [Pin] in
theorem Step.trans {G G' G'' : Gh} {S S' S'' : St} {w w' w'' : World} (h : Step G S w G' S' w') (k : Step G' S' w' G'' S'' w'') : Step G S w G'' S'' w'' := StepK.trans h k
omit [Pin] in
theorem StepK.weak {K K' : Nat → Prop} {G G' : Gh} {S S' : St} {w w' : World} (hK : ∀ o, K o → K' o) (h : StepK K G S w G' S' w') : StepK K' G S w G' S' w' :=
  ⟨h.toStep0, fun o ho => h.dead o fun hh => ho (hK o hh)⟩

omit [Pin] in
theorem StepK.rep {K : Nat → Prop} {G G' : Gh} {S S' : St} {w w' : World} (h : StepK K G S w G' S' w') {x : AV} {v : Value} (hr : Rep G w x v) : Rep G' w' x v := hr.mono h.le h.kept
omit [Pin] in
theorem StepK.repL {K : Nat → Prop} {G G' : Gh} {S S' : St} {w w' : World} (h : StepK K G S w G' S' w') {x : List AV} {v : List Value} (hr : RepL G w x v) : RepL G' w' x v := hr.mono h.le h.kept

/-! ### The same memory -/
/-- A world that differs in what has been drawn alone. -/
structure Same (w w' : World) : Prop where
  heap : w'.heap = w.heap
  os : w'.os = w.os
  tape : w'.tape = w.tape
  output : w'.output = w.output
omit [Pin] in
theorem Same.cell {w w' : World} (h : Same w w') (a : Addr) : w'.cell? a = w.cell? a := by unfold World.cell?; rw [h.heap]
omit [Pin] in
theorem Same.frozen {w w' : World} (h : Same w w') (a : Addr) : w'.frozen? a = w.frozen? a := by unfold World.frozen?; rw [h.heap]
omit [Pin] in
theorem Same.drew (w : World) : Same w w.drew := ⟨rfl, rfl, rfl, rfl⟩

omit [Pin] in
theorem ObjRel.mono {G G' : Gh} {w w' : World} {o : Nat} {a : AObj} (h : ObjRel G w o a) (hg : G.Le G') (hk : Kept G w w')
    (hheap : ∀ b, ownsA G o a b → w'.heap[b]? = w.heap[b]?) (him : ∀ b f, ownsA G o a b → G'.im b f → G.im b f) : ObjRel G' w' o a := by
  have hcell : ∀ b, ownsA G o a b → ∀ f, w'.cell? ⟨b, f, none⟩ = w.cell? ⟨b, f, none⟩ ∧ w'.frozen? ⟨b, f, none⟩ = w.frozen? ⟨b, f, none⟩ :=
    fun b hb f => ⟨World.cell?_of_block (w := w) (hheap b hb), World.frozen?_of_block (w := w) (hheap b hb)⟩
  cases a with
  | dead => trivial
  | row cs lock =>
    obtain ⟨b, hb, ho, hc, hl⟩ := h
    have hx := hcell b hb
    refine ⟨b, hg.blk _ _ hb, fun j hj => ?_, fun j x hj => ?_, fun h0 f hf => hl h0 f (him b f hb hf)⟩
    · rw [(hx _).1, (hx _).2]; exact ho j hj
    · obtain ⟨h1, u, h2, h3⟩ := hc j x hj
      exact ⟨h1, u, by rw [(hx _).1]; exact h2, h3.mono hg hk⟩
  | seq g es rows exp =>
    obtain ⟨s, hs, he, hle, hes, h⟩ := h
    refine ⟨s, hg.seg _ _ _ hs, he, hle, hes, fun hcp => ?_⟩
    have ho : ownsA G o (.seq g es rows exp) s.b := ⟨s, hs, hcp, rfl⟩
    have hx := hcell s.b ho
    obtain ⟨h1, h2, h3⟩ := h hcp
    refine ⟨fun j hj => ?_, fun i r j x hi hj => ?_, fun f hf => h3 f (him s.b f ho hf)⟩
    · rw [(hx _).1, (hx _).2]; exact h1 j hj
    · obtain ⟨h1, u, h2, h3⟩ := h2 i r j x hi hj
      exact ⟨h1, u, by rw [(hx _).1]; exact h2, h3.mono hg hk⟩
  | tail g =>
    obtain ⟨s, hs, hle, h⟩ := h
    refine ⟨s, hg.seg _ _ _ hs, hle, fun hcp => ?_⟩
    have ho : ownsA G o (.tail g) s.b := ⟨s, hs, hcp, rfl⟩
    have hx := hcell s.b ho
    obtain ⟨h1, h3⟩ := h hcp
    refine ⟨fun j hj => ?_, fun f hf => h3 f (him s.b f ho hf)⟩
    rw [(hx _).1, (hx _).2]; exact h1 j hj
  | map es clock =>
    obtain ⟨b, hb, ⟨mes, h1, h2, h3⟩⟩ := h
    refine ⟨b, hg.blk _ _ hb, ⟨mes, by rw [hheap b hb]; exact h1, h2, fun i e hi => ?_⟩⟩
    obtain ⟨m, k1, k2, k3, k4⟩ := h3 i e hi
    exact ⟨m, k1, k2.mono hg hk, k3.mono hg hk, k4⟩
  | miter => exact h
  | siter s pos =>
    obtain ⟨b, hb, h1⟩ := h
    exact ⟨b, hg.blk _ _ hb, by rw [hheap b hb]; exact h1⟩
  | loop st pend fn tmps ps asg body d =>
    obtain ⟨b, db, tm, fn', hb, hdb, ht, h1⟩ := h
    exact ⟨b, db, tm, fn', hg.blk _ _ hb, hg.blk _ _ hdb, ht.mono hg hk, by rw [hheap b hb]; exact h1⟩
  | dfr =>
    obtain ⟨b, hb, h1⟩ := h
    exact ⟨b, hg.blk _ _ hb, by rw [hheap b hb]; exact h1⟩

omit [Pin] in
theorem ownsA.mono {G G' : Gh} (h : G.Le G') {o : Nat} {a : AObj} {b : Nat} (k : ownsA G o a b) : ownsA G' o a b := by
  cases a <;> first
    | exact k.elim
    | (obtain ⟨s, h1, h2⟩ := k; exact ⟨s, h.seg _ _ _ h1, h2⟩)
    | exact h.blk _ _ k

omit [Pin] in
/-- What G' says of objects that G knows, G says. -/
theorem ownsA.back {G G' : Gh} {o : Nat} {a : AObj} {b : Nat} (hb : ∀ b, G'.blk o b → G.blk o b) (hs : ∀ g s, genOf a = some g → G'.seg o g s → G.seg o g s) (k : ownsA G' o a b) : ownsA G o a b := by
  cases a <;> first
    | exact k.elim
    | (obtain ⟨s, h1, h2⟩ := k; exact ⟨s, hs _ _ rfl h1, h2⟩)
    | exact hb _ k

/-! ### A world in which one thing has turned -/
theorem same_step {G : Gh} {S : St} {w w' : World} (h : Wrel G S w) (hs : Same w w') : Wrel G S w' ∧ Step G S w G S w' := by
  have hk : Kept G w w' := fun b f u _ hu => by rw [hs.cell]; exact hu
  refine ⟨⟨h.len, h.base, fun o a ho => (h.obj o a ho).mono (.refl G) hk (fun b _ => by rw [hs.heap]) (fun _ _ _ hi => hi), h.inj, fun o b ho => by rw [hs.heap]; exact h.lt o b ho, h.fblk, h.fseg, h.bblk, h.bseg,
    fun b f hi => by rw [hs.cell]; exact h.im b f hi, fun b x hx => by rw [hs.heap]; exact h.pin b x hx⟩, ?_⟩
  exact ⟨⟨.refl G, hk, by rw [hs.heap]; exact Nat.le_refl _, hs.os, hs.tape, hs.output, fun _ _ _ => by rw [hs.heap], fun o _ ho => .inl ⟨o, ho⟩, fun _ _ hi => .inl hi, rfl, Nat.le_refl _, fun _ _ => rfl⟩, fun _ _ h => ⟨h, fun _ h => h⟩⟩

/-- Blocks that lay below stay as they are, some are laid behind. -/
structure Laid (w w' : World) : Prop where
  size : w.heap.size ≤ w'.heap.size
  os : w'.os = w.os
  tape : w'.tape = w.tape
  output : w'.output = w.output
  heap : ∀ k, k < w.heap.size → w'.heap[k]? = w.heap[k]?

omit [Pin] in
theorem Laid.refl (w : World) : Laid w w := ⟨Nat.le_refl _, rfl, rfl, rfl, fun _ _ => rfl⟩
omit [Pin] in
theorem Laid.trans {a b c : World} (h : Laid a b) (k : Laid b c) : Laid a c :=
  ⟨Nat.le_trans h.size k.size, k.os.trans h.os, k.tape.trans h.tape, k.output.trans h.output, fun i hi => (k.heap i (Nat.lt_of_lt_of_le hi h.size)).trans (h.heap i hi)⟩
omit [Pin] in
theorem Laid.alloc (w : World) (o : Obj) : Laid w (w.alloc o) := ⟨by simp, rfl, rfl, rfl, fun k hk => Below.heap_alloc w o k hk⟩
omit [Pin] in
theorem Laid.same {w w' : World} (h : Same w w') : Laid w w' := ⟨by rw [h.heap]; exact Nat.le_refl _, h.os, h.tape, h.output, fun _ _ => by rw [h.heap]⟩

theorem Wrel.pin_lt {G : Gh} {S : St} {w : World} (h : Wrel G S w) {b : Nat} {x : Obj} (hi : Pin.pin b x) : b < w.heap.size :=
  (Array.getElem?_eq_some_iff.1 (h.pin b x hi).1).1
theorem Wrel.im_lt {G : Gh} {S : St} {w : World} (h : Wrel G S w) {b f : Nat} (hi : G.im b f) : b < w.heap.size := by
  obtain ⟨u, hu⟩ := h.im b f hi
  exact World.block_lt_of_cell? w ⟨b, f, none⟩ hu

theorem Laid.kept {G : Gh} {S : St} {w w' : World} (h : Laid w w') (hW : Wrel G S w) : Kept G w w' := fun b f u hi hu => by
  rw [World.cell?_of_block (w := w) (w' := w') (h.heap b (hW.im_lt hi))]; exact hu

/-- New blocks, a new object, and whatever is said of them. -/
theorem push_step {G G' : Gh} {S : St} {w w' : World} {a : AObj} (h : Wrel G S w) (hw : Laid w w') (hg : G.Le G')
    (hblk : ∀ o b, G'.blk o b → G.blk o b ∨ (o = S.n)) (hfb : ∀ b b', G'.blk S.n b → G'.blk S.n b' → b = b')
    (hseg : ∀ o g s, G'.seg o g s → G.seg o g s ∨ (o = S.n ∧ ∀ g', genOf a = some g' → g ≤ g')) (hfs : ∀ g s s', G'.seg S.n g s → G'.seg S.n g s' → s = s')
    (him : ∀ b f, G'.im b f → G.im b f ∨ (w.heap.size ≤ b ∧ ∃ u, w'.cell? ⟨b, f, none⟩ = some u))
    (hown : ∀ b, ownsA G' S.n a b → w.heap.size ≤ b ∧ b < w'.heap.size) (hobj : ObjRel G' w' S.n a) :
    Wrel G' (S.push a) w' ∧ Step G S w G' (S.push a) w' := by
  have hk := hw.kept h
  have hold : ∀ o, o < S.n → (∀ b, G'.blk o b → G.blk o b) ∧ (∀ g s, G'.seg o g s → G.seg o g s) := fun o ho =>
    ⟨fun b hb => (hblk o b hb).resolve_right (by omega), fun g s hs => (hseg o g s hs).resolve_right (by omega)⟩
  have howns : ∀ o b, Owns G' (S.push a) o b → (o = S.n ∧ ownsA G' S.n a b) ∨ (o < S.n ∧ Owns G S o b) := fun o b ⟨a', ha, ho⟩ => by
    rcases St.get_push ha with ⟨rfl, rfl⟩ | ⟨hlt, ha⟩
    · exact .inl ⟨rfl, ho⟩
    · exact .inr ⟨hlt, a', ha, ho.back (hold o hlt).1 (fun g s _ hs => (hold o hlt).2 g s hs)⟩
  refine ⟨⟨by simp [St.push, h.len], by have := h.base; simp; omega, fun o a' ha => ?_, fun o o' b h1 h2 => ?_, fun o b ho => ?_, fun o b b' h1 h2 => ?_, fun o g s s' h1 h2 => ?_, fun o b hb => ?_, fun o g s hs => ?_, fun b f hi => ?_, fun b x hx => ⟨(hw.heap b (h.pin_lt hx)).trans (h.pin b x hx).1, fun o ho => ?_⟩⟩, ?_⟩
  · rcases St.get_push ha with ⟨rfl, rfl⟩ | ⟨hlt, ha⟩
    · exact hobj
    · refine (h.obj o a' ha).mono hg hk (fun b hb => hw.heap b (h.lt o b ⟨a', ha, hb⟩)) (fun b f hb hi => ?_)
      exact (him b f hi).resolve_right (fun hh => by have := h.lt o b ⟨a', ha, hb⟩; omega)
  · rcases howns o b h1 with ⟨e1, k1⟩ | ⟨hlt, k1⟩ <;> rcases howns o' b h2 with ⟨e2, k2⟩ | ⟨hlt', k2⟩
    · rw [e1, e2]
    · have := h.lt o' b k2; have := (hown b k1).1; omega
    · have := h.lt o b k1; have := (hown b k2).1; omega
    · exact h.inj o o' b k1 k2
  · rcases howns o b ho with ⟨rfl, h1⟩ | ⟨hlt, h1⟩
    · exact (hown b h1).2
    · exact Nat.lt_of_lt_of_le (h.lt o b h1) hw.size
  · by_cases ho : o = S.n
    · subst ho; exact hfb b b' h1 h2
    · exact h.fblk o b b' ((hblk o b h1).resolve_right ho) ((hblk o b' h2).resolve_right ho)
  · by_cases ho : o = S.n
    · subst ho; exact hfs g s s' h1 h2
    · exact h.fseg o g s s' ((hseg o g s h1).resolve_right (fun hh => ho hh.1)) ((hseg o g s' h2).resolve_right (fun hh => ho hh.1))
  · rcases hblk o b hb with hb | rfl
    · have := h.bblk o b hb; simp; omega
    · simp
  · rcases hseg o g s hs with hs | ⟨rfl, hh⟩
    · obtain ⟨h1, h2⟩ := h.bseg o g s hs
      refine ⟨by simp; omega, fun a' g' ha hgen => ?_⟩
      rw [St.get_push_old a h1] at ha
      exact h2 a' g' ha hgen
    · refine ⟨by simp, fun a' g' ha hgen => ?_⟩
      rw [St.get_push_new] at ha
      cases ha
      exact hh g' hgen
  · rcases him b f hi with hi | ⟨_, hu⟩
    · obtain ⟨u, hu⟩ := h.im b f hi
      exact ⟨u, hk b f u hi hu⟩
    · exact hu
  · rcases howns o b ho with ⟨rfl, h1⟩ | ⟨hlt, h1⟩
    · have := h.pin_lt hx; have := (hown b h1).1; omega
    · exact (h.pin b x hx).2 o h1
  · refine ⟨⟨hg, hk, hw.size, hw.os, hw.tape, hw.output, fun b hb _ => hw.heap b hb, fun o b ho => ?_, fun b f hi => ?_, rfl, by simp, fun id hid => ?_⟩, fun o _ hd => ⟨by rw [St.get_push_old a (St.get_lt hd)]; exact hd, (hold o (St.get_lt hd)).1⟩⟩
    · rcases howns o b ho with ⟨rfl, h1⟩ | ⟨hlt, h1⟩
      · exact .inr (hown b h1).1
      · exact .inl ⟨o, h1⟩
    · rcases him b f hi with hi | hi
      · exact .inl hi
      · exact .inr (.inr hi.1)
    · exact St.get_push_old a (Nat.lt_of_lt_of_le hid h.base)

/-- One block has turned, others are laid. -/
structure Turned (b : Nat) (w w' : World) : Prop where
  size : w.heap.size ≤ w'.heap.size
  os : w'.os = w.os
  tape : w'.tape = w.tape
  output : w'.output = w.output
  heap : ∀ k, k < w.heap.size → k ≠ b → w'.heap[k]? = w.heap[k]?

omit [Pin] in
theorem Turned.of_laid {b : Nat} {w w' : World} (h : Laid w w') : Turned b w w' := ⟨h.size, h.os, h.tape, h.output, fun k hk _ => h.heap k hk⟩

/-- An object has turned. -/
theorem upd_step {G G' : Gh} {S : St} {w w' : World} {o b : Nat} {a0 a : AObj} (h : Wrel G S w) (hget : S.get o = some a0) (hnd : a0 ≠ .dead) (hbase : S.base ≤ o) (hw : Turned b w w') (hob : ownsA G o a0 b ∨ Laid w w') (hg : G.Le G') (hk : Kept G w w')
    (hblk : ∀ o b, G'.blk o b → G.blk o b)
    (hseg : ∀ o' g s, G'.seg o' g s → G.seg o' g s ∨ (o' = o ∧ (∀ g', genOf a0 = some g' → g' < g) ∧ ∀ g', genOf a = some g' → g ≤ g')) (hgen : ∀ g g', genOf a0 = some g → genOf a = some g' → g ≤ g')
    (hgs : ∀ g', genOf a = some g' → (genOf a0).isSome = true)
    (hfs : ∀ g s s', G'.seg o g s → G'.seg o g s' → s = s')
    (him : ∀ b' f, G'.im b' f → G.im b' f ∨ ((ownsA G o a0 b' ∨ w.heap.size ≤ b') ∧ ∃ u, w'.cell? ⟨b', f, none⟩ = some u))
    (hown : ∀ b', ownsA G' o a b' → (ownsA G o a0 b') ∨ (w.heap.size ≤ b' ∧ b' < w'.heap.size)) (hobj : ObjRel G' w' o a) :
    Wrel G' (S.set o a) w' ∧ Step G S w G' (S.set o a) w' := by
  have hlt := St.get_lt hget
  have hother : ∀ o', o' ≠ o → ∀ g s, G'.seg o' g s → G.seg o' g s := fun o' ho g s hs => (hseg o' g s hs).resolve_right (fun hh => ho hh.1)
  have howns : ∀ o' b', Owns G' (S.set o a) o' b' → (o' = o ∧ ownsA G' o a b') ∨ (o' ≠ o ∧ Owns G S o' b') := fun o' b' ⟨a', ha, ho⟩ => by
    rcases St.get_set h.len hlt ha with ⟨rfl, rfl⟩ | ⟨hne, ha⟩
    · exact .inl ⟨rfl, ho⟩
    · exact .inr ⟨hne, a', ha, ho.back (fun b hb => hblk o' b hb) (fun g s _ hs => hother o' hne g s hs)⟩
  have hne_b : ∀ o' b', o' ≠ o → Owns G S o' b' → w'.heap[b']? = w.heap[b']? := fun o' b' hne ho => by
    rcases hob with hob | hob
    · refine hw.heap b' (h.lt o' b' ho) (fun e => hne ?_)
      subst e
      exact h.inj o' o b' ho ⟨a0, hget, hob⟩
    · exact hob.heap b' (h.lt o' b' ho)
  refine ⟨⟨by simp [h.len], h.base, fun o' a' ha => ?_, fun o1 o2 b' h1 h2 => ?_, fun o' b' ho => ?_, fun o' b1 b2 h1 h2 => h.fblk o' b1 b2 (hblk _ _ h1) (hblk _ _ h2), fun o' g s s' h1 h2 => ?_, fun o' b' hb => h.bblk o' b' (hblk _ _ hb), fun o' g s hs => ?_, fun b' f hi => ?_, fun b' x hx => ⟨?_, fun o' ho => ?_⟩⟩, ?_⟩
  · rcases St.get_set h.len hlt ha with ⟨rfl, rfl⟩ | ⟨hne, ha⟩
    · exact hobj
    · refine (h.obj o' a' ha).mono hg hk (fun b' hb => hne_b o' b' hne ⟨a', ha, hb⟩) (fun b' f hb hi => ?_)
      rcases him b' f hi with hi | ⟨hi | hi, _⟩
      · exact hi
      · exact absurd (h.inj o' o b' ⟨a', ha, hb⟩ ⟨a0, hget, hi⟩) hne
      · have := h.lt o' b' ⟨a', ha, hb⟩; omega
  · rcases howns o1 b' h1 with ⟨e1, k1⟩ | ⟨n1, k1⟩ <;> rcases howns o2 b' h2 with ⟨e2, k2⟩ | ⟨n2, k2⟩
    · rw [e1, e2]
    · rcases hown b' k1 with k1 | k1
      · exact absurd (h.inj o2 o b' k2 ⟨a0, hget, k1⟩) n2
      · have := h.lt o2 b' k2; omega
    · rcases hown b' k2 with k2 | k2
      · exact absurd (h.inj o1 o b' k1 ⟨a0, hget, k2⟩) n1
      · have := h.lt o1 b' k1; omega
    · exact h.inj o1 o2 b' k1 k2
  · rcases howns o' b' ho with ⟨rfl, k1⟩ | ⟨n1, k1⟩
    · rcases hown b' k1 with k1 | k1
      · exact Nat.lt_of_lt_of_le (h.lt o' b' ⟨a0, hget, k1⟩) hw.size
      · exact k1.2
    · exact Nat.lt_of_lt_of_le (h.lt o' b' k1) hw.size
  · by_cases ho : o' = o
    · subst ho; exact hfs g s s' h1 h2
    · exact h.fseg o' g s s' (hother o' ho g s h1) (hother o' ho g s' h2)
  · rcases hseg o' g s hs with hs | ⟨rfl, hgt, hle⟩
    · obtain ⟨h1, h2⟩ := h.bseg o' g s hs
      refine ⟨h1, fun a' g' ha hgen' => ?_⟩
      rcases St.get_set h.len hlt ha with ⟨rfl, rfl⟩ | ⟨hne, ha⟩
      · obtain ⟨g0, hg0⟩ := Option.isSome_iff_exists.1 (hgs g' hgen')
        exact Nat.le_trans (h2 a0 g0 hget hg0) (hgen g0 g' hg0 hgen')
      · exact h2 a' g' ha hgen'
    · refine ⟨hlt, fun a' g' ha hgen' => ?_⟩
      rw [St.get_set_same h.len a hlt] at ha
      cases ha
      exact hle g' hgen'
  · rcases him b' f hi with hi | ⟨_, hu⟩
    · obtain ⟨u, hu⟩ := h.im b' f hi
      exact ⟨u, hk b' f u hi hu⟩
    · exact hu
  · refine Eq.trans ?_ (h.pin b' x hx).1
    rcases hob with hob | hob
    · refine hw.heap b' (h.pin_lt hx) (fun e => (h.pin b' x hx).2 o ?_)
      rw [e]
      exact ⟨a0, hget, hob⟩
    · exact hob.heap b' (h.pin_lt hx)
  · rcases howns o' b' ho with ⟨rfl, k1⟩ | ⟨n1, k1⟩
    · rcases hown b' k1 with k1 | k1
      · exact (h.pin b' x hx).2 o' ⟨a0, hget, k1⟩
      · have := h.pin_lt hx; omega
    · exact (h.pin b' x hx).2 o' k1
  · refine ⟨⟨hg, hk, hw.size, hw.os, hw.tape, hw.output, fun b' hb hn => ?_, fun o' b' ho => ?_, fun b' f hi => ?_, rfl, Nat.le_refl _, fun id hid => St.get_set_other a hlt (by omega)⟩, fun o' _ hd => ⟨?_, hblk o'⟩⟩
    rotate_right
    · rw [St.get_set_other a hlt (fun e => ?_)]
      · exact hd
      · subst e
        rw [hget] at hd
        exact hnd (Option.some.inj hd)
    · rcases hob with hob | hob
      · refine hw.heap b' hb (fun e => ?_)
        subst e
        exact hn o ⟨a0, hget, hob⟩
      · exact hob.heap b' hb
    · rcases howns o' b' ho with ⟨rfl, k1⟩ | ⟨n1, k1⟩
      · rcases hown b' k1 with k1 | k1
        · exact .inl ⟨o', a0, hget, k1⟩
        · exact .inr k1.1
      · exact .inl ⟨o', k1⟩
    · rcases him b' f hi with hi | ⟨hi | hi, _⟩
      · exact .inl hi
      · exact .inr (.inl ⟨o, a0, hget, hi⟩)
      · exact .inr (.inr hi)

/-- Cells are laid that are written no more, of no object. -/
theorem im_step {G : Gh} {S : St} {w w' : World} (h : Wrel G S w) (hw : Laid w w') (I : Nat → Nat → Prop) (hI : ∀ b f, I b f → w.heap.size ≤ b ∧ ∃ u, w'.cell? ⟨b, f, none⟩ = some u) :
    Wrel { G with im := fun b f => G.im b f ∨ I b f } S w' ∧ Step G S w { G with im := fun b f => G.im b f ∨ I b f } S w' := by
  have hk := hw.kept h
  have hg : G.Le { G with im := fun b f => G.im b f ∨ I b f } := ⟨fun _ _ x => x, fun _ _ _ x => x, fun _ _ x => .inl x⟩
  have hown : ∀ o b, Owns { G with im := fun b f => G.im b f ∨ I b f } S o b → Owns G S o b := fun o b ⟨a, ha, ho⟩ => ⟨a, ha, ho.back (fun _ x => x) (fun _ _ _ x => x)⟩
  refine ⟨⟨h.len, h.base, fun o a ho => (h.obj o a ho).mono hg hk (fun b hb => hw.heap b (h.lt o b ⟨a, ho, hb⟩)) (fun b f hb hi => hi.resolve_right (fun hh => by have := h.lt o b ⟨a, ho, hb⟩; have := (hI b f hh).1; omega)),
    fun o o' b h1 h2 => h.inj o o' b (hown o b h1) (hown o' b h2), fun o b ho => Nat.lt_of_lt_of_le (h.lt o b (hown o b ho)) hw.size, h.fblk, h.fseg, h.bblk, h.bseg, fun b f hi => ?_, fun b x hx => ⟨(hw.heap b (h.pin_lt hx)).trans (h.pin b x hx).1, fun o ho => (h.pin b x hx).2 o (hown o b ho)⟩⟩, ?_⟩
  · rcases hi with hi | hi
    · obtain ⟨u, hu⟩ := h.im b f hi
      exact ⟨u, hk b f u hi hu⟩
    · exact (hI b f hi).2
  · exact ⟨⟨hg, hk, hw.size, hw.os, hw.tape, hw.output, fun b hb _ => hw.heap b hb, fun o b ho => .inl ⟨o, hown o b ho⟩, fun b f hi => by
      rcases hi with hi | hi
      · exact .inl hi
      · exact .inr (.inr (hI b f hi).1), rfl, Nat.le_refl _, fun _ _ => rfl⟩, fun _ _ h => ⟨h, fun _ h => h⟩⟩

end Go.Am

/- THE ABSTRACT MACHINE, FIFTH FILE: operations that yield a value: what the model does there. -/
set_option linter.unusedSimpArgs false
set_option linter.unusedVariables false
namespace Go.Am
open Go.RowKit

variable [Pin] {P : Program} {c : Cfg}

/-- A struct type whose values are compared leaf by leaf. -/
def EqOk (P : Program) (t : TypeId) (xs : List AV) : Prop :=
  P.eqGuardType P.depth t = false ∧
  (∀ (G : Gh) (w : World) (ys : List AV) (vs us : Array Value) (b : Bool), leavesEq xs ys = some b → RepL G w xs vs.toList → RepL G w ys us.toList → (Op.equal t (.agg vs) (.agg us)).run P w = .ok b w) ∧
  (∀ (G : Gh) (w : World) (vs : Array Value) (e : Bool), (∃ b, leavesEq xs xs = some b) → RepL G w xs vs.toList → (Instr.checkKey e 10000 t (.agg vs)).run P w = .ok () w)

/-- What a function that is taken as given does. -/
def ExtOk (P : Program) (f : FuncId) (F : XT) : Prop :=
  ∀ (G : Gh) (S S' : St) (w : World) (args : List AV) (vs : Array Value) (r : AV), F.run args S = some (r, S') → Wrel G S w → RepL G w args vs.toList →
    (callFunc f vs).run P w = .ok (.enter f vs) w ∧
    Calls P f vs w fun e w' => ∃ G' u, e = .returned u ∧ Wrel G' S' w' ∧ Step G S w G' S' w' ∧ Rep G' w' r u

structure CfgOk (P : Program) (c : Cfg) : Prop where
  ty : ∀ t i, c.ty t = some i → tyOf P t = some i
  fn : ∀ f g, c.fn f = some g → P.funcs[f]? = some g ∧ (g.name == "runtime.NumGoroutine") = false
  mixed : P.follows .mixedOrders = true
  eqt : ∀ t xs, c.eqt t = true → fitsT c t xs = true → EqOk P t xs
  ext : ∀ f F, c.ext f = some F → ExtOk P f F

omit [Pin] in
theorem ty_inv {t : TypeId} {i : Ty} (h : tyOf P t = some i) : ∃ (info : TypeInfo) (d : TypeDesc), P.info? t = some info ∧ P.underlying t = some d ∧ i.kind = tkOf d ∧ i.size = info.size ∧ i.bytes = info.bytes ∧
    i.zero = info.zero.bind fun z => zeroC (isAggK (tkOf d)) z := by
  unfold tyOf at h
  split at h
  · rename_i info d h1 h2
    simp at h
    subst h
    exact ⟨info, d, h1, h2, rfl, rfl, rfl, rfl⟩
  · simp at h

omit [Pin] in
theorem constV_rep {G : Gh} {w : World} {v : Value} {x : AV} (h : constV v = some x) : Rep G w x v ∧ leaf x = true := by
  unfold constV at h
  split at h <;> simp at h <;> subst h <;> refine ⟨?_, rfl⟩
  · exact .int _ _
  · exact .bool _
  · rename_i s
    have : Rep G w (.str s.data.toList) (.string ⟨s.data.toList.toArray⟩) := .str _
    simpa using this
  · exact .nilp
  · exact .nils
  · exact .nilm
  · exact .nilf
  · exact .nili

omit [Pin] in
theorem constL_rep {G : Gh} {w : World} : ∀ {vs : List Value} {xs : List AV}, constL vs = some xs → RepL G w xs vs ∧ ∀ (j : Nat) (x : AV), xs[j]? = some x → leaf x = true
  | [], xs, h => by
    simp [constL] at h
    subst h
    exact ⟨RepL.nil _ _, fun j x hx => by simp at hx⟩
  | v :: vs, xs, h => by
    simp only [constL, Option.bind_eq_some_iff, Option.map_eq_some_iff] at h
    obtain ⟨a, ha, b, hb, rfl⟩ := h
    obtain ⟨h1, h2⟩ := constV_rep (G := G) (w := w) ha
    obtain ⟨h3, h4⟩ := constL_rep (G := G) (w := w) hb
    refine ⟨RepL.cons h1 h3, fun j x hx => ?_⟩
    cases j with
    | zero => simp at hx; subst hx; exact h2
    | succ j => simp at hx; exact h4 j x hx

omit [Pin] in
theorem zeroC_rep {G : Gh} {w : World} {a : Bool} {z : Value} {xs : List AV} (h : zeroC a z = some xs) : RepL G w xs z.cells.toList ∧ (∀ (j : Nat) (x : AV), xs[j]? = some x → leaf x = true) ∧
    (a = true → ∃ cs, z = .agg cs) ∧ (a = false → ∃ x, xs = [x] ∧ Rep G w x z) := by
  unfold zeroC at h
  split at h
  · rename_i cs
    split at h
    · rename_i ha
      obtain ⟨h1, h2⟩ := constL_rep (G := G) (w := w) h
      exact ⟨h1, h2, fun _ => ⟨cs, rfl⟩, fun e => by rw [ha] at e; cases e⟩
    · simp at h
  · rename_i hn
    split at h
    · simp at h
    · rename_i ha
      simp only [Option.map_eq_some_iff] at h
      obtain ⟨x, hx, rfl⟩ := h
      obtain ⟨h1, h2⟩ := constV_rep (G := G) (w := w) hx
      have hv : z.cells = #[z] := by cases z <;> first | rfl | exact (hn _ rfl).elim
      rw [hv]
      refine ⟨RepL.cons h1 (RepL.nil _ _), fun j y hy => ?_, fun e => absurd e ha, fun _ => ⟨x, rfl, h1⟩⟩
      cases j with
      | zero => simp at hy; subst hy; exact h2
      | succ j => simp at hy

omit [Pin] in
theorem constC_rep {G : Gh} {w : World} {v : Value} {x : AV} (h : constC v = some x) : Rep G w x v := by
  unfold constC at h
  split at h
  · simp only [Option.map_eq_some_iff] at h
    obtain ⟨l, hl, rfl⟩ := h
    obtain ⟨h1, h2⟩ := constL_rep (G := G) (w := w) hl
    exact rep_agg.2 ⟨h1, h2⟩
  · simp at h; subst h; exact .undef
  · exact (constV_rep h).1

omit [Pin] in
theorem evalT_rep {G : Gh} {w : World} {tm : List AV} {a : Act} {x : Operand} {v : AV} (ht : RepL G w tm a.tmps.toList) (h : evalT tm x = some v) : Rep G w v (a.eval x) := by
  cases x with
  | tmp t =>
    simp [evalT] at h
    subst h
    have := ht.getD t
    simpa [Act.eval, Array.getD_eq_getD_getElem?, List.getD] using this
  | const u => exact constC_rep h
  | global g => simp [evalT] at h
  | func f =>
    simp [evalT] at h
    subst h
    exact rep_fn (RepL.nil _ _) (RepL.nil _ _)

omit [Pin] in
theorem evalL_rep {G : Gh} {w : World} {tm : List AV} {a : Act} (ht : RepL G w tm a.tmps.toList) : ∀ {xs : List Operand} {vs : List AV}, evalL tm xs = some vs → RepL G w vs (xs.map a.eval)
  | [], vs, h => by simp [evalL] at h; subst h; exact RepL.nil _ _
  | x :: xs, vs, h => by
    simp only [evalL, Option.bind_eq_some_iff, Option.map_eq_some_iff] at h
    obtain ⟨y, hy, ys, hys, rfl⟩ := h
    exact RepL.cons (evalT_rep ht hy) (evalL_rep ht hys)

/-! ### What an operation comes to -/
/-- The operation yields (or skips); what it yields, and what it leaves, are the abstract machine's. -/
def Comes1 (P : Program) (s : Sem Next) (G : Gh) (S : St) (w : World) (v : AV) (S' : St) : Prop :=
  ∃ nx u w' G', s.run P w = .ok nx w' ∧ (nx = .value u ∨ (nx = .skip ∧ u = undef)) ∧ Wrel G' S' w' ∧ Step G S w G' S' w' ∧ Rep G' w' v u

theorem comes_value {s : Sem Value} {G : Gh} {S : St} {w : World} {v : AV} {u : Value} (hW : Wrel G S w) (hs : s.run P w = .ok u w) (hr : Rep G w v u) : Comes1 P (do pure (.value (← s))) G S w v S :=
  ⟨.value u, u, w, G, by simp [Sem.run_bind, hs], .inl rfl, hW, .refl G S w, hr⟩

theorem comes_value' {s : Sem Value} {G G' : Gh} {S S' : St} {w w' : World} {v : AV} {u : Value} (hs : s.run P w = .ok u w') (hW : Wrel G' S' w') (hst : Step G S w G' S' w') (hr : Rep G' w' v u) : Comes1 P (do pure (.value (← s))) G S w v S' :=
  ⟨.value u, u, w', G', by simp [Sem.run_bind, hs], .inl rfl, hW, hst, hr⟩

theorem comes_unit {s : Sem Unit} {G G' : Gh} {S S' : St} {w w' : World} (hs : s.run P w = .ok () w') (hW : Wrel G' S' w') (hst : Step G S w G' S' w') : Comes1 P (do s; pure .skip) G S w .undef S' :=
  ⟨.skip, undef, w', G', by simp [Sem.run_bind, hs], .inr ⟨rfl, rfl⟩, hW, hst, .undef⟩

omit [Pin] in
theorem run_underlying_ty {t : TypeId} {d : TypeDesc} (h : P.underlying t = some d) (w : World) : (underlying t).run P w = .ok d w := run_underlying h w
omit [Pin] in
theorem run_info_ty {t : TypeId} {i : TypeInfo} (h : P.info? t = some i) (w : World) : (typeInfo t).run P w = .ok i w := by simp [typeInfo, Sem.run_bind, h]
omit [Pin] in
theorem run_size_ty {t : TypeId} {i : TypeInfo} (h : P.info? t = some i) (w : World) : (sizeOf t).run P w = .ok i.size w := by simp [sizeOf, Sem.run_bind, run_info_ty h]
omit [Pin] in
theorem run_zero_ty {t : TypeId} {i : TypeInfo} {z : Value} (h : P.info? t = some i) (hz : i.zero = some z) (w : World) : (zeroValue t).run P w = .ok z w := by simp [zeroValue, Sem.run_bind, run_info_ty h, hz]
omit [Pin] in
theorem run_isAgg_ty {t : TypeId} {d : TypeDesc} (h : P.underlying t = some d) (w : World) : (isAgg t).run P w = .ok (isAggK (tkOf d)) w := by
  simp only [isAgg, Sem.run_bind, run_underlying h w, Result.andThen_ok]
  cases d <;> rfl

omit [Pin] in
/-- Part of some cells. -/
theorem run_part {t : TypeId} {i : Ty} (hi : tyOf P t = some i) {cs : List AV} {vs : Array Value} {off : Nat} {x : AV} {G : Gh} {w : World} (hx : apart i cs off = some x)
    (hr : RepL G w cs vs.toList) (hl : ∀ (j : Nat) (y : AV), cs[j]? = some y → leaf y = true) : ∃ u, (part t vs off).run P w = .ok u w ∧ Rep G w x u := by
  obtain ⟨info, d, h1, h2, h3, h4, _, _⟩ := ty_inv hi
  unfold apart at hx
  unfold part
  simp only [Sem.run_bind, run_isAgg_ty h2, Result.andThen_ok]
  rw [h3] at hx
  split at hx
  · rename_i ha
    rw [if_pos ha]
    split at hx
    · rename_i hle
      simp at hx
      subst hx
      refine ⟨.agg (vs.extract off (off + info.size)), by simp [Sem.run_bind, run_size_ty h1], rep_agg.2 ⟨?_, fun j y hy => ?_⟩⟩
      · have : (vs.extract off (off + info.size)).toList = (vs.toList.drop off).take i.size := by
          rw [Array.toList_extract, h4]
          simp
        rw [this]
        exact (hr.drop off).take i.size
      · rw [List.getElem?_take] at hy
        split at hy
        · rw [List.getElem?_drop] at hy; exact hl _ y hy
        · simp at hy
    · simp at hx
  · rename_i ha
    rw [if_neg ha]
    obtain ⟨u, hu, hru⟩ := hr.get hx
    refine ⟨u, ?_, hru⟩
    have hu' : vs[off]? = some u := by simpa using hu
    simp [hu']

end Go.Am

/- THE ABSTRACT MACHINE, SIXTH FILE: arithmetic, comparisons, conversions. -/
set_option linter.unusedSimpArgs false
set_option linter.unusedVariables false
namespace Go.Am
open Go.RowKit
variable [Pin] {P : Program} {c : Cfg}

omit [Pin] in
theorem mk_size (l : List UInt8) : (⟨l.toArray⟩ : ByteArray).size = l.length := by show l.toArray.size = _; simp
omit [Pin] in
theorem mk_append (a b : List UInt8) : (⟨a.toArray⟩ : ByteArray) ++ ⟨b.toArray⟩ = ⟨(a ++ b).toArray⟩ := by
  apply ByteArray.ext
  simp
omit [Pin] in
theorem mk_get (l : List UInt8) (n : Nat) : (⟨l.toArray⟩ : ByteArray)[n]? = l[n]? := by
  by_cases h : n < l.length
  · rw [ByteArray.getElem?_lt' _ _ (by rw [mk_size]; exact h), List.getElem?_eq_getElem h]
    congr 1
  · rw [ByteArray.getElem?_ge' _ _ (by rw [mk_size]; exact h), List.getElem?_eq_none (by omega)]

omit [Pin] in
theorem run_aint {op : BinOp} {k : IntKind} {a b : Int} {v : AV} (t : TypeId) (h : aint op k a b = some v) (w : World) (hs : op ≠ .shl) (hs' : op ≠ .shr) :
    ∃ u, (binOp op t (.int k a) (.int k b)).run P w = .ok u w ∧ ∀ G, Rep G w v u := by
  cases op <;> simp [aint] at h <;> first
    | exact absurd rfl hs
    | exact absurd rfl hs'
    | (obtain ⟨h0, rfl⟩ := h; refine ⟨_, ?_, fun G => .int _ _⟩; simp [binOp, Op.intDiv, h0])
    | (subst h; refine ⟨_, ?_, fun G => .int _ _⟩; simp [binOp, Op.intArith, Op.intBits]; done)
    | (subst h; refine ⟨_, ?_, fun G => .bool _⟩; simp [binOp, Op.intCmp]; done)

omit [Pin] in
theorem run_ashift {op : BinOp} {k k' : IntKind} {a b : Int} {v : AV} (t : TypeId) (h : ashift op k a b = some v) (w : World) (ho : op = .shl ∨ op = .shr) :
    ∃ u, (binOp op t (.int k a) (.int k' b)).run P w = .ok u w ∧ ∀ G, Rep G w v u := by
  rcases ho with rfl | rfl <;> simp [ashift] at h <;> obtain ⟨h0, rfl⟩ := h <;> refine ⟨_, ?_, fun G => .int _ _⟩ <;>
    simp [binOp, Op.shift, show ¬ b < 0 by omega]

omit [Pin] in
theorem run_astr {op : BinOp} {a b : List UInt8} {v : AV} (t : TypeId) (h : astr op a b = some v) (w : World) :
    ∃ u, (binOp op t (.string ⟨a.toArray⟩) (.string ⟨b.toArray⟩)).run P w = .ok u w ∧ ∀ G, Rep G w v u := by
  cases op <;> simp [astr] at h <;> first
    | (obtain ⟨h0, rfl⟩ := h
       refine ⟨.string ⟨(a ++ b).toArray⟩, ?_, fun G => .str _⟩
       have hm : ¬ ((a.length : Int) + b.length > IntKind.i64.max) := by simp [IntKind.max, IntKind.signed, IntKind.bits]; simp [maxI64] at h0; omega
       simp only [binOp, Op.stringOp, mk_size, mk_append]
       have hm' : (a.length : Int) + b.length ≤ 9223372036854775807 := h0
       simp [hm, hm', Int.natCast_add])
    | (subst h; refine ⟨_, ?_, fun G => .bool _⟩; simp [binOp, Op.stringOp]; done)

omit [Pin] in
theorem run_leafEq {x y : AV} {b : Bool} (h : leafEq x y = some b) {G : Gh} {w : World} {u v : Value} (hx : Rep G w x u) (hy : Rep G w y v) :
    (∃ k a a', u = .int k a ∧ v = .int k a' ∧ b = (a == a')) ∨ (∃ a a', u = .bool a ∧ v = .bool a' ∧ b = (a == a')) ∨ (∃ a a' : List UInt8, u = .string ⟨a.toArray⟩ ∧ v = .string ⟨a'.toArray⟩ ∧ b = (a == a')) := by
  unfold leafEq at h
  split at h
  · split at h
    · rename_i hk; subst hk; cases hx; cases hy; simp at h; exact .inl ⟨_, _, _, rfl, rfl, h.symm⟩
    · simp at h
  · cases hx; cases hy; simp at h; exact .inr (.inl ⟨_, _, rfl, rfl, h.symm⟩)
  · cases hx; cases hy; simp at h; exact .inr (.inr ⟨_, _, rfl, rfl, h.symm⟩)
  · simp at h

theorem run_aeq (hc : CfgOk P c) {t : TypeId} {x y : AV} {b : Bool} (h : aeq c t x y = some b) {G : Gh} {w : World} {u v : Value} (hx : Rep G w x u) (hy : Rep G w y v) : (Op.equal t u v).run P w = .ok b w := by
  unfold aeq at h
  simp only [Option.bind_eq_some_iff] at h
  obtain ⟨i, hi, h⟩ := h
  obtain ⟨info, d, h1, h2, h3, _⟩ := ty_inv (hc.ty t i hi)
  have hd : ∀ {k : TK}, i.kind = k → tkOf d = k := fun e => by rw [← h3]; exact e
  have hmx : Op.maxDepth = 9999 + 1 := rfl
  split at h
  all_goals first
    | (simp at h; done)
    | (rename_i hk
       split at h
       · rename_i he
         obtain ⟨vs, rfl, hv, _⟩ := rep_agg_inv hx
         obtain ⟨us, rfl, hu, _⟩ := rep_agg_inv hy
         exact (hc.eqt t _ he.1 he.2).2.1 G w _ vs us b h hv hu
       · simp at h
         done)
    | (rename_i hk
       have hk := hd hk
       cases d <;> simp [tkOf] at hk
       simp at h
       subst h
       unfold Op.equal
       rw [hmx]
       generalize 9999 = dd
       cases hx <;> cases hy <;> simp [Op.equalIn, run_underlying h2])


theorem run_abin (hc : CfgOk P c) {op : BinOp} {t : TypeId} {x y : AV} {r : AV} {X Y : Operand} (h : abin c op t x y = some r) {G : Gh} {w : World} {u v : Value} (hx : Rep G w x u) (hy : Rep G w y v)
    (hn : isNili x = true → isNili y = true → (isConst X || isConst Y) = true) :
    ∃ q, (do eqGuard op t X Y u v; binOp op t u v : Sem Value).run P w = .ok q w ∧ Rep G w r q := by
  have calm : ∀ {s : Sem Value} {q : Value}, (eqGuard op t X Y u v).run P w = .ok () w → s.run P w = .ok q w → (do eqGuard op t X Y u v; s : Sem Value).run P w = .ok q w := by
    intro s q h1 h2
    simp [Sem.run_bind, h1, h2]
  unfold abin at h
  split at h
  · cases hx; cases hy
    obtain ⟨q, hq, hr⟩ := run_ashift (P := P) t h w (.inl rfl)
    exact ⟨q, calm (by simp [eqGuard]) hq, hr G⟩
  · cases hx; cases hy
    obtain ⟨q, hq, hr⟩ := run_ashift (P := P) t h w (.inr rfl)
    exact ⟨q, calm (by simp [eqGuard]) hq, hr G⟩
  · rename_i h1 h2
    split at h
    · rename_i hk
      subst hk
      cases hx; cases hy
      obtain ⟨q, hq, hr⟩ := run_aint (P := P) t h w (fun e => h1 e) (fun e => h2 e)
      refine ⟨q, calm ?_ hq, hr G⟩
      unfold eqGuard
      split <;> simp
    · simp at h
  · cases hx; cases hy
    obtain ⟨q, hq, hr⟩ := run_astr (P := P) t h w
    refine ⟨q, calm ?_ hq, hr G⟩
    unfold eqGuard
    split <;> simp
  all_goals try (simp at h; done)
  all_goals
    simp only [Option.map_eq_some_iff] at h
    obtain ⟨b, hb, rfl⟩ := h
    have he := run_aeq hc hb hx hy
    have hg : ∀ o, o = BinOp.eql ∨ o = BinOp.neq → (eqGuard o t X Y u v).run P w = .ok () w := by
      intro o ho
      unfold aeq at hb
      simp only [Option.bind_eq_some_iff] at hb
      obtain ⟨i, hi, hb⟩ := hb
      obtain ⟨info, d, k1, k2, k3, _⟩ := ty_inv (hc.ty t i hi)
      split at hb
      all_goals first
        | (simp at hb; done)
        | (split at hb
           · rename_i hq
             obtain ⟨vs, rfl, _⟩ := rep_agg_inv hx
             obtain ⟨us, rfl, _⟩ := rep_agg_inv hy
             rcases ho with rfl | rfl <;> simp [eqGuard, Sem.run_bind, (hc.eqt t _ hq.1 hq.2).1]
           · simp at hb
             done)
        | (cases hx <;> cases hy <;> rcases ho with rfl | rfl <;> rfl)
        | (have := hn rfl rfl
           cases hx
           cases hy
           simp only [Bool.or_eq_true] at this
           rcases ho with rfl | rfl <;> cases X <;> cases Y <;> simp_all [isConst, eqGuard])
    have hbin : ∀ o, o = BinOp.eql ∨ o = BinOp.neq → (binOp o t u v).run P w = .ok (.bool (if o = .eql then b else !b)) w := by
      intro o ho
      unfold aeq at hb
      simp only [Option.bind_eq_some_iff] at hb
      obtain ⟨i, hi, hb⟩ := hb
      split at hb
      all_goals first
        | (simp at hb; done)
        | (rcases ho with rfl | rfl
           · have e : binOp .eql t u v = (do pure (.bool (← Op.equal t u v))) := by cases hx <;> cases hy <;> rfl
             rw [e]
             simp [Sem.run_bind, he]
           · have e : binOp .neq t u v = (do pure (.bool (!(← Op.equal t u v)))) := by cases hx <;> cases hy <;> rfl
             rw [e]
             simp [Sem.run_bind, he])
    refine ⟨_, calm (hg _ (by simp)) (hbin _ (by simp)), ?_⟩
    simp
    exact .bool _

omit [Pin] in
theorem run_aun {op : UnOp} {x r : AV} (h : aun op x = some r) {G : Gh} {w : World} {u : Value} (hx : Rep G w x u) : ∃ q, (Op.unary op u).run P w = .ok q w ∧ Rep G w r q := by
  unfold aun at h
  split at h <;> simp at h <;> subst h <;> cases hx
  · exact ⟨_, by simp [Op.unary, Op.intArith], .int _ _⟩
  · exact ⟨_, by simp [Op.unary, Op.intBits], .int _ _⟩
  · exact ⟨_, by simp [Op.unary], .bool _⟩

theorem run_aconv (hc : CfgOk P c) {s d : TypeId} {x r : AV} (h : aconv c s d x = some r) {G : Gh} {w : World} {u : Value} (hx : Rep G w x u) : ∃ q, (convert s d u).run P w = .ok q w ∧ Rep G w r q := by
  unfold aconv at h
  simp only [Option.bind_eq_some_iff] at h
  obtain ⟨i, hi, j, hj, h⟩ := h
  obtain ⟨_, di, _, h2, h3, _⟩ := ty_inv (hc.ty s i hi)
  obtain ⟨_, dj, _, k2, k3, _⟩ := ty_inv (hc.ty d j hj)
  split at h
  · rename_i hk
    simp at h
    subst h
    rw [k3] at hk
    cases dj <;> simp [tkOf] at hk
    subst hk
    cases hx
    exact ⟨_, by simp [convert, Sem.run_bind, run_underlying h2, run_underlying k2, Conv.intToInt], .int _ _⟩
  · rename_i hk
    simp at h
    subst h
    rw [k3] at hk
    cases dj <;> simp [tkOf] at hk
    cases hx
    refine ⟨_, ?_, .str _⟩
    simp [convert, Sem.run_bind, run_underlying h2, run_underlying k2]
  · rename_i e n hk1 hk2
    simp only [Option.bind_eq_some_iff] at h
    obtain ⟨ei, hei, h⟩ := h
    obtain ⟨_, de, _, e2, e3, _⟩ := ty_inv (hc.ty e ei hei)
    split at h
    case isFalse => simp at h
    rename_i hq
    obtain ⟨hke, hn0, hn1⟩ := hq
    simp only [Option.some.injEq] at h
    subst h
    rw [h3] at hk1
    rw [k3] at hk2
    rw [e3] at hke
    obtain ⟨a, cap, rfl, hcap, _, hrows⟩ := rep_rows_inv hx (.inr (.inl ⟨_, rfl, rfl⟩))
    rcases hrows with he | ⟨b, p, es, rfl, hes, hat⟩
    · cases he
    · obtain ⟨_, u, ⟨_, hu⟩, hru⟩ := hat 0 [.int .u8 n] 0 (.int .u8 n) rfl rfl
      cases hru
      cases dj <;> simp [tkOf] at hk2
      cases de <;> simp [tkOf] at hke
      subst hke
      cases di <;> simp [tkOf] at hk1
      subst hk1
      have hb : ((UInt8.ofNat n.toNat).toNat : Int) = n := by
        have : n.toNat < 256 := by omega
        simp [Nat.mod_eq_of_lt this]
        omega
      refine ⟨_, run_convert_bytes_back w s d _ ⟨b, p, none⟩ cap [UInt8.ofNat n.toNat] h2 e2 k2 (fun j hj => ?_), .str _⟩
      have hj0 : j = 0 := by simpa using hj
      subst hj0
      simp only [List.getElem_cons_zero, hb]
      simpa [Addr.add] using hu
  · simp at h

end Go.Am

/- THE ABSTRACT MACHINE, SEVENTH FILE: structs, slices, memory read. -/
set_option linter.unusedSimpArgs false
set_option linter.unusedVariables false
namespace Go.Am
open Go.RowKit
variable [Pin] {P : Program} {c : Cfg}

/-! ### Cells put into cells -/
omit [Pin] in
theorem foldl_splice : ∀ (vs : List Value) (k off : Nat) (cs : Array Value), off + k + vs.length ≤ cs.size →
    ((vs.zipIdx k).foldl (fun cs (x : Value × Nat) => cs.setIfInBounds (off + x.2) x.1) cs).toList = cs.toList.take (off + k) ++ vs ++ cs.toList.drop (off + k + vs.length)
  | [], k, off, cs, h => by simp
  | v :: vs, k, off, cs, h => by
    simp only [List.zipIdx_cons, List.foldl_cons, List.length_cons] at h ⊢
    have hk : off + k < cs.toList.length := by simp; omega
    rw [foldl_splice vs (k + 1) off _ (by simp; omega)]
    simp only [Array.toList_setIfInBounds]
    rw [show off + (k + 1) = off + k + 1 by omega, List.take_succ_eq_append_getElem (by simpa using hk), List.getElem_set_self, List.take_set_of_le (by omega), List.drop_set_of_lt (by omega)]
    simp [show off + k + 1 + vs.length = off + k + (vs.length + 1) by omega]

omit [Pin] in
theorem RepL.splice {G : Gh} {w : World} {cs xs : List AV} {vs us : List Value} (h : RepL G w cs vs) (k : RepL G w xs us) (off : Nat) :
    RepL G w (splice cs off xs) (vs.take off ++ us ++ vs.drop (off + us.length)) := by
  unfold Am.splice
  rw [k.1]
  exact ((h.take off).append k).append (h.drop _)

omit [Pin] in
theorem leaf_append {xs ys : List AV} (hx : ∀ (j : Nat) (x : AV), xs[j]? = some x → leaf x = true) (hy : ∀ (j : Nat) (x : AV), ys[j]? = some x → leaf x = true) : ∀ (j : Nat) (x : AV), (xs ++ ys)[j]? = some x → leaf x = true := by
  intro j x h
  rw [List.getElem?_append] at h
  split at h
  · exact hx _ _ h
  · exact hy _ _ h
omit [Pin] in
theorem leaf_take {xs : List AV} (n : Nat) (hx : ∀ (j : Nat) (x : AV), xs[j]? = some x → leaf x = true) : ∀ (j : Nat) (x : AV), (xs.take n)[j]? = some x → leaf x = true := by
  intro j x h
  rw [List.getElem?_take] at h
  split at h
  · exact hx _ _ h
  · simp at h
omit [Pin] in
theorem leaf_drop {xs : List AV} (n : Nat) (hx : ∀ (j : Nat) (x : AV), xs[j]? = some x → leaf x = true) : ∀ (j : Nat) (x : AV), (xs.drop n)[j]? = some x → leaf x = true := by
  intro j x h
  rw [List.getElem?_drop] at h
  exact hx _ _ h
omit [Pin] in
theorem leaf_splice {cs xs : List AV} (off : Nat) (hc : ∀ (j : Nat) (x : AV), cs[j]? = some x → leaf x = true) (hx : ∀ (j : Nat) (x : AV), xs[j]? = some x → leaf x = true) :
    ∀ (j : Nat) (x : AV), (splice cs off xs)[j]? = some x → leaf x = true :=
  leaf_append (leaf_append (leaf_take _ hc) hx) (leaf_drop _ hc)

/-- Parts of a struct, an array, a slice. -/
inductive RepP (G : Gh) (w : World) : List (Nat × AV) → List (Nat × Value) → Prop
  | nil : RepP G w [] []
  | cons (i : Nat) {x : AV} {v : Value} {ps : List (Nat × AV)} {vs : List (Nat × Value)} (h : Rep G w x v) (t : RepP G w ps vs) : RepP G w ((i, x) :: ps) ((i, v) :: vs)

omit [Pin] in
theorem evalP_rep {G : Gh} {w : World} {tm : List AV} {a : Act} (ht : RepL G w tm a.tmps.toList) : ∀ {ps : List (Nat × Operand)} {qs : List (Nat × AV)}, evalP tm ps = some qs →
    RepP G w qs (ps.map fun p => (p.1, a.eval p.2))
  | [], qs, h => by simp [evalP] at h; subst h; exact .nil
  | (i, x) :: ps, qs, h => by
    simp only [evalP, Option.bind_eq_some_iff, Option.map_eq_some_iff] at h
    obtain ⟨y, hy, ys, hys, rfl⟩ := h
    exact .cons i (evalT_rep ht hy) (evalP_rep ht hys)

omit [Pin] in
/-- One part is put in. -/
theorem fill_one {place : Nat → Option (Nat × Nat)} {cells : Array Value} {i off size : Nat} {v : Value} {rest : List (Nat × Value)} (hp : place i = some (off, size)) (hs : v.cells.size = size) (hle : off + v.cells.size ≤ cells.size) :
    ∃ cells', Instr.fill place cells ((i, v) :: rest) = Instr.fill place cells' rest ∧ cells'.toList = cells.toList.take off ++ v.cells.toList ++ cells.toList.drop (off + v.cells.toList.length) ∧ cells'.size = cells.size := by
  have hb : ¬ (v.cells.size ≠ size || off + v.cells.size > cells.size) = true := by simp; omega
  refine ⟨v.cells.zipIdx.foldl (fun cs (x : Value × Nat) => cs.setIfInBounds (off + x.2) x.1) cells, ?_, ?_, ?_⟩
  · simp only [Instr.fill, hp]
    rw [if_neg hb]
  · rw [← Array.foldl_toList, Array.toList_zipIdx]
    have := foldl_splice v.cells.toList 0 off cells (by simp; omega)
    simpa using this
  · have h1 := foldl_splice v.cells.toList 0 off cells (by simp; omega)
    have h2 : (v.cells.zipIdx.foldl (fun cs (x : Value × Nat) => cs.setIfInBounds (off + x.2) x.1) cells).toList = cells.toList.take off ++ v.cells.toList ++ cells.toList.drop (off + v.cells.toList.length) := by
      rw [← Array.foldl_toList, Array.toList_zipIdx]
      simpa using h1
    have h3 := congrArg List.length h2
    rw [Array.length_toList] at h3
    rw [h3]
    simp
    omega

theorem fillS_rep (hc : CfgOk P c) {G : Gh} {w : World} {fs : List (TypeId × Nat)} {places : List (Nat × Nat)} (hpl : ∀ (i : Nat) (f : TypeId × Nat) (ft : Ty), fs[i]? = some f → c.ty f.1 = some ft → places[i]? = some (f.2, ft.size)) :
    ∀ {ps : List (Nat × AV)} {vs : List (Nat × Value)} {cs : List AV} {cells : Array Value} {r : List AV}, RepP G w ps vs → fillS c fs cs ps = some r → RepL G w cs cells.toList → (∀ (j : Nat) (x : AV), cs[j]? = some x → leaf x = true) →
      ∃ cells', Instr.fill (places[·]?) cells vs = some cells' ∧ RepL G w r cells'.toList ∧ ∀ (j : Nat) (x : AV), r[j]? = some x → leaf x = true := by
  intro ps vs cs cells r hp
  induction hp generalizing cs cells r with
  | nil =>
    intro h hr hl
    simp [fillS] at h
    subst h
    exact ⟨cells, rfl, hr, hl⟩
  | @cons i x v ps' vs' hx _ ih =>
    intro h hr hl
    simp only [fillS, Option.bind_eq_some_iff] at h
    obtain ⟨f, hf, ft, hft, h⟩ := h
    split at h
    · rename_i hq
      obtain ⟨h1, h2, h3⟩ := hq
      obtain ⟨k1, k2⟩ := rep_cells hx h1
      have e1 := k1.1
      have e2 := hr.1
      simp at e1 e2
      obtain ⟨cells', g1, g2, _⟩ := fill_one (rest := vs') (hpl i f ft hf hft) (v := v) (cells := cells) (by omega) (by omega)
      obtain ⟨cells'', m1, m2, m3⟩ := ih h (cells := cells') (by rw [g2]; exact hr.splice k1 f.2) (leaf_splice _ hl k2)
      exact ⟨cells'', g1.trans m1, m2, m3⟩
    · simp at h

omit [Pin] in
theorem fillA_rep {G : Gh} {w : World} {size : Nat} :
    ∀ {ps : List (Nat × AV)} {vs : List (Nat × Value)} {cs : List AV} {cells : Array Value} {r : List AV}, RepP G w ps vs → fillA size cs ps = some r → RepL G w cs cells.toList → (∀ (j : Nat) (x : AV), cs[j]? = some x → leaf x = true) →
      ∃ cells', Instr.fill (fun i => some (i * size, size)) cells vs = some cells' ∧ RepL G w r cells'.toList ∧ ∀ (j : Nat) (x : AV), r[j]? = some x → leaf x = true := by
  intro ps vs cs cells r hp
  induction hp generalizing cs cells r with
  | nil =>
    intro h hr hl
    simp [fillA] at h
    subst h
    exact ⟨cells, rfl, hr, hl⟩
  | @cons i x v ps' vs' hx _ ih =>
    intro h hr hl
    simp only [fillA] at h
    split at h
    · rename_i hq
      obtain ⟨h1, h2, h3⟩ := hq
      obtain ⟨k1, k2⟩ := rep_cells hx h1
      have e1 := k1.1
      have e2 := hr.1
      simp at e1 e2
      obtain ⟨cells', g1, g2, _⟩ := fill_one (place := fun i => some (i * size, size)) (rest := vs') (i := i) rfl (v := v) (cells := cells) (by omega) (by omega)
      obtain ⟨cells'', m1, m2, m3⟩ := ih h (cells := cells') (by rw [g2]; exact hr.splice k1 _) (leaf_splice _ hl k2)
      exact ⟨cells'', g1.trans m1, m2, m3⟩
    · simp at h

theorem run_abuild (hc : CfgOk P c) {G : Gh} {w : World} {t : TypeId} {ps : List (Nat × AV)} {vs : List (Nat × Value)} {r : AV} (h : abuild c t ps = some r) (hp : RepP G w ps vs) :
    ∃ q, (Instr.build t vs.toArray).run P w = .ok q w ∧ Rep G w r q := by
  unfold abuild at h
  simp only [Option.bind_eq_some_iff] at h
  obtain ⟨i, hi, z, hz, h⟩ := h
  obtain ⟨info, d, h1, h2, h3, h4, h5, h6⟩ := ty_inv (hc.ty t i hi)
  rw [h6] at hz
  simp only [Option.bind_eq_some_iff] at hz
  obtain ⟨zv, hzv, hz⟩ := hz
  obtain ⟨hzr, hzl, hzx⟩ := zeroC_rep (G := G) (w := w) hz
  split at h
  · rename_i fs hk
    split at h
    · rename_i hall
      simp only [Option.map_eq_some_iff] at h
      obtain ⟨cs, hcs, rfl⟩ := h
      rw [h3] at hk
      cases d <;> simp [tkOf] at hk
      rename_i fields
      subst hk
      have hpl : ∃ places, fields.toList.mapM (fun f => (P.info? f.type).map fun i => (f.offset, i.size)) = some places ∧
          ∀ (i : Nat) (f : TypeId × Nat) (ft : Ty), (fields.toList.map fun f => (f.type, f.offset))[i]? = some f → c.ty f.1 = some ft → places[i]? = some (f.2, ft.size) := by
        generalize fields.toList = l at hall
        clear hcs
        induction l with
        | nil => exact ⟨[], rfl, fun i f ft h => by simp at h⟩
        | cons f l ih =>
          simp only [List.map_cons, List.all_cons, Bool.and_eq_true] at hall
          obtain ⟨places, hpl, hat⟩ := ih hall.2
          obtain ⟨ft, hft⟩ := Option.isSome_iff_exists.1 hall.1
          obtain ⟨finfo, _, k1, _, _, k4, _⟩ := ty_inv (hc.ty _ _ hft)
          refine ⟨(f.offset, ft.size) :: places, ?_, fun i g gt hg hgt => ?_⟩
          · simp only [List.mapM_cons, hpl, k1, k4]
            rfl
          · cases i with
            | zero =>
              simp at hg
              subst hg
              simp only at hgt
              rw [hft] at hgt
              cases hgt
              rfl
            | succ i => simp at hg; simpa using hat i g gt (by simpa using hg) hgt
      obtain ⟨places, hm, hat⟩ := hpl
      obtain ⟨cells', m1, m2, m3⟩ := fillS_rep hc hat hp hcs hzr hzl
      refine ⟨.agg cells', run_build w t vs.toArray cells' ?_, rep_agg.2 ⟨m2, m3⟩⟩
      unfold Program.built
      simp only [h1, h2, hzv, hm]
      simpa using m1
    · simp at h
  · rename_i n e hk
    simp only [Option.bind_eq_some_iff, Option.map_eq_some_iff] at h
    obtain ⟨ei, hei, cs, hcs, rfl⟩ := h
    rw [h3] at hk
    cases d <;> simp [tkOf] at hk
    obtain ⟨rfl, rfl⟩ := hk
    obtain ⟨einfo, _, k1, _, _, k4, _⟩ := ty_inv (hc.ty _ _ hei)
    obtain ⟨cells', m1, m2, m3⟩ := fillA_rep hp hcs hzr hzl
    refine ⟨.agg cells', ?_, rep_agg.2 ⟨m2, m3⟩⟩
    rw [k4] at m1
    simp [Instr.build, Sem.run_bind, run_zero_ty h1 hzv, run_underlying h2, run_size_ty k1, m1]
  · simp at h

end Go.Am

/- THE ABSTRACT MACHINE, EIGHTH FILE: slices that are built, memory that is read. -/
set_option linter.unusedSimpArgs false
set_option linter.unusedVariables false
namespace Go.Am
open Go.RowKit
variable [Pin] {P : Program} {c : Cfg}

/-! ### Rows, cell behind cell -/
structure RowsIn (G : Gh) (w : World) (es : Nat) (rows : Rows) (vals : List Value) : Prop where
  size : vals.length = rows.length * es
  len : ∀ (i : Nat) (r : List AV), rows[i]? = some r → r.length = es
  cell : ∀ (i : Nat) (r : List AV) (j : Nat) (x : AV), rows[i]? = some r → r[j]? = some x → leaf x = true ∧ ∃ u, vals[i * es + j]? = some u ∧ Rep G w x u

omit [Pin] in
theorem RowsIn.mono {G G' : Gh} {w w' : World} (hg : G.Le G') (hk : Kept G w w') {es : Nat} {rows : Rows} {vals : List Value} (h : RowsIn G w es rows vals) : RowsIn G' w' es rows vals :=
  ⟨h.size, h.len, fun i r j x hi hj => let ⟨a, u, b, d⟩ := h.cell i r j x hi hj; ⟨a, u, b, d.mono hg hk⟩⟩

omit [Pin] in
theorem row_lt {rows : Rows} {es i j : Nat} {r : List AV} {x : AV} (h : ∀ (i : Nat) (r : List AV), rows[i]? = some r → r.length = es) (hi : rows[i]? = some r) (hj : r[j]? = some x) : i < rows.length ∧ j < es ∧ i * es + j < rows.length * es := by
  have h1 : i < rows.length := (List.getElem?_eq_some_iff.1 hi).1
  have h2 : j < r.length := (List.getElem?_eq_some_iff.1 hj).1
  rw [h i r hi] at h2
  refine ⟨h1, h2, ?_⟩
  have : (i + 1) * es ≤ rows.length * es := Nat.mul_le_mul_right _ h1
  rw [Nat.add_mul] at this
  omega

omit [Pin] in
theorem RowsIn.append {G : Gh} {w : World} {es : Nat} {a b : Rows} {va vb : List Value} (h : RowsIn G w es a va) (k : RowsIn G w es b vb) : RowsIn G w es (a ++ b) (va ++ vb) := by
  refine ⟨by simp [h.size, k.size, Nat.add_mul], fun i r hi => ?_, fun i r j x hi hj => ?_⟩
  · rw [List.getElem?_append] at hi
    split at hi
    · exact h.len _ _ hi
    · exact k.len _ _ hi
  · rw [List.getElem?_append] at hi
    split at hi
    · obtain ⟨h1, u, hu, hr⟩ := h.cell i r j x hi hj
      exact ⟨h1, u, by rw [List.getElem?_append_left (by rw [h.size]; exact (row_lt h.len hi hj).2.2)]; exact hu, hr⟩
    · rename_i hge
      obtain ⟨h1, u, hu, hr⟩ := k.cell _ r j x hi hj
      refine ⟨h1, u, ?_, hr⟩
      have e : i * es + j = a.length * es + ((i - a.length) * es + j) := by
        have e1 : i = a.length + (i - a.length) := by omega
        have e2 : i * es = a.length * es + (i - a.length) * es := by rw [← Nat.add_mul, ← e1]
        omega
      rw [e, List.getElem?_append_right (by rw [h.size]; omega), h.size, Nat.add_sub_cancel_left]
      exact hu

omit [Pin] in
theorem RowsIn.nil (G : Gh) (w : World) (es : Nat) : RowsIn G w es [] [] := ⟨by simp, fun i r h => by simp at h, fun i r j x h => by simp at h⟩

omit [Pin] in
theorem RowsIn.one {G : Gh} {w : World} {es : Nat} {r : List AV} {vs : List Value} (h : RepL G w r vs) (hl : ∀ (j : Nat) (x : AV), r[j]? = some x → leaf x = true) (he : r.length = es) : RowsIn G w es [r] vs := by
  refine ⟨by simp [h.1, he], fun i r' hi => ?_, fun i r' j x hi hj => ?_⟩ <;> cases i <;> simp at hi <;> subst hi
  · exact he
  · obtain ⟨u, hu, hr⟩ := h.get hj
    exact ⟨hl j x hj, u, by simpa using hu, hr⟩

omit [Pin] in
theorem RowsIn.replicate {G : Gh} {w : World} {z : List AV} {vs : List Value} (h : RepL G w z vs) (hl : ∀ (j : Nat) (x : AV), z[j]? = some x → leaf x = true) : ∀ n, RowsIn G w z.length (List.replicate n z) (List.replicate n vs).flatten
  | 0 => by simpa using RowsIn.nil G w z.length
  | n + 1 => by
    rw [List.replicate_succ, List.replicate_succ, List.flatten_cons]
    exact (RowsIn.one h hl rfl).append (RowsIn.replicate h hl n)

omit [Pin] in
theorem getElem?_flatten_replicate {α : Type} (vs : List α) (hne : vs ≠ []) : ∀ (n k : Nat), k < n * vs.length → (List.replicate n vs).flatten[k]? = vs[k % vs.length]?
  | 0, k, h => by simp at h
  | n + 1, k, h => by
    have hpos : 0 < vs.length := List.length_pos_iff.2 hne
    rw [List.replicate_succ, List.flatten_cons]
    by_cases hk : k < vs.length
    · rw [List.getElem?_append_left hk, Nat.mod_eq_of_lt hk]
    · rw [List.getElem?_append_right (by omega), getElem?_flatten_replicate vs hne n _ (by rw [Nat.add_mul] at h; omega)]
      congr 1
      rw [Nat.mod_eq_sub_mod (by omega : k ≥ vs.length)]

omit [Pin] in
/-- Zero cells, as make and a slice's literal lay them. -/
theorem range_zero (zv : Array Value) (n es : Nat) (hz : zv.size = es) (hpos : 0 < es) : ((Array.range (n * es)).map (fun k => zv[k % zv.size]!)).toList = (List.replicate n zv.toList).flatten := by
  apply List.ext_getElem?
  intro k
  by_cases hk : k < n * es
  · rw [getElem?_flatten_replicate zv.toList (by intro h; have h' := congrArg List.length h; rw [Array.length_toList, hz] at h'; simp at h'; omega) n k (by simpa [hz] using hk)]
    have hm : k % es < zv.size := by rw [hz]; exact Nat.mod_lt _ hpos
    simp [hk, hz, hm, getElem!_pos zv (k % es) hm]
  · have hk' : n * es ≤ k := Nat.le_of_not_lt hk
    have h2 : (List.replicate n zv.toList).flatten.length = n * es := by simp [hz]
    have h3 : ((Array.range (n * es)).map (fun k => zv[k % zv.size]!)).toList.length = n * es := by simp
    rw [List.getElem?_eq_none (by rw [h3]; exact hk'), List.getElem?_eq_none (by rw [h2]; exact hk')]

omit [Pin] in
theorem fillR_len {size : Nat} : ∀ {ps : List (Nat × AV)} {rs r : Rows}, fillR size rs ps = some r → r.length = rs.length
  | [], rs, r, h => by simp [fillR] at h; rw [h]
  | (i, v) :: ps, rs, r, h => by
    simp only [fillR] at h
    split at h
    · have := fillR_len h; simpa using this
    · simp at h

omit [Pin] in
theorem RowsIn.setRow {G : Gh} {w : World} {es : Nat} {rows : Rows} {vals : List Value} (h : RowsIn G w es rows vals) {i : Nat} (hi : i < rows.length) {r : List AV} {vs : List Value} (hr : RepL G w r vs)
    (hl : ∀ (j : Nat) (x : AV), r[j]? = some x → leaf x = true) (he : r.length = es) : RowsIn G w es (rows.set i r) (vals.take (i * es) ++ vs ++ vals.drop (i * es + vs.length)) := by
  have hv : vs.length = es := by rw [hr.1, he]
  have hle : i * es + es ≤ rows.length * es := by
    have : (i + 1) * es ≤ rows.length * es := Nat.mul_le_mul_right _ hi
    rw [Nat.add_mul] at this; omega
  have hsz := h.size
  have htk : (vals.take (i * es)).length = i * es := by rw [List.length_take, hsz]; exact Nat.min_eq_left (by omega)
  refine ⟨by rw [List.length_append, List.length_append, htk, List.length_drop, hv, hsz, List.length_set]; omega, fun k q hk => ?_, fun k q j x hk hj => ?_⟩
  · rw [List.getElem?_set] at hk
    split at hk
    · simp at hk; rw [← hk]; exact he
    · exact h.len _ _ hk
  · rw [List.getElem?_set] at hk
    split at hk
    · rename_i hik
      subst hik
      simp at hk
      subst hk
      obtain ⟨u, hu, hru⟩ := hr.get hj
      have hjl : j < vs.length := (List.getElem?_eq_some_iff.1 hu).1
      refine ⟨hl j x hj, u, ?_, hru⟩
      rw [List.append_assoc, List.getElem?_append_right (by rw [htk]; omega), htk, Nat.add_sub_cancel_left, List.getElem?_append_left hjl]
      exact hu
    · rename_i hik
      obtain ⟨h1, u, hu, hru⟩ := h.cell k q j x hk hj
      refine ⟨h1, u, ?_, hru⟩
      obtain ⟨hk1, hj1, _⟩ := row_lt h.len hk hj
      rcases Nat.lt_or_gt_of_ne hik with hlt | hgt
      · -- behind
        have : (i + 1) * es ≤ k * es := Nat.mul_le_mul_right _ hlt
        rw [Nat.add_mul] at this
        rw [List.append_assoc, List.getElem?_append_right (by rw [htk]; omega), htk, List.getElem?_append_right (by omega), List.getElem?_drop, hv]
        rw [show i * es + es + (k * es + j - i * es - es) = k * es + j by omega]
        exact hu
      · have : (k + 1) * es ≤ i * es := Nat.mul_le_mul_right _ hgt
        rw [Nat.add_mul] at this
        rw [List.append_assoc, List.getElem?_append_left (by rw [htk]; omega), List.getElem?_take, if_pos (by omega)]
        exact hu

omit [Pin] in
theorem fillR_rep {G : Gh} {w : World} {size : Nat} :
    ∀ {ps : List (Nat × AV)} {vs : List (Nat × Value)} {rs : Rows} {cells : Array Value} {r : Rows}, RepP G w ps vs → fillR size rs ps = some r → RowsIn G w size rs cells.toList →
      ∃ cells', Instr.fill (fun i => some (i * size, size)) cells vs = some cells' ∧ RowsIn G w size r cells'.toList := by
  intro ps vs rs cells r hp
  induction hp generalizing rs cells r with
  | nil =>
    intro h hr
    simp [fillR] at h
    subst h
    exact ⟨cells, rfl, hr⟩
  | @cons i x v ps' vs' hx _ ih =>
    intro h hr
    simp only [fillR] at h
    split at h
    · rename_i hq
      obtain ⟨h1, h2, h3⟩ := hq
      obtain ⟨k1, k2⟩ := rep_cells hx h1
      have e1 := k1.1
      have e2 := hr.size
      simp at e1 e2
      have hle : (i + 1) * size ≤ rs.length * size := Nat.mul_le_mul_right _ h3
      rw [Nat.add_mul] at hle
      obtain ⟨cells', g1, g2, _⟩ := fill_one (place := fun i => some (i * size, size)) (rest := vs') (i := i) rfl (v := v) (cells := cells) (by omega) (by omega)
      obtain ⟨cells'', m1, m2⟩ := ih h (cells := cells') (by rw [g2]; exact hr.setRow h3 k1 k2 h2)
      exact ⟨cells'', g1.trans m1, m2⟩
    · simp at h

omit [Pin] in
/-- New cells that are written no more. -/
theorem rowsAt_new {G : Gh} {w : World} {es e : Nat} {rows : Rows} {cells : Array Value} (h : RowsIn G w es rows cells.toList) {I : Nat → Nat → Prop} (hI : ∀ f, f < cells.size → I w.heap.size f) (hk : Kept G w (w.alloc (.cells cells e))) :
    RowsAt { G with im := fun b f => G.im b f ∨ I b f } (w.alloc (.cells cells e)) w.heap.size 0 es rows := by
  have hg : G.Le { G with im := fun b f => G.im b f ∨ I b f } := ⟨fun _ _ x => x, fun _ _ _ x => x, fun _ _ x => .inl x⟩
  refine ⟨h.len, fun i r j x hi hj => ?_⟩
  obtain ⟨h1, u, hu, hr⟩ := h.cell i r j x hi hj
  have hlt := (List.getElem?_eq_some_iff.1 hu).1
  simp at hlt
  refine ⟨h1, u, ⟨.inr (hI _ (by omega)), ?_⟩, hr.mono hg hk⟩
  rw [World.cell?_alloc_new]
  simpa using hu

theorem comes_buildSlice (hc : CfgOk P c) {G : Gh} {S : St} {w : World} {t e : TypeId} {ei : Ty} {len : Nat} {z : List AV} {ps : List (Nat × AV)} {vs : List (Nat × Value)} {rows : Rows} (hW : Wrel G S w)
    (hk : kindOf c t = .slice e) (he : c.ty e = some ei) (hlen : len * ei.size ≤ 16777216) (hz : (if len * ei.size = 0 then some [] else ei.zero) = some z) (hzl : z.length = ei.size ∨ len = 0)
    (hf : fillR ei.size (List.replicate len z) ps = some rows) (hp : RepP G w ps vs) : Comes1 P (do pure (.value (← Instr.buildSlice t len vs.toArray))) G S w (.lit rows) S := by
  unfold kindOf at hk
  split at hk
  case h_2 => simp at hk
  rename_i i hi
  obtain ⟨_, d, _, h2, h3, _⟩ := ty_inv (hc.ty t i hi)
  rw [h3] at hk
  cases d <;> simp [tkOf] at hk
  have hk := hk.symm
  subst hk
  obtain ⟨einfo, _, k1, _, _, k4, _, k6⟩ := ty_inv (hc.ty _ _ he)
  -- the zero cells
  have hzero : ∃ cells0 : Array Value, ((len * einfo.size = 0 ∧ cells0 = #[]) ∨ (¬ len * einfo.size = 0 ∧ ∃ zv, einfo.zero = some zv ∧ cells0 = zv.cells)) ∧
      RowsIn G w ei.size (List.replicate len z) ((Array.range (len * einfo.size)).map (fun k => cells0[k % cells0.size]!)).toList := by
    by_cases h0 : len * ei.size = 0
    · rw [if_pos h0] at hz
      simp at hz
      subst hz
      refine ⟨#[], .inl ⟨by rw [← k4]; exact h0, rfl⟩, ?_⟩
      rw [← k4, h0]
      refine ⟨by simp [h0], fun i r hi => ?_, fun i r j x hi hj => ?_⟩
      · rw [List.getElem?_replicate] at hi
        split at hi
        · simp at hi
          subst hi
          rcases hzl with hzl | hzl
          · simpa using hzl
          · omega
        · simp at hi
      · rw [List.getElem?_replicate] at hi
        split at hi
        · simp at hi; subst hi; simp at hj
        · simp at hi
    · rw [if_neg h0, k6] at hz
      simp only [Option.bind_eq_some_iff] at hz
      obtain ⟨zv, hzv, hz⟩ := hz
      obtain ⟨hzr, hzl', hzx⟩ := zeroC_rep (G := G) (w := w) hz
      have hzs : z.length = ei.size := hzl.resolve_right (by intro h; simp [h] at h0)
      refine ⟨zv.cells, .inr ⟨by rw [← k4]; exact h0, zv, hzv, rfl⟩, ?_⟩
      have hsz : zv.cells.size = einfo.size := by have := hzr.1; simp at this; omega
      rw [range_zero zv.cells len einfo.size hsz (by rw [← k4]; exact Nat.pos_of_ne_zero (fun h => h0 (by rw [h]; simp))), ← hzs]
      exact RowsIn.replicate hzr hzl' len
  obtain ⟨cells0, hz0, hrows0⟩ := hzero
  obtain ⟨cells', m1, m2⟩ := fillR_rep hp hf hrows0
  have hrl : rows.length = len := by rw [fillR_len hf]; simp
  have hlaid := Laid.alloc w (.cells cells' e)
  have hst := im_step hW hlaid (fun b f => b = w.heap.size ∧ f < cells'.size) (fun b f hh => ⟨by omega, by
    obtain ⟨rfl, hf⟩ := hh
    exact ⟨cells'[f], by rw [World.cell?_alloc_new]; simp [hf]⟩⟩)
  have hat := rowsAt_new (e := e) m2 (I := fun b f => b = w.heap.size ∧ f < cells'.size) (fun f hf => ⟨rfl, hf⟩) (hlaid.kept hW)
  refine comes_value' (u := .slice (some ⟨w.heap.size, 0, none⟩) len len) (w' := w.alloc (.cells cells' e)) ?_ hst.1 hst.2 ?_
  · rw [k4] at m1 hlen
    have hng : ¬ len * einfo.size > 16777216 := by omega
    simp only [Instr.buildSlice, Sem.run_bind, run_underlying h2, Result.andThen_ok, run_size_ty k1]
    rw [if_neg (show ¬ len * einfo.size > 2 ^ 24 from hng)]
    rcases hz0 with ⟨h0, rfl⟩ | ⟨h0, zv, hzv, rfl⟩
    · rw [if_pos h0]
      simp only [Sem.run_bind, Result.andThen_ok, Sem.run_pure, m1, newRow, run_newObj_alloc]
    · rw [if_neg h0]
      simp only [Sem.run_bind, run_zero_ty k1 hzv, Result.andThen_ok, Sem.run_pure, m1, newRow, run_newObj_alloc]
  · have hl := rep_lit hat
    rw [hrl] at hl
    exact hl

/-! ### What lies in cells -/
def CellsAt (G : Gh) (w : World) (b p : Nat) (xs : List AV) : Prop := ∀ (j : Nat) (x : AV), xs[j]? = some x → leaf x = true ∧ ∃ u, w.cell? ⟨b, p + j, none⟩ = some u ∧ Rep G w x u

omit [Pin] in
theorem CellsAt.vals {G : Gh} {w : World} {b p : Nat} {xs : List AV} (h : CellsAt G w b p xs) : ∃ vs : List Value, RepL G w xs vs ∧ w.rangeAt b p vs ∧ vs.length = xs.length := by
  refine ⟨(List.range xs.length).map fun j => (w.cell? ⟨b, p + j, none⟩).getD undef, ⟨by simp, fun j x hx => ?_⟩, fun j v hv => ?_, by simp⟩
  · have hj : j < xs.length := (List.getElem?_eq_some_iff.1 hx).1
    obtain ⟨_, u, hu, hr⟩ := h j x hx
    exact ⟨u, by simp [hj, hu], hr⟩
  · have hj : j < xs.length := by
      have := (List.getElem?_eq_some_iff.1 hv).1
      simpa using this
    simp [hj] at hv
    obtain ⟨_, u, hu, _⟩ := h j xs[j] (List.getElem?_eq_getElem hj)
    rw [hu] at hv ⊢
    simpa using hv

omit [Pin] in
theorem run_loadVar_at {t : TypeId} {i : Ty} (hi : tyOf P t = some i) {G : Gh} {w : World} {b p off : Nat} {xs : List AV} {y : AV} (h : CellsAt G w b p xs) (hy : apart i xs off = some y) :
    ∃ q, (loadVar t ⟨b, p + off, none⟩).run P w = .ok q w ∧ Rep G w y q := by
  obtain ⟨info, d, h1, h2, h3, h4, _, _⟩ := ty_inv hi
  unfold apart at hy
  rw [h3] at hy
  split at hy
  · rename_i ha
    split at hy
    · rename_i hle
      simp at hy
      subst hy
      have hsub : CellsAt G w b (p + off) ((xs.drop off).take i.size) := fun j x hx => by
        rw [List.getElem?_take] at hx
        split at hx
        · rw [List.getElem?_drop] at hx
          obtain ⟨k1, u, k2, k3⟩ := h (off + j) x hx
          exact ⟨k1, u, by rw [show p + off + j = p + (off + j) by omega]; exact k2, k3⟩
        · simp at hx
      obtain ⟨vs, k1, k2, k3⟩ := hsub.vals
      have hsz : vs.length = i.size := by rw [k3]; simp; omega
      refine ⟨.agg vs.toArray, run_loadVar_mid w b (p + off) t vs d k2 h2 ?_ (by rw [h1]; simp; omega), rep_agg.2 ⟨by simpa using k1, fun j x hx => (hsub j x hx).1⟩⟩
      cases d <;> simp [tkOf, isAggK] at ha <;> rfl
    · simp at hy
  · rename_i ha
    obtain ⟨_, u, k2, k3⟩ := h off y hy
    refine ⟨u, ?_, k3⟩
    simp only [loadVar, Sem.run_bind, run_isAgg_ty h2, Result.andThen_ok]
    rw [if_neg ha]
    simp [k2]

theorem Wrel.row {G : Gh} {S : St} {w : World} (h : Wrel G S w) {o b : Nat} {cs : List AV} {l : Bool} (hg : S.get o = some (.row cs l)) (hb : G.blk o b) : CellsAt G w b 0 cs ∧ Open w b 0 cs.length ∧ (l = false → ∀ f, ¬ G.im b f) := by
  obtain ⟨b', hb', h1, h2, h3⟩ := h.obj o _ hg
  obtain rfl := h.fblk o _ _ hb hb'
  exact ⟨fun j x hx => by rw [Nat.zero_add]; exact h2 j x hx, h1, h3⟩

theorem Wrel.seq {G : Gh} {S : St} {w : World} (h : Wrel G S w) {o g es exp : Nat} {rows : Rows} {s : Seg} (hg : S.get o = some (.seq g es rows exp)) (hs : G.seg o g s) :
    s.es = es ∧ rows.length ≤ s.cp ∧ (∀ (i : Nat) (r : List AV), rows[i]? = some r → r.length = s.es) ∧ (∀ (i : Nat) (r : List AV), rows[i]? = some r → CellsAt G w s.b (s.st + i * s.es) r) ∧
    (0 < s.cp → Open w s.b s.st (s.cp * s.es) ∧ ∀ f, G.im s.b f → f < s.st + exp * s.es) := by
  obtain ⟨s', hs', h0, h1, h2, h3⟩ := h.obj o _ hg
  obtain rfl := h.fseg o g _ _ hs hs'
  refine ⟨h0, h1, h2, fun i r hi j x hj => ?_, fun hp => ⟨(h3 hp).1, (h3 hp).2.2⟩⟩
  have hlt : i < rows.length := (List.getElem?_eq_some_iff.1 hi).1
  exact (h3 (by omega)).2.1 i r j x hi hj

theorem run_aload (hc : CfgOk P c) {G : Gh} {S : St} {w : World} {t : TypeId} {i : Ty} {a y : AV} {u : Value} (hW : Wrel G S w) (hi : c.ty t = some i) (h : S.load i a = some y) (ha : Rep G w a u) :
    ∃ q, (Instr.loadAt t u).run P w = .ok q w ∧ Rep G w y q := by
  have hi := hc.ty t i hi
  unfold St.load at h
  split at h
  · split at h
    · rename_i o off cs l hg
      cases ha with
      | ptr _ _ b hb =>
        obtain ⟨hcs, _⟩ := hW.row hg hb
        obtain ⟨q, hq, hr⟩ := run_loadVar_at hi hcs h
        rw [Nat.zero_add] at hq
        exact ⟨q, by simp [Instr.loadAt, Instr.sureAddr, hq], hr⟩
    · simp at h
  · split at h
    · rename_i o g r off g' es rows exp hg
      split at h
      · rename_i hgg
        subst hgg
        simp only [Option.bind_eq_some_iff] at h
        obtain ⟨cs, hcs, h⟩ := h
        cases ha with
        | eptr _ _ _ _ s hs =>
          obtain ⟨_, _, _, hcell, _⟩ := hW.seq hg hs
          obtain ⟨q, hq, hr⟩ := run_loadVar_at hi (hcell _ _ hcs) h
          exact ⟨q, by simp [Instr.loadAt, Instr.sureAddr, hq], hr⟩
      · simp at h
    · simp at h
  · rename_i cs off
    cases ha with
    | iptr _ _ b p us hl hcl hr =>
      obtain ⟨q, hq, hr⟩ := run_loadVar_at hi (b := b) (p := p) (fun j x hx => ⟨hl j x hx, us j, (hcl j x hx).2, hr j x hx⟩) h
      exact ⟨q, by simp [Instr.loadAt, Instr.sureAddr, hq], hr⟩
  · simp at h

end Go.Am

