/- THE ABSTRACT MACHINE, FIRST FILE: its values, its memory, its operations, its runs. Nothing is proved here. -/
import Derived.RangeFuncNested
import Derived.OrdersIn
set_option linter.unusedVariables false
namespace Go.Am

/-! ### Values -/
inductive AV where
  | int (k : IntKind) (n : Int)
  | bool (b : Bool)
  | str (s : List UInt8)
  | undef
  | nilp | nils | nilm | nilf | nili | emp
  | ifc
  | ptr (o off : Nat)
  | eptr (o g i off : Nat)
  | iptr (row : List AV) (off : Nat)
  | vec (rows : List (List AV))
  | lit (rows : List (List AV))
  | own (rows : List (List AV)) (o g : Nat)
  | sref (o g off len : Nat)
  | map (o : Nat)
  | fn (f : FuncId) (first cap : List AV)
  | yield (l : Nat)
  | agg (cs : List AV)
  | tup (vs : List AV)
  deriving Inhabited

abbrev Rows := List (List AV)

def AV.cells : AV → List AV
  | .agg cs => cs
  | v => [v]

/-- How a piece of code is left. -/
inductive Ex where
  | nrm
  | exit (id : Nat)
  | goto (l : Nat)
  | ret
  deriving DecidableEq, Inhabited

inductive AObj where
  | dead
  | row (cells : List AV) (lock : Bool)
  | seq (g es : Nat) (rows : Rows) (exp : Nat)
  | tail (g : Nat)
  | map (es : List (AV × AV × Nat)) (clock : Nat)
  | miter (m : Option Nat) (since : Nat) (seen : List Nat) (stepped : Nat)
  | siter (s : List UInt8) (pos : Nat)
  | loop (st : LoopState) (pend : Ex) (fn : FuncId) (tmps : List AV) (ps : List Tmp) (asg body : Code) (d : Nat)
  | dfr
  deriving Inhabited

/-- Memory: objects, the newest first; 'n': how many; 'base': objects below it take plain data alone. -/
structure St where
  h : List AObj
  n : Nat
  base : Nat
  deriving Inhabited

def St.get (S : St) (id : Nat) : Option AObj := if id < S.n then S.h[S.n - 1 - id]? else none
def St.set (S : St) (id : Nat) (o : AObj) : St := { S with h := S.h.set (S.n - 1 - id) o }
def St.putO (S : St) (id : Nat) (o : AObj) : Option St := if S.base ≤ id then some (S.set id o) else none
def St.push (S : St) (o : AObj) : St := { S with h := o :: S.h, n := S.n + 1 }
def St.nil : St := ⟨[], 0, 0⟩

/-! ### Plain data -/
mutual
def nrm : AV → Option AV
  | .int k n => some (.int k n)
  | .bool b => some (.bool b)
  | .str s => some (.str s)
  | .undef => some .undef
  | .nilp => some .nilp
  | .nils => some (.vec [])
  | .emp => some (.vec [])
  | .nilm => some .nilm
  | .nilf => some .nilf
  | .nili => some .nili
  | .ifc => some .ifc
  | .ptr _ _ => none
  | .eptr _ _ _ _ => none
  | .iptr row off => (nrmL row).map (.iptr · off)
  | .vec rows => (nrmR rows).map .vec
  | .lit rows => (nrmR rows).map .vec
  | .own rows _ _ => (nrmR rows).map .vec
  | .sref _ _ _ _ => none
  | .map _ => none
  | .fn f first cap => (nrmL first).bind fun a => (nrmL cap).map fun b => .fn f a b
  | .yield _ => none
  | .agg cs => (nrmL cs).map .agg
  | .tup vs => (nrmL vs).map .tup
def nrmL : List AV → Option (List AV)
  | [] => some []
  | x :: xs => (nrm x).bind fun a => (nrmL xs).map fun b => a :: b
def nrmR : List (List AV) → Option (List (List AV))
  | [] => some []
  | x :: xs => (nrmL x).bind fun a => (nrmR xs).map fun b => a :: b
end

/-- The rows of a slice's object, as far as a slice value sees them. -/
def St.rows (S : St) (o g off len : Nat) : Option Rows :=
  match S.get o with
  | some (.seq g' _ rows _) => if g = g' ∧ off + len ≤ rows.length then some ((rows.drop off).take len) else none
  | _ => none

/-- A slice's rows. -/
def St.rowsOf (S : St) : AV → Option Rows
  | .nils => some []
  | .emp => some []
  | .vec r => some r
  | .lit r => some r
  | .own r _ _ => some r
  | .sref o g off len => S.rows o g off len
  | _ => none

/-- A value as plain data; and which objects' rows must not be written any more. -/
def frz1 (S : St) : AV → Option (AV × List (Nat × Nat))
  | .sref o g off len => (S.rows o g off len).bind fun r => (nrmR r).map fun r' => (.vec r', [(o, off + len)])
  | v => (nrm v).map fun v' => (v', [])
def frzL (S : St) : List AV → Option (List AV × List (Nat × Nat))
  | [] => some ([], [])
  | x :: xs => (frz1 S x).bind fun a => (frzL S xs).map fun b => (a.1 :: b.1, a.2 ++ b.2)
def frzA (S : St) : AV → Option (AV × List (Nat × Nat))
  | .agg cs => (frzL S cs).map fun a => (AV.agg a.1, a.2)
  | v => frz1 S v
def frzLA (S : St) : List AV → Option (List AV × List (Nat × Nat))
  | [] => some ([], [])
  | x :: xs => (frzA S x).bind fun a => (frzLA S xs).map fun b => (a.1 :: b.1, a.2 ++ b.2)
def frz (S : St) : AV → Option (AV × List (Nat × Nat))
  | .tup vs => (frzLA S vs).map fun a => (AV.tup a.1, a.2)
  | v => frzA S v
def St.lockAll (S : St) : List (Nat × Nat) → Option St
  | [] => some S
  | (o, k) :: l => match S.get o with
      | some (.seq g es rows exp) => (S.putO o (.seq g es rows (max exp k))).bind fun S' => S'.lockAll l
      | _ => none

def leaf : AV → Bool
  | .agg _ => false
  | .tup _ => false
  | .undef => false
  | _ => true

def leafC : AV → Bool
  | .agg _ => true
  | v => leaf v

/-! ### Types -/
inductive TK where
  | int (k : IntKind) | bool | str | ptr (e : TypeId) | slice (e : TypeId) | array (n : Nat) (e : TypeId)
  | struct (fs : List (TypeId × Nat)) | map (k e : TypeId) | func | iface | other
  deriving DecidableEq, Inhabited

structure Ty where
  kind : TK
  size : Nat
  bytes : Nat
  zero : Option (List AV)

/-- How a function is called: on plain data in a memory of its own · on the caller's memory, what it made thrown away · on the caller's memory. -/
inductive CM where
  | pure | temp | raw
  deriving DecidableEq

/-- A function that is taken as given: its value hangs on its arguments alone · it makes one object besides. -/
inductive XT where
  | val (F : List AV → Option AV)
  | push (F : List AV → Nat → Option (AV × AObj))

def XT.run : XT → List AV → St → Option (AV × St)
  | .val F, a, S => (F a).map fun v => (v, S)
  | .push F, a, S => (F a S.n).map fun r => (r.1, S.push r.2)

structure Cfg where
  ty : TypeId → Option Ty
  fn : FuncId → Option Func
  mode : FuncId → CM
  ext : FuncId → Option XT
  muts : FuncId → Nat → Bool
  eqt : TypeId → Bool

def constV : Value → Option AV
  | .int k n => some (.int k n)
  | .bool b => some (.bool b)
  | .string s => some (.str s.data.toList)
  | .pointer none => some .nilp
  | .slice none 0 0 => some .nils
  | .map none => some .nilm
  | .nilFunc => some .nilf
  | .nilIface => some .nili
  | _ => none

def constL : List Value → Option (List AV)
  | [] => some []
  | x :: xs => (constV x).bind fun a => (constL xs).map fun b => a :: b

def constC : Value → Option AV
  | .agg cs => (constL cs.toList).map .agg
  | .tuple ⟨[]⟩ => some .undef
  | v => constV v

def tkOf : TypeDesc → TK
  | .int k => .int k
  | .bool => .bool
  | .string => .str
  | .pointer e => .ptr e
  | .slice e => .slice e
  | .array n e => .array n e
  | .struct fs => .struct (fs.toList.map fun f => (f.type, f.offset))
  | .map k e => .map k e
  | .func _ _ _ => .func
  | .interface _ => .iface
  | _ => .other

def isAggK : TK → Bool
  | .struct _ => true
  | .array _ _ => true
  | _ => false

def zeroC (agg : Bool) (z : Value) : Option (List AV) :=
  match z with
  | .agg cs => if agg then constL cs.toList else none
  | z => if agg then none else (constV z).map fun x => [x]

def tyOf (P : Program) (t : TypeId) : Option Ty :=
  match P.info? t, P.underlying t with
  | some i, some d => some { kind := tkOf d, size := i.size, bytes := i.bytes, zero := i.zero.bind fun z => zeroC (isAggK (tkOf d)) z }
  | _, _ => none

/-! ### Operands -/
def evalT (tm : List AV) : Operand → Option AV
  | .tmp t => some (tm.getD t .undef)
  | .const v => constC v
  | .global _ => none
  | .func f => some (.fn f [] [])

def evalL (tm : List AV) : List Operand → Option (List AV)
  | [] => some []
  | x :: xs => (evalT tm x).bind fun a => (evalL tm xs).map fun b => a :: b

def evalO (tm : List AV) : Option Operand → Option (Option AV)
  | none => some none
  | some x => (evalT tm x).map some

/-! ### Arithmetic and comparisons -/
def maxI64 : Int := 9223372036854775807

def aint (op : BinOp) (k : IntKind) (a b : Int) : Option AV :=
  match op with
  | .add => some (.int k (k.wrap (a + b)))
  | .sub => some (.int k (k.wrap (a - b)))
  | .mul => some (.int k (k.wrap (a * b)))
  | .quo => if b = 0 then none else some (.int k (k.wrap (a.tdiv b)))
  | .rem => if b = 0 then none else some (.int k (a.tmod b))
  | .and => some (.int k (k.wrap (BitVec.ofInt k.bits a &&& BitVec.ofInt k.bits b).toNat))
  | .or => some (.int k (k.wrap (BitVec.ofInt k.bits a ||| BitVec.ofInt k.bits b).toNat))
  | .xor => some (.int k (k.wrap (BitVec.ofInt k.bits a ^^^ BitVec.ofInt k.bits b).toNat))
  | .andNot => some (.int k (k.wrap (BitVec.ofInt k.bits a &&& ~~~BitVec.ofInt k.bits b).toNat))
  | .eql => some (.bool (a == b))
  | .neq => some (.bool (a != b))
  | .lss => some (.bool (a < b))
  | .leq => some (.bool (a ≤ b))
  | .gtr => some (.bool (a > b))
  | .geq => some (.bool (a ≥ b))
  | _ => none

def ashift (op : BinOp) (k : IntKind) (a b : Int) : Option AV :=
  if b < 0 then none else
  match op with
  | .shl => some (.int k (k.wrap (a * 2 ^ (min b.toNat k.bits))))
  | .shr => some (.int k (a.fdiv (2 ^ (min b.toNat k.bits))))
  | _ => none

def astr (op : BinOp) (a b : List UInt8) : Option AV :=
  match op with
  | .add => if (a.length : Int) + b.length ≤ maxI64 then some (.str (a ++ b)) else none
  | .eql => some (.bool (a == b))
  | .neq => some (.bool !(a == b))
  | .lss => some (.bool (Op.bytesLess a b))
  | .leq => some (.bool (Op.bytesLess a b || a == b))
  | .gtr => some (.bool !(Op.bytesLess a b || a == b))
  | .geq => some (.bool !(Op.bytesLess a b))
  | _ => none

/-- Plain leaves: are they the same? -/
def leafEq : AV → AV → Option Bool
  | .int k a, .int k' b => if k = k' then some (a == b) else none
  | .bool a, .bool b => some (a == b)
  | .str a, .str b => some (a == b)
  | _, _ => none

def leavesEq : List AV → List AV → Option Bool
  | [], [] => some true
  | x :: xs, y :: ys => (leafEq x y).bind fun a => (leavesEq xs ys).map fun b => a && b
  | _, _ => none

def kindFits : TK → AV → Bool
  | .int k, .int k' _ => k == k'
  | .bool, .bool _ => true
  | .str, .str _ => true
  | _, _ => false

/-- The same kind of leaf. -/
def sameLeaf : AV → AV → Bool
  | .int k _, .int k' _ => k == k'
  | .bool _, .bool _ => true
  | .str _, .str _ => true
  | _, _ => false
def sameLeaves : List AV → List AV → Bool
  | [], [] => true
  | x :: xs, y :: ys => sameLeaf x y && sameLeaves xs ys
  | _, _ => false
/-- Cells of a type's form. -/
def fitsT (c : Cfg) (t : TypeId) (xs : List AV) : Bool :=
  match c.ty t with
  | some i => (match i.zero with | some z => sameLeaves z xs | none => false)
  | none => false

/-- '==' by type. -/
def aeq (c : Cfg) (t : TypeId) (x y : AV) : Option Bool :=
  (c.ty t).bind fun i =>
  match i.kind, x, y with
  | .bool, .bool a, .bool b => some (a == b)
  | .ptr _, .nilp, .nilp => some true
  | .ptr _, .nilp, .ptr _ _ => some false
  | .ptr _, .ptr _ _, .nilp => some false
  | .slice _, .nils, .nils => some true
  | .slice _, .emp, .nils => some false
  | .slice _, .vec (_ :: _), .nils => some false
  | .slice _, .lit (_ :: _), .nils => some false
  | .slice _, .own (_ :: _) _ _, .nils => some false
  | .slice _, .sref _ _ _ _, .nils => some false
  | .map _ _, .nilm, .nilm => some true
  | .map _ _, .map _, .nilm => some false
  | .func, .nilf, .nilf => some true
  | .func, .fn _ _ _, .nilf => some false
  | .iface, .nili, .nili => some true
  | .iface, .ifc, .nili => some false
  | .struct _, .agg xs, .agg ys => if c.eqt t = true ∧ fitsT c t xs = true then leavesEq xs ys else none
  | _, _, _ => none

def abin (c : Cfg) (op : BinOp) (t : TypeId) (x y : AV) : Option AV :=
  match op, x, y with
  | .shl, .int k a, .int _ b => ashift .shl k a b
  | .shr, .int k a, .int _ b => ashift .shr k a b
  | op, .int k a, .int k' b => if k = k' then aint op k a b else none
  | op, .str a, .str b => astr op a b
  | .eql, x, y => (aeq c t x y).map .bool
  | .neq, x, y => (aeq c t x y).map fun b => .bool !b
  | _, _, _ => none

def aun (op : UnOp) (x : AV) : Option AV :=
  match op, x with
  | .neg, .int k n => some (.int k (k.wrap (0 - n)))
  | .xor, .int k n => some (.int k (k.wrap (BitVec.ofInt k.bits (if k.signed then -1 else k.max) ^^^ BitVec.ofInt k.bits n).toNat))
  | .not, .bool b => some (.bool !b)
  | _, _ => none

def aconv (c : Cfg) (src dst : TypeId) (x : AV) : Option AV :=
  (c.ty src).bind fun i => (c.ty dst).bind fun j =>
  match i.kind, j.kind, x with
  | _, .int k, .int _ n => some (.int k (k.wrap n))
  | _, .str, .str s => some (.str s)
  | _, _, _ => none

/-! ### Structs and slices -/
def splice (cs : List AV) (off : Nat) (vs : List AV) : List AV := cs.take off ++ vs ++ cs.drop (off + vs.length)

/-- The part of type i at 'off' of some cells. -/
def apart (i : Ty) (cs : List AV) (off : Nat) : Option AV :=
  if isAggK i.kind then (if off + i.size ≤ cs.length then some (.agg ((cs.drop off).take i.size)) else none)
  else cs[off]?

def fillS (c : Cfg) (fs : List (TypeId × Nat)) : List AV → List (Nat × AV) → Option (List AV)
  | cs, [] => some cs
  | cs, (i, v) :: rest => (fs[i]?).bind fun f => (c.ty f.1).bind fun ft =>
      if leafC v ∧ v.cells.length = ft.size ∧ f.2 + v.cells.length ≤ cs.length then fillS c fs (splice cs f.2 v.cells) rest else none

def fillA (size : Nat) : List AV → List (Nat × AV) → Option (List AV)
  | cs, [] => some cs
  | cs, (i, v) :: rest => if leafC v ∧ v.cells.length = size ∧ i * size + v.cells.length ≤ cs.length then fillA size (splice cs (i * size) v.cells) rest else none

def fillR (size : Nat) : Rows → List (Nat × AV) → Option Rows
  | rs, [] => some rs
  | rs, (i, v) :: rest => if leafC v ∧ v.cells.length = size ∧ i < rs.length then fillR size (rs.set i v.cells) rest else none

def abuild (c : Cfg) (t : TypeId) (parts : List (Nat × AV)) : Option AV :=
  (c.ty t).bind fun i => i.zero.bind fun z =>
  match i.kind with
  | .struct fs => if fs.all fun f => (c.ty f.1).isSome then (fillS c fs z parts).map .agg else none
  | .array _ e => (c.ty e).bind fun ei => (fillA ei.size z parts).map .agg
  | _ => none

def capOk (need bytes : Nat) : Bool := 0 < bytes ∧ (need + need / 4 + 1000) * bytes ≤ 281474976710656

def headOk (es : Nat) : Rows → Bool
  | [] => true
  | r :: _ => r.length == es

def aappend (es bytes : Nat) (mutb : Bool) (x : AV) (ys : Rows) (S : St) : Option (AV × St) :=
  if headOk es ys = false then none else
  match ys with
  | [] => (match x with | .nils | .emp | .vec _ | .lit _ | .own _ _ _ | .sref _ _ _ _ => some (x, S) | _ => none)
  | _ =>
    match x with
    | .nils => if capOk ys.length bytes then fresh ys S else none
    | .lit rows => if capOk (rows.length + ys.length) bytes ∧ headOk es rows then fresh (rows ++ ys) S else none
    | .own rows o g =>
      match S.get o with
      | some (.tail g') => if g = g' ∧ rows.isEmpty = false ∧ capOk (rows.length + ys.length) bytes ∧ headOk es rows ∧ S.base ≤ o then some (.own (rows ++ ys) o (g + 1), S.set o (.tail (g + 1))) else none
      | _ => none
    | .sref o g off len =>
      match S.get o with
      | some (.seq g' es' rows exp) =>
        if g = g' ∧ es = es' ∧ off + len = rows.length ∧ exp ≤ rows.length ∧ capOk (len + ys.length) bytes ∧ S.base ≤ o
        then some (.sref o (g + 1) 0 (len + ys.length), S.set o (.seq (g + 1) es (rows.drop off ++ ys) (exp - off))) else none
      | _ => none
    | _ => none
where
  fresh (rows : Rows) (S : St) : Option (AV × St) :=
    if mutb then some (.sref S.n 0 0 rows.length, S.push (.seq 0 es rows 0)) else some (.own rows S.n 0, S.push (.tail 0))

def bnd (x : Option AV) (dflt top : Nat) : Option Nat :=
  match x with
  | none => some dflt
  | some (.int _ n) => if 0 ≤ n ∧ n ≤ top then some n.toNat else none
  | some _ => none

def acut (es : Nat) (r : Rows) (lo hi : Option AV) : Option AV :=
  if headOk es r then (bnd hi r.length r.length).bind fun h => (bnd lo 0 h).map fun l => .vec ((r.drop l).take (h - l)) else none

/-- x[l:h] of a slice. -/
def asliceV (S : St) (es : Nat) (x : AV) (lo hi : Option AV) : Option AV :=
  match x with
  | .nils => (bnd hi 0 0).bind fun h => (bnd lo 0 h).map fun _ => .nils
  | .vec r => acut es r lo hi
  | .lit r => acut es r lo hi
  | .own r _ _ => acut es r lo hi
  | .sref o g off len =>
    match S.get o with
    | some (.seq g' es' _ _) => if es = es' ∧ g = g' then (bnd hi len len).bind fun h => (bnd lo 0 h).map fun l => .sref o g (off + l) (h - l) else none
    | _ => none
  | _ => none

def asliceS (s : List UInt8) (lo hi : Option AV) : Option AV :=
  (bnd hi s.length s.length).bind fun h => (bnd lo 0 h).map fun l => .str ((s.drop l).take (h - l))

/-! ### Memory -/
def St.load (S : St) (i : Ty) (a : AV) : Option AV :=
  match a with
  | .ptr o off => (match S.get o with | some (.row cs _) => apart i cs off | _ => none)
  | .eptr o g r off => (match S.get o with | some (.seq g' _ rows _) => if g = g' then (rows[r]?).bind fun cs => apart i cs off else none | _ => none)
  | .iptr cs off => apart i cs off
  | _ => none

def St.store (S : St) (i : Ty) (a v : AV) : Option St :=
  if leafC v ∧ v.cells.length = i.size then
    match a with
    | .ptr o off => (match S.get o with
      | some (.row cs false) => if off + i.size ≤ cs.length then S.putO o (.row (splice cs off v.cells) false) else none
      | _ => none)
    | .eptr o g r off => (match S.get o with
      | some (.seq g' es rows exp) => (rows[r]?).bind fun cs =>
          if g = g' ∧ exp ≤ r ∧ off + i.size ≤ cs.length then S.putO o (.seq g es (rows.set r (splice cs off v.cells)) exp) else none
      | _ => none)
    | _ => none
  else none

def addOff (a : AV) (k : Nat) : Option AV :=
  match a with
  | .ptr o off => some (.ptr o (off + k))
  | .eptr o g i off => some (.eptr o g i (off + k))
  | .iptr r off => some (.iptr r (off + k))
  | _ => none

def asIdx : AV → Option Int
  | .int _ n => some n
  | _ => none

/-! ### Maps -/
def keyFits (c : Cfg) (t : TypeId) : AV → Bool
  | .int k _ => (match ((c.ty t).map (·.kind) : Option TK) with | some (.int k') => k == k' | _ => false)
  | .bool _ => (match ((c.ty t).map (·.kind) : Option TK) with | some .bool => true | _ => false)
  | .str _ => (match ((c.ty t).map (·.kind) : Option TK) with | some .str => true | _ => false)
  | .agg xs => (match ((c.ty t).map (·.kind) : Option TK) with | some (.struct _) => c.eqt t && fitsT c t xs && (leavesEq xs xs).isSome | _ => false)
  | _ => false

def keyEq : AV → AV → Option Bool
  | .agg xs, .agg ys => leavesEq xs ys
  | x, y => leafEq x y

def findKey (k : AV) : List (AV × AV × Nat) → Nat → Option (Option (Nat × AV))
  | [], _ => some none
  | (k', v, _) :: es, i => (keyEq k k').bind fun b => if b then some (some (i, v)) else findKey k es (i + 1)

def zeroOf (c : Cfg) (t : TypeId) : Option AV :=
  (c.ty t).bind fun i => i.zero.bind fun z => if isAggK i.kind then some (.agg z) else match z with | [x] => some x | _ => none

end Go.Am
