/- THE ABSTRACT MACHINE, SECOND FILE: operations, regions, code, calls. -/
import Derived.Test.YtghpjjhdbankhaaAm0
set_option linter.unusedVariables false
namespace Go.Am

structure Fr where
  tmps : List AV
  marks : List Nat
  round : Option Nat
  fn : FuncId
  deriving Inhabited

def putT (tm : List AV) (d : Option Tmp) (v : AV) : List AV :=
  match d with
  | some t => tm.set t v
  | none => tm

/-- Runs of what lies deeper. -/
structure Rec where
  code : Code → Fr → St → Option (Ex × Fr × St)
  call : FuncId → List AV → St → Option (AV × St)

/-! ### Calls -/
def unmark (S : St) : List Nat → Option St
  | [] => some S
  | m :: ms => match S.get m with
    | some .dfr => (S.putO m .dead).bind fun S' => unmark S' ms
    | _ => none

def aresults (c : Cfg) (S : St) (tm : List AV) : List ResultVar → Option (List AV)
  | [] => some []
  | .tmp t :: rs => (aresults c S tm rs).map fun l => tm.getD t .undef :: l
  | .cell a t :: rs => (c.ty t).bind fun i => (S.load i (tm.getD a .undef)).bind fun v => (aresults c S tm rs).map fun l => v :: l

def one : List AV → AV
  | [v] => v
  | l => .tup l

/-- A function's body, from its first operation to its results. -/
def callS (c : Cfg) (R : Rec) (f : FuncId) (args : List AV) (S : St) : Option (AV × St) :=
  (c.fn f).bind fun fn => fn.body.bind fun b =>
  (R.code b ⟨args ++ List.replicate (fn.ntmps - args.length) .undef, [], none, f⟩ S).bind fun r =>
  if r.1 = .nrm ∨ r.1 = .ret then
    (unmark r.2.2 r.2.1.marks).bind fun S2 => (aresults c S2 r.2.1.tmps fn.results.toList).map fun l => (one l, S2)
  else none

/-- A call, by the way in which its function is called. -/
def callM (c : Cfg) (R : Rec) (f : FuncId) (args : List AV) (S : St) : Option (AV × St) :=
  match c.mode f with
  | .raw => R.call f args S
  | .pure => (frzLA S args).bind fun a => (R.call f a.1 St.nil).bind fun r => (frz r.2 r.1).bind fun v => (S.lockAll a.2).map fun S' => (v.1, S')
  | .temp => (R.call f args { S with base := S.n }).bind fun r => (frz r.2 r.1).bind fun v => (S.lockAll (v.2.filter fun q => q.1 < S.n)).map fun S' => (v.1, S')

/-- A call. What is taken as given and makes an object may leave open some arguments: there its body is run. -/
def callF (c : Cfg) (R : Rec) (f : FuncId) (args : List AV) (S : St) : Option (AV × St) :=
  match c.ext f with
  | some (.val F) => (XT.val F).run args S
  | some (.push F) => (match (XT.push F).run args S with | some r => some r | none => callM c R f args S)
  | none => callM c R f args S

/-- A round of a loop over a function. -/
def yieldS (R : Rec) (l : Nat) (args : List AV) (S : St) : Option (AV × St) :=
  match S.get l with
  | some (.loop .ready _ fn tmps ps asg body _) =>
    if args.length = ps.length then
      (R.code asg ⟨(ps.zip args).foldl (fun t pa => t.set pa.1 pa.2) tmps, [], some l, fn⟩ S).bind fun r =>
      if r.1 = .nrm then
        match r.2.2.get l with
        | some (.loop .ready p fn' tmps' ps' asg' body' d') =>
          (r.2.2.putO l (.loop .busy p fn' tmps' ps' asg' body' d')).bind fun Sb =>
          (R.code body r.2.1 Sb).bind fun q =>
          match q.2.2.get l with
          | some (.loop _ _ fn'' tmps'' ps'' asg'' body'' d'') =>
            (q.2.2.putO l (.loop (if q.1 = .nrm then .ready else .done) q.1 fn'' tmps'' ps'' asg'' body'' d'')).map fun Se => (.bool (q.1 = .nrm), Se)
          | _ => none
        | _ => none
      else none
    else none
  | _ => none

def callV (c : Cfg) (R : Rec) (f : AV) (args : List AV) (S : St) : Option (AV × St) :=
  match f with
  | .fn f first cap => callF c R f (first ++ args ++ cap) S
  | .yield l => yieldS R l args S
  | _ => none

/-! ### Operations -/
def evalP (tm : List AV) : List (Nat × Operand) → Option (List (Nat × AV))
  | [] => some []
  | (i, x) :: xs => (evalT tm x).bind fun a => (evalP tm xs).map fun b => (i, a) :: b

def kindOf (c : Cfg) (t : TypeId) : TK := match c.ty t with | some i => i.kind | none => .other

def chunk (es : Nat) : Nat → List AV → Rows
  | 0, _ => []
  | n + 1, cs => cs.take es :: chunk es n (cs.drop es)

def alen (c : Cfg) (S : St) (t : TypeId) (x : AV) : Option AV :=
  match kindOf c t, x with
  | .str, .str s => some (.int .i64 s.length)
  | .array n _, _ => some (.int .i64 n)
  | .slice _, .nils => some (.int .i64 0)
  | .slice _, .emp => some (.int .i64 0)
  | .slice _, .vec r => some (.int .i64 r.length)
  | .slice _, .lit r => some (.int .i64 r.length)
  | .slice _, .own r _ _ => some (.int .i64 r.length)
  | .slice _, .sref _ _ _ n => some (.int .i64 n)
  | .map _ _, .nilm => some (.int .i64 0)
  | .map _ _, .map o => (match S.get o with | some (.map es _) => some (.int .i64 es.length) | _ => none)
  | _, _ => none

def amax : List AV → Option AV
  | [.int k a, .int k' b] => if k = k' then some (.int k (if b > a then b else a)) else none
  | _ => none
def amin : List AV → Option AV
  | [.int k a, .int k' b] => if k = k' then some (.int k (if b < a then b else a)) else none
  | _ => none

def aindexAddr (c : Cfg) (S : St) (t : TypeId) (x i : AV) : Option AV :=
  (asIdx i).bind fun n =>
  match kindOf c t with
  | .array len e => (c.ty e).bind fun ei => if 0 ≤ n ∧ n < len then addOff x (n.toNat * ei.size) else none
  | .slice e => (c.ty e).bind fun ei => if 0 ≤ n then (match x with
      | .sref o g off len => (match S.get o with
          | some (.seq g' es _ _) => if n < len ∧ es = ei.size ∧ g = g' then some (.eptr o g (off + n.toNat) 0) else none
          | _ => none)
      | x => (S.rowsOf x).bind fun rows => (rows[n.toNat]?).bind fun r => if r.length = ei.size then some (.iptr r 0) else none) else none
  | _ => none

def aindex (c : Cfg) (t : TypeId) (x i : AV) : Option AV :=
  (asIdx i).bind fun n =>
  match kindOf c t, x with
  | .array len e, .agg cs => (c.ty e).bind fun ei => if 0 ≤ n ∧ n < len then apart ei cs (n.toNat * ei.size) else none
  | .str, .str s => if 0 ≤ n then (s[n.toNat]?).map fun b => .int .u8 b.toNat else none
  | _, _ => none

def alookup (c : Cfg) (S : St) (t : TypeId) (x k : AV) (ok : Bool) : Option AV :=
  match kindOf c t with
  | .map kt et =>
    if keyFits c kt k then
      (match x with
        | .nilm => some []
        | .map o => (match S.get o with | some (.map es _) => some es | _ => none)
        | _ => none).bind fun es =>
      (findKey k es 0).bind fun r =>
      (match r with | some (_, v) => some (v, true) | none => (zeroOf c et).map fun z => (z, false)).map fun (v, b) =>
        if ok then .tup [v, .bool b] else v
    else none
  | _ => none

def isNili : AV → Bool
  | .nili => true
  | _ => false
def isConst : Operand → Bool
  | .const _ => true
  | _ => false

/-- What an operation that turns no memory of ours yields. -/
def aval (c : Cfg) (tm : List AV) (o : Oper) (S : St) : Option AV :=
  match o.op with
  | .move x | .assign x => evalT tm x
  | .pick x a b => (match evalT tm x with | some (.bool t) => evalT tm (if t then a else b) | _ => none)
  | .build t parts => (evalP tm parts.toList).bind (abuild c t)
  | .buildSlice t len parts =>
    (match kindOf c t with
      | .slice e => (c.ty e).bind fun ei => if len * ei.size ≤ 16777216 then
          (if len * ei.size = 0 then some [] else ei.zero).bind fun z => (evalP tm parts.toList).bind fun ps =>
          if z.length = ei.size ∨ len = 0 then (fillR ei.size (List.replicate len z) ps).map .lit else none
        else none
      | _ => none)
  | .load t a => (c.ty t).bind fun i => (evalT tm a).bind (S.load i)
  | .nilCheck x => (evalT tm x).bind fun v => (match v with | .ptr _ _ | .eptr _ _ _ _ | .iptr _ _ | .fn _ _ _ => some v | _ => none)
  | .binOp op t x y _ => (evalT tm x).bind fun a => (evalT tm y).bind fun b => if isNili a && isNili b && !(isConst x || isConst y) then none else abin c op t a b
  | .unOp op _ x => (evalT tm x).bind (aun op)
  | .convert s d x => (evalT tm x).bind (aconv c s d)
  | .makeFunc (.func f) first cap => (evalL tm first.toList).bind fun a => (evalL tm cap.toList).map fun b => .fn f a b
  | .slice t x lo hi none => (evalT tm x).bind fun v => (evalO tm lo).bind fun l => (evalO tm hi).bind fun h =>
      (match kindOf c t, v with | .str, .str s => asliceS s l h | .slice e, v => (c.ty e).bind fun ei => asliceV S ei.size v l h | _, _ => none)
  | .fieldAddr s x f => (match kindOf c s with
      | .struct fs => (fs[f]?).bind fun q => (c.ty q.1).bind fun fi => if fi.size = 0 then none else (evalT tm x).bind fun v => addOff v q.2
      | _ => none)
  | .field t x f => (match kindOf c t with
      | .struct fs => (fs[f]?).bind fun q => (c.ty q.1).bind fun fi => (match evalT tm x with | some (.agg cs) => apart fi cs q.2 | _ => none)
      | _ => none)
  | .indexAddr t x i => (evalT tm x).bind fun a => (evalT tm i).bind fun b => aindexAddr c S t a b
  | .index t x i => (evalT tm x).bind fun a => (evalT tm i).bind fun b => aindex c t a b
  | .lookup t x i ok => (evalT tm x).bind fun a => (evalT tm i).bind fun b => alookup c S t a b ok
  | .extract x i => (match evalT tm x with | some (.tup vs) => vs[i]? | _ => none)
  | .call { callee := .builtin .len, args, argTypes } =>
      (match args.toList, argTypes.toList with | [x], [t] => (evalT tm x).bind (alen c S t) | _, _ => none)
  | .call { callee := .builtin .max, args, .. } => (evalL tm args.toList).bind amax
  | .call { callee := .builtin .min, args, .. } => (evalL tm args.toList).bind amin
  | _ => none

def amapUpdate (c : Cfg) (S : St) (t : TypeId) (m k v : AV) : Option St :=
  match kindOf c t, m with
  | .map kt _, .map o =>
    if keyFits c kt k then
      match S.get o with
      | some (.map es clock) =>
        (findKey k es 0).bind fun r => match r with
            | some (i, _) => S.putO o (.map (es.modify i fun e => (k, v, e.2.2)) clock)
            | none => S.putO o (.map (es ++ [(k, v, clock)]) (clock + 1))
      | _ => none
    else none
  | _, _ => none

def amapEntry (c : Cfg) (S : St) (t : TypeId) (m k : AV) : Option (AV × St) :=
  match kindOf c t, m with
  | .map kt et, .map o =>
    if keyFits c kt k then
      match S.get o with
      | some (.map es clock) =>
        (findKey k es 0).bind fun r => match r with
          | some (i, v) => (es[i]?).map fun e => (.tup [v, .int .i64 e.2.2], S)
          | none => (zeroOf c et).bind fun z => (S.putO o (.map (es ++ [(k, z, clock)]) (clock + 1))).map fun S' => (.tup [z, .int .i64 clock], S')
      | _ => none
    else none
  | _, _ => none

def setBorn (v : AV) (b : Nat) : List (AV × AV × Nat) → Option (List (AV × AV × Nat))
  | [] => none
  | e :: es => if e.2.2 = b then some ((e.1, v, b) :: es) else (setBorn v b es).map fun r => e :: r

def aentryStore (S : St) (m s v : AV) : Option St :=
  match m, s with
  | .map o, .int _ b =>
    match S.get o with
    | some (.map es clock) => if 0 ≤ b then (setBorn v b.toNat es).bind fun es' => S.putO o (.map es' clock) else none
    | _ => none
  | _, _ => none

def eraseAt : Nat → List (AV × AV × Nat) → List (AV × AV × Nat)
  | _, [] => []
  | 0, _ :: es => es
  | n + 1, e :: es => e :: eraseAt n es

def adelete (c : Cfg) (S : St) (t : TypeId) (m k : AV) : Option St :=
  match kindOf c t, m with
  | .map kt _, .map o =>
    if keyFits c kt k then
      match S.get o with
      | some (.map es clock) => (findKey k es 0).bind fun r => match r with
          | some (i, _) => S.putO o (.map (eraseAt i es) clock)
          | none => some S
      | _ => none
    else none
  | _, _ => none

/-- The rows that append takes its second operand for. -/
def appRows (S : St) : AV → Option Rows
  | .str s => some (s.map fun b => [.int .u8 b.toNat])
  | v => S.rowsOf v

/-- What an operation that makes or turns memory does. -/
def aeff (c : Cfg) (R : Rec) (fid rid : Nat) (tm : List AV) (o : Oper) (S : St) : Option (AV × St) :=
  match o.op with
  | .alloc e => (c.ty e).bind fun i => i.zero.map fun z => (.ptr S.n 0, S.push (.row z false))
  | .box _ x => (evalT tm x).bind fun v => if leafC v then some (.ptr S.n 0, S.push (.row v.cells false)) else none
  | .store t a x => (c.ty t).bind fun i => (evalT tm a).bind fun p => (evalT tm x).bind fun v => (S.store i p v).map fun S' => (.undef, S')
  | .makeSlice t l cp =>
    (match kindOf c t with
      | .slice e => (c.ty e).bind fun ei => ei.zero.bind fun z => (evalT tm l).bind fun lv => (evalT tm cp).bind fun cv =>
        (match lv, cv with
          | .int _ n, .int _ m => if 0 ≤ n ∧ n ≤ m ∧ m ≤ 281474976710656 ∧ ei.bytes * m ≤ 281474976710656 ∧ z.length = ei.size ∧ 0 < ei.size then
              some (.sref S.n 0 0 n.toNat, S.push (.seq 0 ei.size (List.replicate n.toNat z) 0)) else none
          | _, _ => none)
      | _ => none)
  | .slice t x lo hi none =>
    (match kindOf c t with
      | .array n e => (c.ty e).bind fun ei => (evalT tm x).bind fun v => (evalO tm lo).bind fun l => (evalO tm hi).bind fun h =>
        (match v with
          | .ptr ob off => (match S.get ob with
              | some (.row cs _) => (bnd h n n).bind fun h' => (bnd l 0 h').bind fun l' =>
                  if off + n * ei.size ≤ cs.length ∧ 0 < ei.size then
                    (S.putO ob (.row cs true)).map fun S' => (.vec (chunk ei.size (h' - l') (cs.drop (off + l' * ei.size))), S') else none
              | _ => none)
          | _ => none)
      | _ => none)
  | .call { callee := .builtin .append, args, argTypes } =>
      (match args.toList, argTypes.toList with
        | [x, y], [t, u] => (match kindOf c t, ((c.ty u).map (·.kind) : Option TK) with
            | .slice _, some (.int _) => none
            | .slice _, none => none
            | .slice e, _ => (c.ty e).bind fun ei => (evalT tm x).bind fun a => (evalT tm y).bind fun b => (appRows S b).bind fun ys =>
                if 0 < ei.size ∧ ei.zero.map List.length = some ei.size then aappend ei.size ei.bytes (c.muts fid rid) a ys S else none
            | _, _ => none)
        | _, _ => none)
  | .call { callee := .value f, args, .. } => (evalT tm f).bind fun g => (evalL tm args.toList).bind fun a => callV c R g a S
  | _ => none

def aop (c : Cfg) (R : Rec) (fid rid : Nat) (tm : List AV) (o : Oper) (S : St) : Option (AV × St) :=
  match aval c tm o S with
  | some v => some (v, S)
  | none => aeff c R fid rid tm o S

/-! ### Regions -/
def ayielded (ops : Array Oper) (tm : List AV) (j : Nat) : Option Bool :=
  match (ops[j]?).bind (·.dst) with
  | some d => (match tm.getD d .undef with | .bool b => some b | _ => none)
  | none => none

def awanted (ops : Array Oper) (tm : List AV) (o : Oper) : Bool :=
  match o.guard with
  | none => true
  | some (j, want) => ayielded ops tm j == some want

def runOps (c : Cfg) (R : Rec) (fid rid : Nat) (ops : Array Oper) : List Oper → List AV → St → Option (List AV × St)
  | [], tm, S => some (tm, S)
  | o :: l, tm, S =>
    if awanted ops tm o then (aop c R fid rid tm o S).bind fun r => runOps c R fid rid ops l (putT tm o.dst r.1) r.2
    else runOps c R fid rid ops l (putT tm o.dst .undef) S

/-! ### Regions whose order is open -/
/-- Objects: all, or some. -/
inductive Ft where
  | all
  | ids (l : List Nat)

def Ft.apart : Ft → Ft → Bool
  | .ids a, .ids b => a.all fun x => !b.contains x
  | .ids [], .all => true
  | .all, .ids [] => true
  | _, _ => false

/-- What an operation looks at (or turns), what it turns, and whether it makes objects. -/
structure Foot where
  F : Ft
  T : Ft
  N : Bool

def Foot.none : Foot := ⟨.ids [], .ids [], false⟩
def Foot.big : Foot := ⟨.all, .all, true⟩
def Foot.apart (x y : Foot) : Bool := y.T.apart x.F && x.T.apart y.F && !(x.N && y.N)

def refs : AV → List Nat
  | .ptr o _ => [o]
  | .eptr o _ _ _ => [o]
  | .sref o _ _ _ => [o]
  | .map o => [o]
  | .own _ o _ => [o]
  | _ => []

def refsO (tm : List AV) (x : Operand) : List Nat :=
  match evalT tm x with
  | some v => refs v
  | none => []

/-- The objects that 'aval' looks at. -/
def rfoot (tm : List AV) (o : Oper) : List Nat :=
  match o.op with
  | .load _ a => refsO tm a
  | .slice _ x _ _ _ => refsO tm x
  | .indexAddr _ x _ => refsO tm x
  | .lookup _ x _ _ => refsO tm x
  | .call { callee := .builtin .len, args, .. } => args.toList.flatMap (refsO tm)
  | _ => []

/-- The footprint of an operation that makes or turns memory. -/
def wfoot (c : Cfg) (tm : List AV) (o : Oper) (S : St) : Foot :=
  match o.op with
  | .alloc _ | .box .. | .makeSlice .. => ⟨.ids [S.n], .ids [S.n], true⟩
  | .store _ a _ => ⟨.ids (refsO tm a), .ids (refsO tm a), false⟩
  | .slice _ x _ _ _ => ⟨.ids (refsO tm x), .ids (refsO tm x), false⟩
  | .call { callee := .builtin .append, args, .. } =>
    (match args.toList with
      | [x, y] => (match evalT tm x with
          | some (.own _ o _) => ⟨.ids (o :: refsO tm y), .ids [o], false⟩
          | some (.sref o _ _ _) => ⟨.ids (o :: refsO tm y), .ids [o], false⟩
          | some .nils => ⟨.ids (S.n :: refsO tm y), .ids [S.n], true⟩
          | some (.lit _) => ⟨.ids (S.n :: refsO tm y), .ids [S.n], true⟩
          | _ => .big)
      | _ => .big)
  | _ => .big

/-- A call on plain data alone, of a function whose value is all that comes of it. -/
def calm (c : Cfg) (R : Rec) (tm : List AV) (o : Oper) : Option AV :=
  match o.op with
  | .call { callee := .value (.func f), args, .. } =>
    (match c.ext f with
      | some (.val F) => (evalL tm args.toList).bind F
      | some _ => none
      | none => (match c.mode f with
          | .pure => (evalL tm args.toList).bind fun a => (frzLA St.nil a).bind fun q =>
              if q.2.length = 0 then (R.call f q.1 St.nil).bind fun r => (frz r.2 r.1).map fun v => v.1 else none
          | _ => none))
  | _ => none

/-- Whether a call looks at no memory: it is 'calm', or it is none. -/
def calmable (c : Cfg) (tm : List AV) (o : Oper) : Bool :=
  match o.op with
  | .call { callee := .value (.func f), args, .. } =>
    (match c.ext f with
      | some (.val _) => true
      | some _ => false
      | none => (match c.mode f with
          | .pure => (match (evalL tm args.toList).bind (frzLA St.nil) with
              | some q => decide (q.2.length = 0)
              | none => false)
          | _ => false))
  | _ => false

def opD (c : Cfg) (R : Rec) (fid rid : Nat) (tm : List AV) (o : Oper) (S : St) : Option (AV × St × Foot) :=
  match aval c tm o S with
  | some v => some (v, S, ⟨.ids (rfoot tm o), .ids [], false⟩)
  | none =>
    if calmable c tm o then (calm c R tm o).map fun v => (v, S, .none)
    else (aeff c R fid rid tm o S).map fun r => (r.1, r.2, wfoot c tm o S)

def runOpsD (c : Cfg) (R : Rec) (fid rid : Nat) (ops : Array Oper) : List Oper → List AV → St → Option (List AV × St × List Foot)
  | [], tm, S => some (tm, S, [])
  | o :: l, tm, S =>
    if awanted ops tm o then
      (opD c R fid rid tm o S).bind fun r => (runOpsD c R fid rid ops l (putT tm o.dst r.1) r.2.1).map fun q => (q.1, q.2.1, r.2.2 :: q.2.2)
    else (runOpsD c R fid rid ops l (putT tm o.dst .undef) S).map fun q => (q.1, q.2.1, .none :: q.2.2)

def edgesAny (o : Oper) : List Nat := (o.after.toList.filter (Region.binds .any)).map (·.on)

/-- What is ahead of each operation in every order. -/
def ancs : List Oper → List (List Nat) → List (List Nat)
  | [], acc => acc
  | o :: l, acc => ancs l (acc ++ [((edgesAny o).flatMap fun e => e :: acc.getD e []).eraseDups])

def ahead (ops : Array Oper) : List (List Nat) := ancs ops.toList []

def tmpOf : Operand → Option Tmp
  | .tmp t => some t
  | _ => none

/-- The temporaries that an operation looks at. -/
def looks (ops : Array Oper) (o : Oper) : List Tmp :=
  o.op.operands.toList.filterMap tmpOf ++ (match o.guard with | some (k, _) => ((ops[k]?).bind (·.dst)).toList | none => [])

def tempsApart (ops : Array Oper) (x y : Oper) : Bool :=
  (match x.dst with | some d => !(looks ops y).contains d && !(y.dst == some d) | none => true) &&
  (match y.dst with | some d => !(looks ops x).contains d | none => true)

/-- In whatever order the region's edges allow: its temporaries are what they are in the order of the text. -/
def drawOk (ops : Array Oper) : Bool :=
  let p := ahead ops
  (ops.toList.zipIdx.all fun q => (edgesAny q.1).all fun e => e < q.2) &&
  (List.range ops.size).all fun j => (List.range j).all fun i => (p.getD j []).contains i ||
    (match ops[i]?, ops[j]? with | some x, some y => tempsApart ops x y | _, _ => false)

/-- .. and so is its memory. -/
def feetOk (ops : Array Oper) (l : List Foot) : Bool :=
  let p := ahead ops
  (List.range ops.size).all fun j => (List.range j).all fun i => (p.getD j []).contains i ||
    (match l[i]?, l[j]? with | some x, some y => x.apart y | _, _ => false)

def aregion (c : Cfg) (R : Rec) (fid rid : Nat) (ops : Array Oper) (draw : Bool) (tm : List AV) (S : St) : Option (List AV × St) :=
  if draw then
    (if drawOk ops then (runOpsD c R fid rid ops ops.toList tm S).bind fun q => if feetOk ops q.2.2 then some (q.1, q.2.1) else none else none)
  else runOps c R fid rid ops ops.toList tm S

/-! ### Code -/
def exitBlock (id : Nat) (r : Ex × Fr × St) : Ex × Fr × St := if r.1 = .exit id then (.nrm, r.2) else r

def rangeStart (fr : Fr) (S : St) : Option (Nat × St × List Nat) :=
  match fr.round with
  | none => some (S.n, S.push .dfr, [S.n])
  | some l => match S.get l with
    | some (.loop _ _ _ _ _ _ _ d) => some (d, S, [])
    | _ => none

def rangeEnd (l : Nat) (fr : Fr) (mk : List Nat) (S : St) : Option (Ex × Fr × St) :=
  match S.get l with
  | some (.loop st pend fn tmps ps asg body d) =>
    if st = .busy then none else (S.putO l (.loop .exhausted pend fn tmps ps asg body d)).map fun S' => (pend, { fr with marks := mk ++ fr.marks }, S')
  | _ => none

def execS (c : Cfg) (R : Rec) : Code → Fr → St → Option (Ex × Fr × St)
  | .skip, fr, S => some (.nrm, fr, S)
  | .label _, fr, S => some (.nrm, fr, S)
  | .exit id, fr, S => some (.exit id, fr, S)
  | .goto l, fr, S => some (.goto l, fr, S)
  | .ret, fr, S => some (.ret, fr, S)
  | .refuse _, _, _ => none
  | .scope _, _, _ => none
  | .region id ops draw, fr, S => (aregion c R fr.fn id ops draw fr.tmps S).map fun r => (.nrm, { fr with tmps := r.1 }, r.2)
  | .seq a b, fr, S => (execS c R a fr S).bind fun r => if r.1 = .nrm then execS c R b r.2.1 r.2.2 else some r
  | .cond x a b, fr, S =>
    match evalT fr.tmps x with
    | some (.bool true) => execS c R a fr S
    | some (.bool false) => execS c R b fr S
    | _ => none
  | .block id b, fr, S => (execS c R b fr S).map (exitBlock id)
  | .loop b, fr, S => (execS c R b fr S).bind fun r => if r.1 = .nrm then R.code (.loop b) r.2.1 r.2.2 else some r
  | .rangeFunc g ps asg body, fr, S =>
    (rangeStart fr S).bind fun q =>
    match evalT fr.tmps g with
    | some (.fn f first cap) =>
      (R.call f (first ++ [.yield q.2.1.n] ++ cap) (q.2.1.push (.loop .ready .nrm fr.fn fr.tmps ps.toList asg body q.1))).bind fun r =>
      rangeEnd q.2.1.n fr q.2.2 r.2
    | _ => none

def run (c : Cfg) : Nat → Rec
  | 0 => ⟨fun _ _ _ => none, fun _ _ _ => none⟩
  | n + 1 => ⟨execS c (run c n), callS c (run c n)⟩

end Go.Am
