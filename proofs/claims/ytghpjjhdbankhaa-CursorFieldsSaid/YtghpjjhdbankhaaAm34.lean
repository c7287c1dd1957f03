/- THE ABSTRACT MACHINE, THIRTY-FIFTH FILE: how a run is shown, step by step. -/
import Derived.Test.YtghpjjhdbankhaaAm33
set_option linter.unusedSimpArgs false
set_option linter.unusedVariables false
namespace Go.Am
variable {c : Cfg}

theorem int_beq (a b : Int) : (a == b) = decide (a = b) := by by_cases h : a = b <;> simp [h]
theorem int_bne (a b : Int) : (a != b) = decide (¬ a = b) := by by_cases h : a = b <;> simp [h]
theorem bool_beq (a b : Bool) : (a == b) = decide (a = b) := by by_cases h : a = b <;> simp [h]
theorem str_beq (a b : List UInt8) : (a == b) = decide (a = b) := by by_cases h : a = b <;> simp [h]
theorem not_dec (p : Prop) [Decidable p] : (!decide p) = decide (¬ p) := by by_cases h : p <;> simp [h]

theorem fillR_one (n : Nat) (z : List AV) (v : AV) : fillR n (List.replicate 1 z) [(0, v)] = if leafC v ∧ v.cells.length = n then some [v.cells] else none := by
  simp [fillR]
theorem fillR_none (n : Nat) (z : List AV) : fillR n (List.replicate 0 z) [] = some [] := (rfl)

theorem nbeq1 (n : Nat) : (n + 1 == n) = false := by simp
theorem nbeq2 (n : Nat) : (n == n + 1) = false := by simp
theorem nbeq3 (n : Nat) : (n + 1 + 1 == n) = false := by simp; omega
theorem nbeq4 (n : Nat) : (n == n + 1 + 1) = false := by simp; omega
theorem ne1 (n : Nat) : (n + 1 = n) = False := by simp
theorem ne2 (n : Nat) : (n = n + 1) = False := by simp
theorem ne3 (n : Nat) : (n + 1 + 1 = n) = False := by simp; omega
theorem ne4 (n : Nat) : (n = n + 1 + 1) = False := by simp; omega
theorem ne5 (n : Nat) : (n + 1 + 1 + 1 = n) = False := by simp; omega
theorem ne6 (n : Nat) : (n = n + 1 + 1 + 1) = False := by simp; omega
theorem nle1 (n : Nat) : (n + 1 ≤ n) = False := by simp
theorem nle2 (n : Nat) : (n + 1 + 1 ≤ n) = False := by simp; try omega

/-! ### Temporaries -/
def tget (tm : List AV) (i : Nat) : AV := tm.getD i .undef
def tput (tm : List AV) (i : Nat) (v : AV) : List AV := tm.set i v
theorem tput_len (tm : List AV) (i : Nat) (v : AV) : (tput tm i v).length = tm.length := by simp [tput]
theorem tget_eq {tm : List AV} {i : Nat} {v : AV} (h : i < tm.length) : tget (tput tm i v) i = v := by simp [tget, tput, List.getD, h]
theorem tget_ne {tm : List AV} {i j : Nat} {v : AV} (h : i ≠ j) : tget (tput tm i v) j = tget tm j := by simp [tget, tput, List.getD, List.getElem?_set_ne h]
theorem tget_cons0 (a : AV) (l : List AV) : tget (a :: l) 0 = a := (rfl)
theorem tget_consS (a : AV) (l : List AV) (i : Nat) : tget (a :: l) (i + 1) = tget l i := by simp [tget]
theorem evalT_tmp (tm : List AV) (t : Tmp) : evalT tm (.tmp t) = some (tget tm t) := (rfl)
theorem evalT_func (tm : List AV) (f : FuncId) : evalT tm (.func f) = some (.fn f [] []) := (rfl)
theorem evalT_int (tm : List AV) (k : IntKind) (n : Int) : evalT tm (.const (.int k n)) = some (.int k n) := (rfl)
theorem evalT_bool (tm : List AV) (b : Bool) : evalT tm (.const (.bool b)) = some (.bool b) := (rfl)
theorem evalT_str (tm : List AV) (s : ByteArray) : evalT tm (.const (.string s)) = some (.str s.data.toList) := (rfl)
theorem evalT_nils (tm : List AV) : evalT tm (.const (.slice none 0 0)) = some .nils := (rfl)
theorem evalT_nilm (tm : List AV) : evalT tm (.const (.map none)) = some .nilm := (rfl)
theorem evalT_nilf (tm : List AV) : evalT tm (.const .nilFunc) = some .nilf := (rfl)
theorem evalT_nilp (tm : List AV) : evalT tm (.const (.pointer none)) = some .nilp := (rfl)
theorem evalT_nili (tm : List AV) : evalT tm (.const .nilIface) = some .nili := (rfl)
theorem evalT_agg (tm : List AV) (cs : Array Value) : evalT tm (.const (.agg cs)) = (constL cs.toList).map .agg := (rfl)
theorem putT_some (tm : List AV) (t : Tmp) (v : AV) : putT tm (some t) v = tput tm t v := (rfl)
theorem putT_none (tm : List AV) (v : AV) : putT tm none v = tm := (rfl)
theorem getD_tget (tm : List AV) (i : Nat) : tm.getD i .undef = tget tm i := (rfl)

/-! ### Memory -/
def St.ok (S : St) : Prop := S.h.length = S.n
theorem St.ok_nil : St.nil.ok := (rfl)
theorem St.ok_push {S : St} {o : AObj} (h : S.ok) : (S.push o).ok := by simpa [St.ok, St.push] using h
theorem St.ok_set {S : St} {i : Nat} {o : AObj} (h : S.ok) : (S.set i o).ok := by simpa [St.ok, St.set] using h
theorem St.get_ge {S : St} {i : Nat} (h : S.n ≤ i) : S.get i = none := by unfold St.get; rw [if_neg (by omega)]
theorem St.get_pushe {S : St} {o : AObj} : (S.push o).get S.n = some o := St.get_push_new S o
theorem St.get_pushn {S : St} {o : AObj} {i : Nat} (h : i ≠ S.n) : (S.push o).get i = S.get i := by
  rcases Nat.lt_or_ge i S.n with hi | hi
  · exact St.get_push_old o hi
  · rw [St.get_ge (by show S.n + 1 ≤ i; omega), St.get_ge hi]
theorem St.get_push_if {S : St} {o : AObj} {i : Nat} : (S.push o).get i = if i = S.n then some o else S.get i := by
  split
  · rename_i h; subst h; exact St.get_pushe
  · rename_i h; exact St.get_pushn h
theorem St.get_set_if {S : St} {o : AObj} {i j : Nat} (h : S.ok) (k : i < S.n) : (S.set i o).get j = if j = i then some o else S.get j := by
  split
  · rename_i h'; subst h'; exact St.get_set_same h o k
  · rename_i h'; exact St.get_set_other o k h'
theorem St.get_pushq {S : St} {o : AObj} {i : Nat} (h : i = S.n) : (S.push o).get i = some o := by subst h; exact St.get_pushe
theorem St.nil_n : St.nil.n = 0 := by rw [show St.nil = ⟨[], 0, 0⟩ from rfl]
theorem St.nil_base : St.nil.base = 0 := by rw [show St.nil = ⟨[], 0, 0⟩ from rfl]
theorem St.pushN (S : St) (o : AObj) : (S.push o).n = S.n + 1 := by cases S; rfl
theorem St.setN (S : St) (i : Nat) (o : AObj) : (S.set i o).n = S.n := by cases S; rfl
theorem St.pushB (S : St) (o : AObj) : (S.push o).base = S.base := by cases S; rfl
theorem St.setB (S : St) (i : Nat) (o : AObj) : (S.set i o).base = S.base := by cases S; rfl
theorem St.get_sete {S : St} {o : AObj} {i : Nat} (h : S.ok) (k : i < S.n) : (S.set i o).get i = some o := St.get_set_same h o k
theorem St.get_setn {S : St} {o : AObj} {i j : Nat} (k : i < S.n) (h : j ≠ i) : (S.set i o).get j = S.get j := St.get_set_other o k h
theorem St.putO_base {S : St} {i : Nat} {o : AObj} (h : S.base ≤ i) : S.putO i o = some (S.set i o) := by simp [St.putO, h]
theorem St.nil_push (o : AObj) : St.nil.push o = ⟨[o], 1, 0⟩ := (rfl)
theorem St.mk_push (h : List AObj) (n b : Nat) (o : AObj) : (St.mk h n b).push o = ⟨o :: h, n + 1, b⟩ := (rfl)

/-! ### Regions in the order of the text -/
def WO (x : Option (List AV × St)) (K : List AV → St → Prop) : Prop := ∃ tm S, x = some (tm, S) ∧ K tm S

structure RI where
  fid : Nat
  rid : Nat
  ops : Array Oper

def RO (c : Cfg) (q : RI) (l : List Oper) (tm : List AV) (S : St) (K : List AV → St → Prop) : Prop := WO (runOps c (lim c) q.fid q.rid q.ops l tm S) K

def defTS : AV × St := (.undef, St.nil)

theorem WO_some (tm : List AV) (S : St) (K : List AV → St → Prop) : WO (some (tm, S)) K = K tm S := by
  apply propext
  constructor
  · rintro ⟨a, b, h, k⟩
    simp only [Option.some.injEq, Prod.mk.injEq] at h
    obtain ⟨rfl, rfl⟩ := h
    exact k
  · exact fun k => ⟨_, _, rfl, k⟩

theorem RO_nil (q : RI) (tm : List AV) (S : St) (K : List AV → St → Prop) : RO c q [] tm S K = K tm S := by
  simp [RO, WO_some, runOps]

theorem RO_guard (q : RI) (d : Option Tmp) (op : Op) (ty : TypeId) (p : String) (a : Array Edge) (j : Nat) (w : Bool) (l : List Oper) (tm : List AV) (S : St) (K : List AV → St → Prop) :
    RO c q (⟨d, op, ty, p, a, some (j, w)⟩ :: l) tm S K = if ayielded q.ops tm j = some w then RO c q (⟨d, op, ty, p, a, none⟩ :: l) tm S K else RO c q l (putT tm d .undef) S K := by
  unfold RO
  by_cases h : ayielded q.ops tm j = some w
  · rw [if_pos h]
    have hw : awanted q.ops tm ⟨d, op, ty, p, a, some (j, w)⟩ = true := by simp [awanted, h]
    have hw' : awanted q.ops tm ⟨d, op, ty, p, a, none⟩ = true := (rfl)
    simp only [runOps, hw, hw', if_true]
    rfl
  · rw [if_neg h]
    have hw : awanted q.ops tm ⟨d, op, ty, p, a, some (j, w)⟩ = false := by simpa [awanted] using h
    simp only [runOps, hw]
    rfl

def ROk (c : Cfg) (q : RI) (d : Option Tmp) (l : List Oper) (tm : List AV) (K : List AV → St → Prop) (x : Option (AV × St)) : Prop := ∃ v S, x = some (v, S) ∧ RO c q l (putT tm d v) S K
theorem ROk_some (q : RI) (d : Option Tmp) (l : List Oper) (tm : List AV) (S : St) (v : AV) (K : List AV → St → Prop) : ROk c q d l tm K (some (v, S)) = RO c q l (putT tm d v) S K := by
  unfold ROk
  apply propext
  constructor
  · rintro ⟨v', S', h, k⟩
    simp only [Option.some.injEq, Prod.mk.injEq] at h
    obtain ⟨rfl, rfl⟩ := h
    exact k
  · exact fun k => ⟨_, _, rfl, k⟩
theorem RO_step (q : RI) (d : Option Tmp) (op : Op) (ty : TypeId) (p : String) (a : Array Edge) (l : List Oper) (tm : List AV) (S : St) (K : List AV → St → Prop) :
    RO c q (⟨d, op, ty, p, a, none⟩ :: l) tm S K = ROk c q d l tm K (aop c (lim c) q.fid q.rid tm ⟨d, op, ty, p, a, none⟩ S) := by
  have hw' : awanted q.ops tm ⟨d, op, ty, p, a, none⟩ = true := (rfl)
  cases ho : aop c (lim c) q.fid q.rid tm ⟨d, op, ty, p, a, none⟩ S with
  | none =>
    unfold RO ROk
    simp [runOps, hw', ho, WO]
  | some v =>
    obtain ⟨v, S1⟩ := v
    rw [ROk_some]
    unfold RO
    simp only [runOps, hw', if_true, ho, Option.bind_some]

/-! ### Operations -/
section
variable {R : Rec} {f r : Nat} {tm : List AV} {d : Option Tmp} {ty : TypeId} {p : String} {a : Array Edge} {g : Option (Nat × Bool)} {S : St}

theorem aop_of_aval {o : Oper} {v : AV} (h : aval c tm o S = some v) : aop c R f r tm o S = some (v, S) := by simp [aop, h]
theorem aop_of_none {o : Oper} (h : aval c tm o S = none) : aop c R f r tm o S = aeff c R f r tm o S := by simp [aop, h]

theorem aval_move {x : Operand} : aval c tm ⟨d, .move x, ty, p, a, g⟩ S = evalT tm x := (rfl)
theorem aval_assign {x : Operand} : aval c tm ⟨d, .assign x, ty, p, a, g⟩ S = evalT tm x := (rfl)
theorem aval_pick {x u v : Operand} : aval c tm ⟨d, .pick x u v, ty, p, a, g⟩ S = (match evalT tm x with | some (.bool t) => evalT tm (if t then u else v) | _ => none) := (rfl)
theorem aval_build {t : TypeId} {ps : Array (Nat × Operand)} : aval c tm ⟨d, .build t ps, ty, p, a, g⟩ S = (evalP tm ps.toList).bind (abuild c t) := (rfl)
theorem aval_load {t : TypeId} {x : Operand} : aval c tm ⟨d, .load t x, ty, p, a, g⟩ S = (c.ty t).bind fun i => (evalT tm x).bind (S.load i) := (rfl)
theorem aval_nilCheck {x : Operand} : aval c tm ⟨d, .nilCheck x, ty, p, a, g⟩ S = (evalT tm x).bind fun v => (match v with | .ptr _ _ | .eptr _ _ _ _ | .iptr _ _ | .fn _ _ _ => some v | _ => none) := (rfl)
theorem aval_binOp {op : BinOp} {t e : TypeId} {x y : Operand} : aval c tm ⟨d, .binOp op t x y e, ty, p, a, g⟩ S = (evalT tm x).bind fun u => (evalT tm y).bind fun v => if isNili u && isNili v && !(isConst x || isConst y) then none else abin c op t u v := (rfl)
theorem aval_unOp {op : UnOp} {t : TypeId} {x : Operand} : aval c tm ⟨d, .unOp op t x, ty, p, a, g⟩ S = (evalT tm x).bind (aun op) := (rfl)
theorem aval_convert {s t : TypeId} {x : Operand} : aval c tm ⟨d, .convert s t x, ty, p, a, g⟩ S = (evalT tm x).bind (aconv c s t) := (rfl)
theorem aval_makeFunc {fn : FuncId} {u v : Array Operand} : aval c tm ⟨d, .makeFunc (.func fn) u v, ty, p, a, g⟩ S = (evalL tm u.toList).bind fun l => (evalL tm v.toList).map fun m => .fn fn l m := (rfl)
theorem aval_fieldAddr {t : TypeId} {x : Operand} {i : Nat} : aval c tm ⟨d, .fieldAddr t x i, ty, p, a, g⟩ S = (match kindOf c t with
      | .struct fs => (fs[i]?).bind fun q => (c.ty q.1).bind fun fi => if fi.size = 0 then none else (evalT tm x).bind fun v => addOff v q.2
      | _ => none) := (rfl)
theorem aval_field {t : TypeId} {x : Operand} {i : Nat} : aval c tm ⟨d, .field t x i, ty, p, a, g⟩ S = (match kindOf c t with
      | .struct fs => (fs[i]?).bind fun q => (c.ty q.1).bind fun fi => (match evalT tm x with | some (.agg cs) => apart fi cs q.2 | _ => none)
      | _ => none) := (rfl)
theorem aval_indexAddr {t : TypeId} {x i : Operand} : aval c tm ⟨d, .indexAddr t x i, ty, p, a, g⟩ S = (evalT tm x).bind fun u => (evalT tm i).bind fun v => aindexAddr c S t u v := (rfl)
theorem aval_index {t : TypeId} {x i : Operand} : aval c tm ⟨d, .index t x i, ty, p, a, g⟩ S = (evalT tm x).bind fun u => (evalT tm i).bind fun v => aindex c t u v := (rfl)
theorem aval_lookup {t : TypeId} {x i : Operand} {ok : Bool} : aval c tm ⟨d, .lookup t x i ok, ty, p, a, g⟩ S = (evalT tm x).bind fun u => (evalT tm i).bind fun v => alookup c S t u v ok := (rfl)
theorem aval_extract {x : Operand} {i : Nat} : aval c tm ⟨d, .extract x i, ty, p, a, g⟩ S = (match evalT tm x with | some (.tup vs) => vs[i]? | _ => none) := (rfl)
theorem aval_len {x : Operand} {t : TypeId} : aval c tm ⟨d, .call { callee := .builtin .len, args := #[x], argTypes := #[t] }, ty, p, a, g⟩ S = (evalT tm x).bind (alen c S t) := (rfl)
theorem aval_max {x : Array Operand} {t : Array TypeId} : aval c tm ⟨d, .call { callee := .builtin .max, args := x, argTypes := t }, ty, p, a, g⟩ S = (evalL tm x.toList).bind amax := (rfl)
theorem aval_min {x : Array Operand} {t : Array TypeId} : aval c tm ⟨d, .call { callee := .builtin .min, args := x, argTypes := t }, ty, p, a, g⟩ S = (evalL tm x.toList).bind amin := (rfl)
theorem aval_buildSlice {t : TypeId} {n : Nat} {ps : Array (Nat × Operand)} : aval c tm ⟨d, .buildSlice t n ps, ty, p, a, g⟩ S = (match kindOf c t with
      | .slice e => (c.ty e).bind fun ei => if n * ei.size ≤ 16777216 then
          (if n * ei.size = 0 then some [] else ei.zero).bind fun z => (evalP tm ps.toList).bind fun qs =>
          if z.length = ei.size ∨ n = 0 then (fillR ei.size (List.replicate n z) qs).map .lit else none
        else none
      | _ => none) := (rfl)
theorem aval_slice {t : TypeId} {x : Operand} {lo hi : Option Operand} : aval c tm ⟨d, .slice t x lo hi none, ty, p, a, g⟩ S = (evalT tm x).bind fun v => (evalO tm lo).bind fun l => (evalO tm hi).bind fun h =>
      (match kindOf c t, v with | .str, .str s => asliceS s l h | .slice e, v => (c.ty e).bind fun ei => asliceV S ei.size v l h | _, _ => none) := (rfl)

theorem aval_alloc {t : TypeId} : aval c tm ⟨d, .alloc t, ty, p, a, g⟩ S = none := (rfl)
theorem aval_box {t : TypeId} {x : Operand} : aval c tm ⟨d, .box t x, ty, p, a, g⟩ S = none := (rfl)
theorem aval_store {t : TypeId} {x y : Operand} : aval c tm ⟨d, .store t x y, ty, p, a, g⟩ S = none := (rfl)
theorem aval_makeSlice {t : TypeId} {x y : Operand} : aval c tm ⟨d, .makeSlice t x y, ty, p, a, g⟩ S = none := (rfl)
theorem aval_append {x : Array Operand} {t : Array TypeId} : aval c tm ⟨d, .call { callee := .builtin .append, args := x, argTypes := t }, ty, p, a, g⟩ S = none := (rfl)
theorem aval_callv {fv : Operand} {x : Array Operand} {t : Array TypeId} : aval c tm ⟨d, .call { callee := .value fv, args := x, argTypes := t }, ty, p, a, g⟩ S = none := (rfl)

theorem aeff_alloc {t : TypeId} : aeff c R f r tm ⟨d, .alloc t, ty, p, a, g⟩ S = (c.ty t).bind fun i => i.zero.map fun z => (.ptr S.n 0, S.push (.row z false)) := (rfl)
theorem aeff_box {t : TypeId} {x : Operand} : aeff c R f r tm ⟨d, .box t x, ty, p, a, g⟩ S = (evalT tm x).bind fun v => if leafC v then some (.ptr S.n 0, S.push (.row v.cells false)) else none := (rfl)
theorem aeff_store {t : TypeId} {x y : Operand} : aeff c R f r tm ⟨d, .store t x y, ty, p, a, g⟩ S = (c.ty t).bind fun i => (evalT tm x).bind fun q => (evalT tm y).bind fun v => (S.store i q v).map fun S' => (.undef, S') := (rfl)
theorem aeff_makeSlice {t : TypeId} {l cp : Operand} : aeff c R f r tm ⟨d, .makeSlice t l cp, ty, p, a, g⟩ S =
    (match kindOf c t with
      | .slice e => (c.ty e).bind fun ei => ei.zero.bind fun z => (evalT tm l).bind fun lv => (evalT tm cp).bind fun cv =>
        (match lv, cv with
          | .int _ n, .int _ m => if 0 ≤ n ∧ n ≤ m ∧ m ≤ 281474976710656 ∧ ei.bytes * m ≤ 281474976710656 ∧ z.length = ei.size ∧ 0 < ei.size then
              some (.sref S.n 0 0 n.toNat, S.push (.seq 0 ei.size (List.replicate n.toNat z) 0)) else none
          | _, _ => none)
      | _ => none) := (rfl)
theorem aeff_append {x y : Operand} {t u : TypeId} : aeff c R f r tm ⟨d, .call { callee := .builtin .append, args := #[x, y], argTypes := #[t, u] }, ty, p, a, g⟩ S =
    (match kindOf c t, ((c.ty u).map (·.kind) : Option TK) with
            | .slice _, some (.int _) => none
            | .slice _, none => none
            | .slice e, _ => (c.ty e).bind fun ei => (evalT tm x).bind fun a => (evalT tm y).bind fun b => (appRows S b).bind fun ys =>
                if 0 < ei.size ∧ ei.zero.map List.length = some ei.size then aappend ei.size ei.bytes (c.muts f r) a ys S else none
            | _, _ => none) := (rfl)
theorem aeff_callv {fv : Operand} {x : Array Operand} {t : Array TypeId} : aeff c R f r tm ⟨d, .call { callee := .value fv, args := x, argTypes := t }, ty, p, a, g⟩ S = (evalT tm fv).bind fun gv => (evalL tm x.toList).bind fun l => callV c R gv l S := (rfl)
end

/-! ### Code -/
def W (c : Cfg) (code : Code) (fr : Fr) (S : St) (Q : Ex → Fr → St → Prop) : Prop := ∃ ex fr' S', execS c (lim c) code fr S = some (ex, fr', S') ∧ Q ex fr' S'

variable {fr : Fr} {S : St} {Q : Ex → Fr → St → Prop}

theorem W.mono {code : Code} {Q' : Ex → Fr → St → Prop} (h : W c code fr S Q) (k : ∀ ex fr' S', Q ex fr' S' → Q' ex fr' S') : W c code fr S Q' :=
  let ⟨ex, fr', S', h1, h2⟩ := h
  ⟨ex, fr', S', h1, k _ _ _ h2⟩

/-- Temporaries: what is known of them is enough. -/
theorem W_cut {code : Code} {tm : List AV} {mk : List Nat} {rd : Option Nat} {fn : Nat} (P : List AV → Prop) (hp : P tm) (h : ∀ tm, P tm → W c code ⟨tm, mk, rd, fn⟩ S Q) : W c code ⟨tm, mk, rd, fn⟩ S Q := h tm hp

theorem W_skip (h : Q .nrm fr S) : W c .skip fr S Q := ⟨_, _, _, rfl, h⟩
theorem W_label {l : Nat} (h : Q .nrm fr S) : W c (.label l) fr S Q := ⟨_, _, _, rfl, h⟩
theorem W_exit {i : Nat} (h : Q (.exit i) fr S) : W c (.exit i) fr S Q := ⟨_, _, _, rfl, h⟩
theorem W_ret (h : Q .ret fr S) : W c .ret fr S Q := ⟨_, _, _, rfl, h⟩

/-- What comes behind. -/
def Then (c : Cfg) (b : Code) (Q : Ex → Fr → St → Prop) : Ex → Fr → St → Prop
  | .nrm, fr, S => W c b fr S Q
  | ex, fr, S => Q ex fr S

theorem W_seq {x y : Code} (h : W c x fr S (Then c y Q)) : W c (.seq x y) fr S Q := by
  obtain ⟨ex, fr', S', h1, h2⟩ := h
  cases ex with
  | nrm =>
    obtain ⟨ex2, fr2, S2, h3, h4⟩ := h2
    exact ⟨ex2, fr2, S2, by simp [execS, h1, h3], h4⟩
  | _ => exact ⟨_, fr', S', by simp [execS, h1], h2⟩

theorem W_cond {x : Operand} {y z : Code} {b : Bool} (hb : evalT fr.tmps x = some (.bool b)) (ht : b = true → W c y fr S Q) (hf : b = false → W c z fr S Q) : W c (.cond x y z) fr S Q := by
  cases b with
  | true =>
    obtain ⟨ex, fr', S', h1, h2⟩ := ht rfl
    exact ⟨ex, fr', S', by simp [execS, hb, h1], h2⟩
  | false =>
    obtain ⟨ex, fr', S', h1, h2⟩ := hf rfl
    exact ⟨ex, fr', S', by simp [execS, hb, h1], h2⟩

theorem W_condT {x : Operand} {y z : Code} (hb : evalT fr.tmps x = some (.bool true)) (h : W c y fr S Q) : W c (.cond x y z) fr S Q := W_cond hb (fun _ => h) (fun e => by cases e)
theorem W_condF {x : Operand} {y z : Code} (hb : evalT fr.tmps x = some (.bool false)) (h : W c z fr S Q) : W c (.cond x y z) fr S Q := W_cond hb (fun e => by cases e) (fun _ => h)
theorem W_condP {x : Operand} {y z : Code} {p : Prop} [Decidable p] (hb : evalT fr.tmps x = some (.bool (decide p))) (ht : p → W c y fr S Q) (hf : ¬ p → W c z fr S Q) : W c (.cond x y z) fr S Q :=
  W_cond hb (fun e => ht (by simpa using e)) (fun e => hf (by simpa using e))

/-- Out of a block. -/
def Out (i : Nat) (Q : Ex → Fr → St → Prop) : Ex → Fr → St → Prop := fun ex fr S => Q (if ex = .exit i then .nrm else ex) fr S

theorem W_block {i : Nat} {x : Code} (h : W c x fr S (Out i Q)) : W c (.block i x) fr S Q := by
  obtain ⟨ex, fr', S', h1, h2⟩ := h
  refine ⟨if ex = .exit i then .nrm else ex, fr', S', ?_, h2⟩
  simp only [execS, h1, Option.map_some, exitBlock]
  split <;> rfl

theorem W_region {id : Nat} {ops : Array Oper} {tm : List AV} {mk : List Nat} {rd : Option Nat} {fn : Nat}
    (h : ∀ K : List AV → St → Prop, (∀ tm' S', Q .nrm ⟨tm', mk, rd, fn⟩ S' → K tm' S') → RO c ⟨fn, id, ops⟩ ops.toList tm S K) : W c (.region id ops false) ⟨tm, mk, rd, fn⟩ S Q := by
  obtain ⟨tm', S', h1, h2⟩ := h (fun tm' S' => Q .nrm ⟨tm', mk, rd, fn⟩ S') (fun _ _ h => h)
  refine ⟨.nrm, ⟨tm', mk, rd, fn⟩, S', ?_, h2⟩
  simp only [execS, aregion]
  simp only at h1
  simp [h1]

theorem lim_loop {b : Code} (h : W c b fr S fun ex fr' S' => if ex = .nrm then W c (.loop b) fr' S' Q else Q ex fr' S') : W c (.loop b) fr S Q := by
  obtain ⟨ex, fr', S', h1, h2⟩ := h
  by_cases e : ex = .nrm
  · rw [if_pos e] at h2
    obtain ⟨ex2, fr2, S2, h3, h4⟩ := h2
    refine ⟨ex2, fr2, S2, ?_, h4⟩
    simp only [execS, h1, Option.bind_some, e, if_true]
    rw [lim_code_eq]
    simpa only [execS] using h3
  · rw [if_neg e] at h2
    exact ⟨ex, fr', S', by simp [execS, h1, e], h2⟩

/-- What a round of a loop leaves: less to do, or the loop is left. -/
def Round (I : Nat → Fr → St → Prop) (k : Nat) (Q : Ex → Fr → St → Prop) : Ex → Fr → St → Prop
  | .nrm, fr, S => ∃ m, m < k ∧ I m fr S
  | ex, fr, S => Q ex fr S

theorem W_loop {b : Code} (I : Nat → Fr → St → Prop) (k : Nat) (h0 : I k fr S) (h : ∀ k fr S, I k fr S → W c b fr S (Round I k Q)) : W c (.loop b) fr S Q := by
  induction k using Nat.strongRecOn generalizing fr S with
  | _ k ih =>
    refine lim_loop ((h k fr S h0).mono fun ex fr' S' hq => ?_)
    cases ex with
    | nrm =>
      obtain ⟨m, hm, hI⟩ := hq
      rw [if_pos rfl]
      exact ih m hm hI
    | _ => rw [if_neg (by simp)]; exact hq

section
variable {b : Code} {i j : Nat} {I : Nat → Fr → St → Prop} {k : Nat}
theorem Then_nrm (h : W c b fr S Q) : Then c b Q .nrm fr S := h
theorem Then_exit (h : Q (.exit i) fr S) : Then c b Q (.exit i) fr S := h
theorem Then_ret (h : Q .ret fr S) : Then c b Q .ret fr S := h
theorem Out_nrm (h : Q .nrm fr S) : Out i Q .nrm fr S := h
theorem Out_ret (h : Q .ret fr S) : Out i Q .ret fr S := h
theorem Out_same (h : Q .nrm fr S) : Out i Q (.exit i) fr S := by unfold Out; rw [if_pos rfl]; exact h
theorem Out_other (hn : j ≠ i) (h : Q (.exit j) fr S) : Out i Q (.exit j) fr S := by unfold Out; rw [if_neg (by simpa using hn)]; exact h
theorem Round_exit (h : Q (.exit i) fr S) : Round I k Q (.exit i) fr S := h
theorem Round_ret (h : Q .ret fr S) : Round I k Q .ret fr S := h
end

/-! ### Calls -/
def isRet : Ex → Bool
  | .nrm => true
  | .ret => true
  | _ => false

/-- The call comes to an end, and then K. -/
def CallQ (c : Cfg) (f : FuncId) (args : List AV) (S : St) (K : AV → St → Prop) : Prop := ∃ v S2, (lim c).call f args S = some (v, S2) ∧ K v S2

theorem CallQ.mono {f : FuncId} {args : List AV} {S : St} {K K' : AV → St → Prop} (h : CallQ c f args S K) (k : ∀ v S', K v S' → K' v S') : CallQ c f args S K' :=
  let ⟨v, S', h1, h2⟩ := h
  ⟨v, S', h1, k _ _ h2⟩

/-- What is asked where a body ends. -/
def AtEnd (c : Cfg) (rs : List ResultVar) (K : AV → St → Prop) : Ex → Fr → St → Prop := fun ex fr S =>
  isRet ex = true ∧ ∃ S2 l, unmark S fr.marks = some S2 ∧ aresults c S2 fr.tmps rs = some l ∧ K (one l) S2

def RS (x : Option (List AV)) (K : List AV → Prop) : Prop := ∃ l, x = some l ∧ K l
theorem RS_some (l : List AV) (K : List AV → Prop) : RS (some l) K = K l := by simp [RS]
theorem AtEnd_of {rs : List ResultVar} {K : AV → St → Prop} {ex : Ex} {tm : List AV} {rd : Option Nat} {fn : Nat} (h : isRet ex = true) (k : RS (aresults c S tm rs) fun l => K (one l) S) : AtEnd c rs K ex ⟨tm, [], rd, fn⟩ S :=
  let ⟨l, h1, h2⟩ := k
  ⟨h, S, l, rfl, h1, h2⟩
theorem aresults_nil (tm : List AV) : aresults c S tm [] = some [] := (rfl)
theorem aresults_tmp (tm : List AV) (t : Tmp) (rs : List ResultVar) : aresults c S tm (.tmp t :: rs) = (aresults c S tm rs).map fun l => tget tm t :: l := (rfl)
theorem aresults_cell (tm : List AV) (a : Tmp) (t : TypeId) (rs : List ResultVar) : aresults c S tm (.cell a t :: rs) = (c.ty t).bind fun i => (S.load i (tget tm a)).bind fun v => (aresults c S tm rs).map fun l => v :: l := (rfl)

theorem call_of_W {f : FuncId} {fn : Func} {b : Code} {args : List AV} {S : St} {K : AV → St → Prop} (hf : c.fn f = some fn) (hb : fn.body = some b)
    (h : W c b ⟨args ++ List.replicate (fn.ntmps - args.length) .undef, [], none, f⟩ S (AtEnd c fn.results.toList K)) : CallQ c f args S K := by
  obtain ⟨ex, fr', S', h1, h2, S2, l, h3, h4, h5⟩ := h
  refine ⟨one l, S2, ?_, h5⟩
  rw [lim_call_eq]
  simp only [callS, hf, hb, Option.bind_some]
  rw [lim_code_eq, h1]
  simp only [Option.bind_some]
  rw [if_pos (by cases ex <;> simp_all [isRet])]
  simp [h3, h4]

/-- A call on plain data, of a function that is called so. -/
abbrev PC (c : Cfg) (f : FuncId) (args : List AV) (v : AV) : Prop := ∀ S, callF c (lim c) f args S = some (v, S)

theorem frz1_plain {x x' : AV} (S : St) (h : nrm x = some x') : frz1 S x = some (x', []) := by
  unfold frz1
  cases x <;> simp_all [nrm]
theorem frzA_plain {x x' : AV} (S : St) (h : nrm x = some x') : frzA S x = some (x', []) := by
  unfold frzA
  cases x with
  | agg cs =>
    simp only [nrm, Option.map_eq_some_iff] at h
    obtain ⟨l, hl, rfl⟩ := h
    have : ∀ (cs l : List AV), nrmL cs = some l → frzL S cs = some (l, []) := by
      intro cs
      induction cs with
      | nil => intro l h; simp [nrmL] at h; subst h; rfl
      | cons y ys ih =>
        intro l h
        simp only [nrmL, Option.bind_eq_some_iff, Option.map_eq_some_iff] at h
        obtain ⟨y', hy, l', hl', rfl⟩ := h
        simp [frzL, frz1_plain S hy, ih _ hl']
    simp [this _ _ hl]
  | _ => exact frz1_plain S h

theorem frzLA_plain {x x' : AV} {xs xs' : List AV} {ls : List (Nat × Nat)} (S : St) (h : nrm x = some x') (k : frzLA S xs = some (xs', ls)) : frzLA S (x :: xs) = some (x' :: xs', ls) := by
  simp [frzLA, frzA_plain S h, k]

/-- All are plain data, and are told as they are. -/
def nrmA : List AV → Option (List AV)
  | [] => some []
  | x :: xs => (nrm x).bind fun a => (nrmA xs).map fun b => a :: b
theorem frzLA_of_nrmA (S : St) : ∀ {xs xs' : List AV}, nrmA xs = some xs' → frzLA S xs = some (xs', [])
  | [], xs', h => by simp [nrmA] at h; subst h; rfl
  | x :: xs, xs', h => by
    simp only [nrmA, Option.bind_eq_some_iff, Option.map_eq_some_iff] at h
    obtain ⟨a, ha, b, hb, rfl⟩ := h
    exact frzLA_plain S ha (frzLA_of_nrmA S hb)

theorem frz_plain {x x' : AV} (S : St) (h : nrm x = some x') (ht : ∀ vs, x ≠ .tup vs) : frz S x = some (x', []) := by
  unfold frz
  cases x with
  | tup vs => exact (ht vs rfl).elim
  | _ => exact frzA_plain S h

/-- What is handed back, as plain data. -/
def FZ (v : AV) : AV → St → Prop := fun r S => ∃ l, frz S r = some (v, l)
theorem FZ_plain {v r : AV} {S : St} (h : nrm r = some v) (ht : ∀ vs, r ≠ .tup vs) : FZ v r S := ⟨[], frz_plain S h ht⟩
theorem FZ_int {k : IntKind} {n : Int} {S : St} : FZ (.int k n) (.int k n) S := ⟨[], rfl⟩
theorem FZ_bool {b : Bool} {S : St} : FZ (.bool b) (.bool b) S := ⟨[], rfl⟩
theorem FZ_str {s : List UInt8} {S : St} : FZ (.str s) (.str s) S := ⟨[], rfl⟩
theorem FZ_tup {vs us : List AV} {S : St} (h : nrmA us = some vs) : FZ (.tup vs) (.tup us) S := ⟨[], by simp [frz, frzLA_of_nrmA S h]⟩
theorem FZ_tupF {vs us : List AV} {l : List (Nat × Nat)} {S : St} (h : frzLA S us = some (vs, l)) : FZ (.tup vs) (.tup us) S := ⟨l, by simp [frz, h]⟩
theorem FZ_sref {o g off len : Nat} {r r' : Rows} {S : St} (h : S.rows o g off len = some r) (h' : nrmR r = some r') : FZ (.vec r') (.sref o g off len) S := ⟨_, by simp [frz, frzA, frz1, h, h']; rfl⟩

/-- A function that is called on plain data: what its body comes to is all. -/
theorem PC_of {f : FuncId} {args args' : List AV} {v : AV} (he : c.ext f = none) (hm : c.mode f = .pure) (ha : nrmA args = some args')
    (h : CallQ c f args' St.nil (FZ v)) : PC c f args v := by
  intro S
  obtain ⟨r, S2, h1, l, h2⟩ := h
  simp [callF, callM, he, hm, frzLA_of_nrmA S ha, h1, h2, St.lockAll]

theorem PC_nrm {f : FuncId} {args args' : List AV} {v : AV} (he : c.ext f = none) (hm : c.mode f = .pure) (ha : nrmA args = some args') (ha' : nrmA args' = some args') (h : PC c f args' v) : PC c f args v := by
  intro S
  have := h S
  simp only [callF, callM, he, hm, frzLA_of_nrmA S ha, frzLA_of_nrmA S ha', Option.bind_some] at this ⊢
  exact this
end Go.Am
