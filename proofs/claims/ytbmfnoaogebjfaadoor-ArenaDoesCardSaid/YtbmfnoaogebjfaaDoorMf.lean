/- THE ABSTRACT MACHINE, A PART OF IT. -/
import Derived.Test.YtbmfnoaogebjfaaDoorMe
import Derived.Laws.StructEq
/- THE ABSTRACT MACHINE, THIRTY-FIFTH FILE: how a run is shown, step by step. -/
set_option linter.unusedSimpArgs false
set_option linter.unusedVariables false
namespace Go.Am
variable {c : Cfg}

theorem int_beq (a b : Int) : (a == b) = decide (a = b) := by by_cases h : a = b <;> simp [h]
theorem int_bne (a b : Int) : (a != b) = decide (¬ a = b) := by by_cases h : a = b <;> simp [h]
theorem bool_beq (a b : Bool) : (a == b) = decide (a = b) := by by_cases h : a = b <;> simp [h]
theorem str_beq (a b : List UInt8) : (a == b) = decide (a = b) := by by_cases h : a = b <;> simp [h]
theorem not_dec (p : Prop) [Decidable p] : (!decide p) = decide (¬ p) := by by_cases h : p <;> simp [h]

theorem fillR_one (n : Nat) (z : List AV) (v : AV) : fillR n (List.replicate 1 z) [(0, v)] = if leafC v ∧ v.cells.length = n then some [v.cells] else none := by
  simp [fillR]
theorem fillR_none (n : Nat) (z : List AV) : fillR n (List.replicate 0 z) [] = some [] := (rfl)

theorem nbeq1 (n : Nat) : (n + 1 == n) = false := by simp
theorem nbeq2 (n : Nat) : (n == n + 1) = false := by simp
theorem nbeq3 (n : Nat) : (n + 1 + 1 == n) = false := by simp; omega
theorem nbeq4 (n : Nat) : (n == n + 1 + 1) = false := by simp; omega
theorem ne1 (n : Nat) : (n + 1 = n) = False := by simp
theorem ne2 (n : Nat) : (n = n + 1) = False := by simp
theorem ne3 (n : Nat) : (n + 1 + 1 = n) = False := by simp; omega
theorem ne4 (n : Nat) : (n = n + 1 + 1) = False := by simp; omega
theorem ne5 (n : Nat) : (n + 1 + 1 + 1 = n) = False := by simp; omega
theorem ne6 (n : Nat) : (n = n + 1 + 1 + 1) = False := by simp; omega
theorem nle1 (n : Nat) : (n + 1 ≤ n) = False := by simp
theorem nle2 (n : Nat) : (n + 1 + 1 ≤ n) = False := by simp; try omega

/-! ### Temporaries -/
def tget (tm : List AV) (i : Nat) : AV := tm.getD i .undef
def tput (tm : List AV) (i : Nat) (v : AV) : List AV := tm.set i v
theorem tput_len (tm : List AV) (i : Nat) (v : AV) : (tput tm i v).length = tm.length := by simp [tput]
theorem tget_eq {tm : List AV} {i : Nat} {v : AV} (h : i < tm.length) : tget (tput tm i v) i = v := by simp [tget, tput, List.getD, h]
theorem tget_ne {tm : List AV} {i j : Nat} {v : AV} (h : i ≠ j) : tget (tput tm i v) j = tget tm j := by simp [tget, tput, List.getD, List.getElem?_set_ne h]
theorem tget_cons0 (a : AV) (l : List AV) : tget (a :: l) 0 = a := (rfl)
theorem tget_consS (a : AV) (l : List AV) (i : Nat) : tget (a :: l) (i + 1) = tget l i := by simp [tget]
theorem evalT_tmp (tm : List AV) (t : Tmp) : evalT tm (.tmp t) = some (tget tm t) := (rfl)
theorem evalT_func (tm : List AV) (f : FuncId) : evalT tm (.func f) = some (.fn f [] []) := (rfl)
theorem evalT_int (tm : List AV) (k : IntKind) (n : Int) : evalT tm (.const (.int k n)) = some (.int k n) := (rfl)
theorem evalT_bool (tm : List AV) (b : Bool) : evalT tm (.const (.bool b)) = some (.bool b) := (rfl)
theorem evalT_str (tm : List AV) (s : ByteArray) : evalT tm (.const (.string s)) = some (.str s.data.toList) := (rfl)
theorem evalT_nils (tm : List AV) : evalT tm (.const (.slice none 0 0)) = some .nils := (rfl)
theorem evalT_nilm (tm : List AV) : evalT tm (.const (.map none)) = some .nilm := (rfl)
theorem evalT_nilf (tm : List AV) : evalT tm (.const .nilFunc) = some .nilf := (rfl)
theorem evalT_nilp (tm : List AV) : evalT tm (.const (.pointer none)) = some .nilp := (rfl)
theorem evalT_nili (tm : List AV) : evalT tm (.const .nilIface) = some .nili := (rfl)
theorem evalT_agg (tm : List AV) (cs : Array Value) : evalT tm (.const (.agg cs)) = (constL cs.toList).map .agg := (rfl)
theorem putT_some (tm : List AV) (t : Tmp) (v : AV) : putT tm (some t) v = tput tm t v := (rfl)
theorem putT_none (tm : List AV) (v : AV) : putT tm none v = tm := (rfl)
theorem getD_tget (tm : List AV) (i : Nat) : tm.getD i .undef = tget tm i := (rfl)

/-! ### Memory -/
def St.ok (S : St) : Prop := S.h.length = S.n
theorem St.ok_nil : St.nil.ok := (rfl)
theorem St.ok_push {S : St} {o : AObj} (h : S.ok) : (S.push o).ok := by simpa [St.ok, St.push] using h
theorem St.ok_set {S : St} {i : Nat} {o : AObj} (h : S.ok) : (S.set i o).ok := by simpa [St.ok, St.set] using h
theorem St.get_ge {S : St} {i : Nat} (h : S.n ≤ i) : S.get i = none := by unfold St.get; rw [if_neg (by omega)]
theorem St.get_pushe {S : St} {o : AObj} : (S.push o).get S.n = some o := St.get_push_new S o
theorem St.get_pushn {S : St} {o : AObj} {i : Nat} (h : i ≠ S.n) : (S.push o).get i = S.get i := by
  rcases Nat.lt_or_ge i S.n with hi | hi
  · exact St.get_push_old o hi
  · rw [St.get_ge (by show S.n + 1 ≤ i; omega), St.get_ge hi]
theorem St.get_push_if {S : St} {o : AObj} {i : Nat} : (S.push o).get i = if i = S.n then some o else S.get i := by
  split
  · rename_i h; subst h; exact St.get_pushe
  · rename_i h; exact St.get_pushn h
theorem St.get_set_if {S : St} {o : AObj} {i j : Nat} (h : S.ok) (k : i < S.n) : (S.set i o).get j = if j = i then some o else S.get j := by
  split
  · rename_i h'; subst h'; exact St.get_set_same h o k
  · rename_i h'; exact St.get_set_other o k h'
theorem St.get_pushq {S : St} {o : AObj} {i : Nat} (h : i = S.n) : (S.push o).get i = some o := by subst h; exact St.get_pushe
theorem St.nil_n : St.nil.n = 0 := by rw [show St.nil = ⟨[], 0, 0⟩ from rfl]
theorem St.nil_base : St.nil.base = 0 := by rw [show St.nil = ⟨[], 0, 0⟩ from rfl]
theorem St.pushN (S : St) (o : AObj) : (S.push o).n = S.n + 1 := by cases S; rfl
theorem St.setN (S : St) (i : Nat) (o : AObj) : (S.set i o).n = S.n := by cases S; rfl
theorem St.pushB (S : St) (o : AObj) : (S.push o).base = S.base := by cases S; rfl
theorem St.setB (S : St) (i : Nat) (o : AObj) : (S.set i o).base = S.base := by cases S; rfl
theorem St.get_sete {S : St} {o : AObj} {i : Nat} (h : S.ok) (k : i < S.n) : (S.set i o).get i = some o := St.get_set_same h o k
theorem St.get_setn {S : St} {o : AObj} {i j : Nat} (k : i < S.n) (h : j ≠ i) : (S.set i o).get j = S.get j := St.get_set_other o k h
theorem St.putO_base {S : St} {i : Nat} {o : AObj} (h : S.base ≤ i) : S.putO i o = some (S.set i o) := by simp [St.putO, h]
theorem St.nil_push (o : AObj) : St.nil.push o = ⟨[o], 1, 0⟩ := (rfl)
theorem St.mk_push (h : List AObj) (n b : Nat) (o : AObj) : (St.mk h n b).push o = ⟨o :: h, n + 1, b⟩ := (rfl)

/-! ### Regions in the order of the text -/
def WO (x : Option (List AV × St)) (K : List AV → St → Prop) : Prop := ∃ tm S, x = some (tm, S) ∧ K tm S

structure RI where
  fid : Nat
  rid : Nat
  ops : Array Oper

def RO (c : Cfg) (q : RI) (l : List Oper) (tm : List AV) (S : St) (K : List AV → St → Prop) : Prop := WO (runOps c (lim c) q.fid q.rid q.ops l tm S) K

def defTS : AV × St := (.undef, St.nil)

theorem WO_some (tm : List AV) (S : St) (K : List AV → St → Prop) : WO (some (tm, S)) K = K tm S := by
  apply propext
  constructor
  · rintro ⟨a, b, h, k⟩
    simp only [Option.some.injEq, Prod.mk.injEq] at h
    obtain ⟨rfl, rfl⟩ := h
    exact k
  · exact fun k => ⟨_, _, rfl, k⟩

theorem RO_nil (q : RI) (tm : List AV) (S : St) (K : List AV → St → Prop) : RO c q [] tm S K = K tm S := by
  simp [RO, WO_some, runOps]

theorem RO_guard (q : RI) (d : Option Tmp) (op : Op) (ty : TypeId) (p : String) (a : Array Edge) (j : Nat) (w : Bool) (l : List Oper) (tm : List AV) (S : St) (K : List AV → St → Prop) :
    RO c q (⟨d, op, ty, p, a, some (j, w)⟩ :: l) tm S K = if ayielded q.ops tm j = some w then RO c q (⟨d, op, ty, p, a, none⟩ :: l) tm S K else RO c q l (putT tm d .undef) S K := by
  unfold RO
  by_cases h : ayielded q.ops tm j = some w
  · rw [if_pos h]
    have hw : awanted q.ops tm ⟨d, op, ty, p, a, some (j, w)⟩ = true := by simp [awanted, h]
    have hw' : awanted q.ops tm ⟨d, op, ty, p, a, none⟩ = true := (rfl)
    simp only [runOps, hw, hw', if_true]
    rfl
  · rw [if_neg h]
    have hw : awanted q.ops tm ⟨d, op, ty, p, a, some (j, w)⟩ = false := by simpa [awanted] using h
    simp only [runOps, hw]
    rfl

def ROk (c : Cfg) (q : RI) (d : Option Tmp) (l : List Oper) (tm : List AV) (K : List AV → St → Prop) (x : Option (AV × St)) : Prop := ∃ v S, x = some (v, S) ∧ RO c q l (putT tm d v) S K
theorem ROk_some (q : RI) (d : Option Tmp) (l : List Oper) (tm : List AV) (S : St) (v : AV) (K : List AV → St → Prop) : ROk c q d l tm K (some (v, S)) = RO c q l (putT tm d v) S K := by
  unfold ROk
  apply propext
  constructor
  · rintro ⟨v', S', h, k⟩
    simp only [Option.some.injEq, Prod.mk.injEq] at h
    obtain ⟨rfl, rfl⟩ := h
    exact k
  · exact fun k => ⟨_, _, rfl, k⟩
theorem RO_step (q : RI) (d : Option Tmp) (op : Op) (ty : TypeId) (p : String) (a : Array Edge) (l : List Oper) (tm : List AV) (S : St) (K : List AV → St → Prop) :
    RO c q (⟨d, op, ty, p, a, none⟩ :: l) tm S K = ROk c q d l tm K (aop c (lim c) q.fid q.rid tm ⟨d, op, ty, p, a, none⟩ S) := by
  have hw' : awanted q.ops tm ⟨d, op, ty, p, a, none⟩ = true := (rfl)
  cases ho : aop c (lim c) q.fid q.rid tm ⟨d, op, ty, p, a, none⟩ S with
  | none =>
    unfold RO ROk
    simp [runOps, hw', ho, WO]
  | some v =>
    obtain ⟨v, S1⟩ := v
    rw [ROk_some]
    unfold RO
    simp only [runOps, hw', if_true, ho, Option.bind_some]

/-! ### Operations -/
section
variable {R : Rec} {f r : Nat} {tm : List AV} {d : Option Tmp} {ty : TypeId} {p : String} {a : Array Edge} {g : Option (Nat × Bool)} {S : St}

theorem aop_of_aval {o : Oper} {v : AV} (h : aval c tm o S = some v) : aop c R f r tm o S = some (v, S) := by simp [aop, h]
theorem aop_of_none {o : Oper} (h : aval c tm o S = none) : aop c R f r tm o S = aeff c R f r tm o S := by simp [aop, h]

theorem aval_move {x : Operand} : aval c tm ⟨d, .move x, ty, p, a, g⟩ S = evalT tm x := (rfl)
theorem aval_assign {x : Operand} : aval c tm ⟨d, .assign x, ty, p, a, g⟩ S = evalT tm x := (rfl)
theorem aval_pick {x u v : Operand} : aval c tm ⟨d, .pick x u v, ty, p, a, g⟩ S = (match evalT tm x with | some (.bool t) => evalT tm (if t then u else v) | _ => none) := (rfl)
theorem aval_build {t : TypeId} {ps : Array (Nat × Operand)} : aval c tm ⟨d, .build t ps, ty, p, a, g⟩ S = (evalP tm ps.toList).bind (abuild c t) := (rfl)
theorem aval_load {t : TypeId} {x : Operand} : aval c tm ⟨d, .load t x, ty, p, a, g⟩ S = (c.ty t).bind fun i => (evalT tm x).bind (S.load i) := (rfl)
theorem aval_nilCheck {x : Operand} : aval c tm ⟨d, .nilCheck x, ty, p, a, g⟩ S = (evalT tm x).bind fun v => (match v with | .ptr _ _ | .eptr _ _ _ _ | .iptr _ _ | .fn _ _ _ => some v | _ => none) := (rfl)
theorem aval_binOp {op : BinOp} {t e : TypeId} {x y : Operand} : aval c tm ⟨d, .binOp op t x y e, ty, p, a, g⟩ S = (evalT tm x).bind fun u => (evalT tm y).bind fun v => if isNili u && isNili v && !(isConst x || isConst y) then none else abin c op t u v := (rfl)
theorem aval_unOp {op : UnOp} {t : TypeId} {x : Operand} : aval c tm ⟨d, .unOp op t x, ty, p, a, g⟩ S = (evalT tm x).bind (aun op) := (rfl)
theorem aval_convert {s t : TypeId} {x : Operand} : aval c tm ⟨d, .convert s t x, ty, p, a, g⟩ S = (evalT tm x).bind (aconv c s t) := (rfl)
theorem aval_makeFunc {fn : FuncId} {u v : Array Operand} : aval c tm ⟨d, .makeFunc (.func fn) u v, ty, p, a, g⟩ S = (evalL tm u.toList).bind fun l => (evalL tm v.toList).map fun m => .fn fn l m := (rfl)
theorem aval_fieldAddr {t : TypeId} {x : Operand} {i : Nat} : aval c tm ⟨d, .fieldAddr t x i, ty, p, a, g⟩ S = (match kindOf c t with
      | .struct fs => (fs[i]?).bind fun q => (c.ty q.1).bind fun fi => if fi.size = 0 then none else (evalT tm x).bind fun v => addOff v q.2
      | _ => none) := (rfl)
theorem aval_field {t : TypeId} {x : Operand} {i : Nat} : aval c tm ⟨d, .field t x i, ty, p, a, g⟩ S = (match kindOf c t with
      | .struct fs => (fs[i]?).bind fun q => (c.ty q.1).bind fun fi => (match evalT tm x with | some (.agg cs) => apart fi cs q.2 | _ => none)
      | _ => none) := (rfl)
theorem aval_indexAddr {t : TypeId} {x i : Operand} : aval c tm ⟨d, .indexAddr t x i, ty, p, a, g⟩ S = (evalT tm x).bind fun u => (evalT tm i).bind fun v => aindexAddr c S t u v := (rfl)
theorem aval_index {t : TypeId} {x i : Operand} : aval c tm ⟨d, .index t x i, ty, p, a, g⟩ S = (evalT tm x).bind fun u => (evalT tm i).bind fun v => aindex c t u v := (rfl)
theorem aval_lookup {t : TypeId} {x i : Operand} {ok : Bool} : aval c tm ⟨d, .lookup t x i ok, ty, p, a, g⟩ S = (evalT tm x).bind fun u => (evalT tm i).bind fun v => alookup c S t u v ok := (rfl)
theorem aval_extract {x : Operand} {i : Nat} : aval c tm ⟨d, .extract x i, ty, p, a, g⟩ S = (match evalT tm x with | some (.tup vs) => vs[i]? | _ => none) := (rfl)
theorem aval_len {x : Operand} {t : TypeId} : aval c tm ⟨d, .call { callee := .builtin .len, args := #[x], argTypes := #[t] }, ty, p, a, g⟩ S = (evalT tm x).bind (alen c S t) := (rfl)
theorem aval_max {x : Array Operand} {t : Array TypeId} : aval c tm ⟨d, .call { callee := .builtin .max, args := x, argTypes := t }, ty, p, a, g⟩ S = (evalL tm x.toList).bind amax := (rfl)
theorem aval_min {x : Array Operand} {t : Array TypeId} : aval c tm ⟨d, .call { callee := .builtin .min, args := x, argTypes := t }, ty, p, a, g⟩ S = (evalL tm x.toList).bind amin := (rfl)
theorem aval_buildSlice {t : TypeId} {n : Nat} {ps : Array (Nat × Operand)} : aval c tm ⟨d, .buildSlice t n ps, ty, p, a, g⟩ S = (match kindOf c t with
      | .slice e => (c.ty e).bind fun ei => if n * ei.size ≤ 16777216 then
          (if n * ei.size = 0 then some [] else ei.zero).bind fun z => (evalP tm ps.toList).bind fun qs =>
          if z.length = ei.size ∨ n = 0 then (fillR ei.size (List.replicate n z) qs).map .lit else none
        else none
      | _ => none) := (rfl)
theorem aval_slice {t : TypeId} {x : Operand} {lo hi : Option Operand} : aval c tm ⟨d, .slice t x lo hi none, ty, p, a, g⟩ S = (evalT tm x).bind fun v => (evalO tm lo).bind fun l => (evalO tm hi).bind fun h =>
      (match kindOf c t, v with | .str, .str s => asliceS s l h | .slice e, v => (c.ty e).bind fun ei => asliceV S ei.size v l h | _, _ => none) := (rfl)

theorem aval_alloc {t : TypeId} : aval c tm ⟨d, .alloc t, ty, p, a, g⟩ S = none := (rfl)
theorem aval_box {t : TypeId} {x : Operand} : aval c tm ⟨d, .box t x, ty, p, a, g⟩ S = none := (rfl)
theorem aval_store {t : TypeId} {x y : Operand} : aval c tm ⟨d, .store t x y, ty, p, a, g⟩ S = none := (rfl)
theorem aval_makeSlice {t : TypeId} {x y : Operand} : aval c tm ⟨d, .makeSlice t x y, ty, p, a, g⟩ S = none := (rfl)
theorem aval_append {x : Array Operand} {t : Array TypeId} : aval c tm ⟨d, .call { callee := .builtin .append, args := x, argTypes := t }, ty, p, a, g⟩ S = none := (rfl)
theorem aval_callv {fv : Operand} {x : Array Operand} {t : Array TypeId} : aval c tm ⟨d, .call { callee := .value fv, args := x, argTypes := t }, ty, p, a, g⟩ S = none := (rfl)

theorem aeff_alloc {t : TypeId} : aeff c R f r tm ⟨d, .alloc t, ty, p, a, g⟩ S = (c.ty t).bind fun i => i.zero.map fun z => (.ptr S.n 0, S.push (.row z false)) := (rfl)
theorem aeff_box {t : TypeId} {x : Operand} : aeff c R f r tm ⟨d, .box t x, ty, p, a, g⟩ S = (evalT tm x).bind fun v => if leafC v then some (.ptr S.n 0, S.push (.row v.cells false)) else none := (rfl)
theorem aeff_store {t : TypeId} {x y : Operand} : aeff c R f r tm ⟨d, .store t x y, ty, p, a, g⟩ S = (c.ty t).bind fun i => (evalT tm x).bind fun q => (evalT tm y).bind fun v => (S.store i q v).map fun S' => (.undef, S') := (rfl)
theorem aeff_makeSlice {t : TypeId} {l cp : Operand} : aeff c R f r tm ⟨d, .makeSlice t l cp, ty, p, a, g⟩ S =
    (match kindOf c t with
      | .slice e => (c.ty e).bind fun ei => ei.zero.bind fun z => (evalT tm l).bind fun lv => (evalT tm cp).bind fun cv =>
        (match lv, cv with
          | .int _ n, .int _ m => if 0 ≤ n ∧ n ≤ m ∧ m ≤ 281474976710656 ∧ ei.bytes * m ≤ 281474976710656 ∧ z.length = ei.size ∧ 0 < ei.size then
              some (.sref S.n 0 0 n.toNat, S.push (.seq 0 ei.size (List.replicate n.toNat z) 0)) else none
          | _, _ => none)
      | _ => none) := (rfl)
theorem aeff_append {x y : Operand} {t u : TypeId} : aeff c R f r tm ⟨d, .call { callee := .builtin .append, args := #[x, y], argTypes := #[t, u] }, ty, p, a, g⟩ S =
    (match kindOf c t, ((c.ty u).map (·.kind) : Option TK) with
            | .slice _, some (.int _) => none
            | .slice _, none => none
            | .slice e, _ => (c.ty e).bind fun ei => (evalT tm x).bind fun a => (evalT tm y).bind fun b => (appRows S b).bind fun ys =>
                if 0 < ei.size ∧ ei.zero.map List.length = some ei.size then aappend ei.size ei.bytes (c.muts f r) a ys S else none
            | _, _ => none) := (rfl)
theorem aeff_callv {fv : Operand} {x : Array Operand} {t : Array TypeId} : aeff c R f r tm ⟨d, .call { callee := .value fv, args := x, argTypes := t }, ty, p, a, g⟩ S = (evalT tm fv).bind fun gv => (evalL tm x.toList).bind fun l => callV c R gv l S := (rfl)
end

/-! ### Code -/
def W (c : Cfg) (code : Code) (fr : Fr) (S : St) (Q : Ex → Fr → St → Prop) : Prop := ∃ ex fr' S', execS c (lim c) code fr S = some (ex, fr', S') ∧ Q ex fr' S'

variable {fr : Fr} {S : St} {Q : Ex → Fr → St → Prop}

theorem W.mono {code : Code} {Q' : Ex → Fr → St → Prop} (h : W c code fr S Q) (k : ∀ ex fr' S', Q ex fr' S' → Q' ex fr' S') : W c code fr S Q' :=
  let ⟨ex, fr', S', h1, h2⟩ := h
  ⟨ex, fr', S', h1, k _ _ _ h2⟩

/-- Temporaries: what is known of them is enough. -/
theorem W_cut {code : Code} {tm : List AV} {mk : List Nat} {rd : Option Nat} {fn : Nat} (P : List AV → Prop) (hp : P tm) (h : ∀ tm, P tm → W c code ⟨tm, mk, rd, fn⟩ S Q) : W c code ⟨tm, mk, rd, fn⟩ S Q := h tm hp

theorem W_skip (h : Q .nrm fr S) : W c .skip fr S Q := ⟨_, _, _, rfl, h⟩
theorem W_label {l : Nat} (h : Q .nrm fr S) : W c (.label l) fr S Q := ⟨_, _, _, rfl, h⟩
theorem W_exit {i : Nat} (h : Q (.exit i) fr S) : W c (.exit i) fr S Q := ⟨_, _, _, rfl, h⟩
theorem W_ret (h : Q .ret fr S) : W c .ret fr S Q := ⟨_, _, _, rfl, h⟩

/-- What comes behind. -/
def Then (c : Cfg) (b : Code) (Q : Ex → Fr → St → Prop) : Ex → Fr → St → Prop
  | .nrm, fr, S => W c b fr S Q
  | ex, fr, S => Q ex fr S

theorem W_seq {x y : Code} (h : W c x fr S (Then c y Q)) : W c (.seq x y) fr S Q := by
  obtain ⟨ex, fr', S', h1, h2⟩ := h
  cases ex with
  | nrm =>
    obtain ⟨ex2, fr2, S2, h3, h4⟩ := h2
    exact ⟨ex2, fr2, S2, by simp [execS, h1, h3], h4⟩
  | _ => exact ⟨_, fr', S', by simp [execS, h1], h2⟩

theorem W_cond {x : Operand} {y z : Code} {b : Bool} (hb : evalT fr.tmps x = some (.bool b)) (ht : b = true → W c y fr S Q) (hf : b = false → W c z fr S Q) : W c (.cond x y z) fr S Q := by
  cases b with
  | true =>
    obtain ⟨ex, fr', S', h1, h2⟩ := ht rfl
    exact ⟨ex, fr', S', by simp [execS, hb, h1], h2⟩
  | false =>
    obtain ⟨ex, fr', S', h1, h2⟩ := hf rfl
    exact ⟨ex, fr', S', by simp [execS, hb, h1], h2⟩

theorem W_condT {x : Operand} {y z : Code} (hb : evalT fr.tmps x = some (.bool true)) (h : W c y fr S Q) : W c (.cond x y z) fr S Q := W_cond hb (fun _ => h) (fun e => by cases e)
theorem W_condF {x : Operand} {y z : Code} (hb : evalT fr.tmps x = some (.bool false)) (h : W c z fr S Q) : W c (.cond x y z) fr S Q := W_cond hb (fun e => by cases e) (fun _ => h)
theorem W_condP {x : Operand} {y z : Code} {p : Prop} [Decidable p] (hb : evalT fr.tmps x = some (.bool (decide p))) (ht : p → W c y fr S Q) (hf : ¬ p → W c z fr S Q) : W c (.cond x y z) fr S Q :=
  W_cond hb (fun e => ht (by simpa using e)) (fun e => hf (by simpa using e))

/-- Out of a block. -/
def Out (i : Nat) (Q : Ex → Fr → St → Prop) : Ex → Fr → St → Prop := fun ex fr S => Q (if ex = .exit i then .nrm else ex) fr S

theorem W_block {i : Nat} {x : Code} (h : W c x fr S (Out i Q)) : W c (.block i x) fr S Q := by
  obtain ⟨ex, fr', S', h1, h2⟩ := h
  refine ⟨if ex = .exit i then .nrm else ex, fr', S', ?_, h2⟩
  simp only [execS, h1, Option.map_some, exitBlock]
  split <;> rfl

theorem W_region {id : Nat} {ops : Array Oper} {tm : List AV} {mk : List Nat} {rd : Option Nat} {fn : Nat}
    (h : ∀ K : List AV → St → Prop, (∀ tm' S', Q .nrm ⟨tm', mk, rd, fn⟩ S' → K tm' S') → RO c ⟨fn, id, ops⟩ ops.toList tm S K) : W c (.region id ops false) ⟨tm, mk, rd, fn⟩ S Q := by
  obtain ⟨tm', S', h1, h2⟩ := h (fun tm' S' => Q .nrm ⟨tm', mk, rd, fn⟩ S') (fun _ _ h => h)
  refine ⟨.nrm, ⟨tm', mk, rd, fn⟩, S', ?_, h2⟩
  simp only [execS, aregion]
  simp only at h1
  simp [h1]

theorem lim_loop {b : Code} (h : W c b fr S fun ex fr' S' => if ex = .nrm then W c (.loop b) fr' S' Q else Q ex fr' S') : W c (.loop b) fr S Q := by
  obtain ⟨ex, fr', S', h1, h2⟩ := h
  by_cases e : ex = .nrm
  · rw [if_pos e] at h2
    obtain ⟨ex2, fr2, S2, h3, h4⟩ := h2
    refine ⟨ex2, fr2, S2, ?_, h4⟩
    simp only [execS, h1, Option.bind_some, e, if_true]
    rw [lim_code_eq]
    simpa only [execS] using h3
  · rw [if_neg e] at h2
    exact ⟨ex, fr', S', by simp [execS, h1, e], h2⟩

/-- What a round of a loop leaves: less to do, or the loop is left. -/
def Round (I : Nat → Fr → St → Prop) (k : Nat) (Q : Ex → Fr → St → Prop) : Ex → Fr → St → Prop
  | .nrm, fr, S => ∃ m, m < k ∧ I m fr S
  | ex, fr, S => Q ex fr S

theorem W_loop {b : Code} (I : Nat → Fr → St → Prop) (k : Nat) (h0 : I k fr S) (h : ∀ k fr S, I k fr S → W c b fr S (Round I k Q)) : W c (.loop b) fr S Q := by
  induction k using Nat.strongRecOn generalizing fr S with
  | _ k ih =>
    refine lim_loop ((h k fr S h0).mono fun ex fr' S' hq => ?_)
    cases ex with
    | nrm =>
      obtain ⟨m, hm, hI⟩ := hq
      rw [if_pos rfl]
      exact ih m hm hI
    | _ => rw [if_neg (by simp)]; exact hq

section
variable {b : Code} {i j : Nat} {I : Nat → Fr → St → Prop} {k : Nat}
theorem Then_nrm (h : W c b fr S Q) : Then c b Q .nrm fr S := h
theorem Then_exit (h : Q (.exit i) fr S) : Then c b Q (.exit i) fr S := h
theorem Then_ret (h : Q .ret fr S) : Then c b Q .ret fr S := h
theorem Out_nrm (h : Q .nrm fr S) : Out i Q .nrm fr S := h
theorem Out_ret (h : Q .ret fr S) : Out i Q .ret fr S := h
theorem Out_same (h : Q .nrm fr S) : Out i Q (.exit i) fr S := by unfold Out; rw [if_pos rfl]; exact h
theorem Out_other (hn : j ≠ i) (h : Q (.exit j) fr S) : Out i Q (.exit j) fr S := by unfold Out; rw [if_neg (by simpa using hn)]; exact h
theorem Round_exit (h : Q (.exit i) fr S) : Round I k Q (.exit i) fr S := h
theorem Round_ret (h : Q .ret fr S) : Round I k Q .ret fr S := h
end

/-! ### Calls -/
def isRet : Ex → Bool
  | .nrm => true
  | .ret => true
  | _ => false

/-- The call comes to an end, and then K. -/
def CallQ (c : Cfg) (f : FuncId) (args : List AV) (S : St) (K : AV → St → Prop) : Prop := ∃ v S2, (lim c).call f args S = some (v, S2) ∧ K v S2

theorem CallQ.mono {f : FuncId} {args : List AV} {S : St} {K K' : AV → St → Prop} (h : CallQ c f args S K) (k : ∀ v S', K v S' → K' v S') : CallQ c f args S K' :=
  let ⟨v, S', h1, h2⟩ := h
  ⟨v, S', h1, k _ _ h2⟩

/-- What is asked where a body ends. -/
def AtEnd (c : Cfg) (rs : List ResultVar) (K : AV → St → Prop) : Ex → Fr → St → Prop := fun ex fr S =>
  isRet ex = true ∧ ∃ S2 l, unmark S fr.marks = some S2 ∧ aresults c S2 fr.tmps rs = some l ∧ K (one l) S2

def RS (x : Option (List AV)) (K : List AV → Prop) : Prop := ∃ l, x = some l ∧ K l
theorem RS_some (l : List AV) (K : List AV → Prop) : RS (some l) K = K l := by simp [RS]
theorem AtEnd_of {rs : List ResultVar} {K : AV → St → Prop} {ex : Ex} {tm : List AV} {rd : Option Nat} {fn : Nat} (h : isRet ex = true) (k : RS (aresults c S tm rs) fun l => K (one l) S) : AtEnd c rs K ex ⟨tm, [], rd, fn⟩ S :=
  let ⟨l, h1, h2⟩ := k
  ⟨h, S, l, rfl, h1, h2⟩
theorem aresults_nil (tm : List AV) : aresults c S tm [] = some [] := (rfl)
theorem aresults_tmp (tm : List AV) (t : Tmp) (rs : List ResultVar) : aresults c S tm (.tmp t :: rs) = (aresults c S tm rs).map fun l => tget tm t :: l := (rfl)
theorem aresults_cell (tm : List AV) (a : Tmp) (t : TypeId) (rs : List ResultVar) : aresults c S tm (.cell a t :: rs) = (c.ty t).bind fun i => (S.load i (tget tm a)).bind fun v => (aresults c S tm rs).map fun l => v :: l := (rfl)

theorem call_of_W {f : FuncId} {fn : Func} {b : Code} {args : List AV} {S : St} {K : AV → St → Prop} (hf : c.fn f = some fn) (hb : fn.body = some b)
    (h : W c b ⟨args ++ List.replicate (fn.ntmps - args.length) .undef, [], none, f⟩ S (AtEnd c fn.results.toList K)) : CallQ c f args S K := by
  obtain ⟨ex, fr', S', h1, h2, S2, l, h3, h4, h5⟩ := h
  refine ⟨one l, S2, ?_, h5⟩
  rw [lim_call_eq]
  simp only [callS, hf, hb, Option.bind_some]
  rw [lim_code_eq, h1]
  simp only [Option.bind_some]
  rw [if_pos (by cases ex <;> simp_all [isRet])]
  simp [h3, h4]

/-- A call on plain data, of a function that is called so. -/
abbrev PC (c : Cfg) (f : FuncId) (args : List AV) (v : AV) : Prop := ∀ S, callF c (lim c) f args S = some (v, S)

theorem frz1_plain {x x' : AV} (S : St) (h : nrm x = some x') : frz1 S x = some (x', []) := by
  unfold frz1
  cases x <;> simp_all [nrm]
theorem frzA_plain {x x' : AV} (S : St) (h : nrm x = some x') : frzA S x = some (x', []) := by
  unfold frzA
  cases x with
  | agg cs =>
    simp only [nrm, Option.map_eq_some_iff] at h
    obtain ⟨l, hl, rfl⟩ := h
    have : ∀ (cs l : List AV), nrmL cs = some l → frzL S cs = some (l, []) := by
      intro cs
      induction cs with
      | nil => intro l h; simp [nrmL] at h; subst h; rfl
      | cons y ys ih =>
        intro l h
        simp only [nrmL, Option.bind_eq_some_iff, Option.map_eq_some_iff] at h
        obtain ⟨y', hy, l', hl', rfl⟩ := h
        simp [frzL, frz1_plain S hy, ih _ hl']
    simp [this _ _ hl]
  | _ => exact frz1_plain S h

theorem frzLA_plain {x x' : AV} {xs xs' : List AV} {ls : List (Nat × Nat)} (S : St) (h : nrm x = some x') (k : frzLA S xs = some (xs', ls)) : frzLA S (x :: xs) = some (x' :: xs', ls) := by
  simp [frzLA, frzA_plain S h, k]

/-- All are plain data, and are told as they are. -/
def nrmA : List AV → Option (List AV)
  | [] => some []
  | x :: xs => (nrm x).bind fun a => (nrmA xs).map fun b => a :: b
theorem frzLA_of_nrmA (S : St) : ∀ {xs xs' : List AV}, nrmA xs = some xs' → frzLA S xs = some (xs', [])
  | [], xs', h => by simp [nrmA] at h; subst h; rfl
  | x :: xs, xs', h => by
    simp only [nrmA, Option.bind_eq_some_iff, Option.map_eq_some_iff] at h
    obtain ⟨a, ha, b, hb, rfl⟩ := h
    exact frzLA_plain S ha (frzLA_of_nrmA S hb)

theorem frz_plain {x x' : AV} (S : St) (h : nrm x = some x') (ht : ∀ vs, x ≠ .tup vs) : frz S x = some (x', []) := by
  unfold frz
  cases x with
  | tup vs => exact (ht vs rfl).elim
  | _ => exact frzA_plain S h

/-- What is handed back, as plain data. -/
def FZ (v : AV) : AV → St → Prop := fun r S => ∃ l, frz S r = some (v, l)
theorem FZ_plain {v r : AV} {S : St} (h : nrm r = some v) (ht : ∀ vs, r ≠ .tup vs) : FZ v r S := ⟨[], frz_plain S h ht⟩
theorem FZ_int {k : IntKind} {n : Int} {S : St} : FZ (.int k n) (.int k n) S := ⟨[], rfl⟩
theorem FZ_bool {b : Bool} {S : St} : FZ (.bool b) (.bool b) S := ⟨[], rfl⟩
theorem FZ_str {s : List UInt8} {S : St} : FZ (.str s) (.str s) S := ⟨[], rfl⟩
theorem FZ_tup {vs us : List AV} {S : St} (h : nrmA us = some vs) : FZ (.tup vs) (.tup us) S := ⟨[], by simp [frz, frzLA_of_nrmA S h]⟩
theorem FZ_tupF {vs us : List AV} {l : List (Nat × Nat)} {S : St} (h : frzLA S us = some (vs, l)) : FZ (.tup vs) (.tup us) S := ⟨l, by simp [frz, h]⟩
theorem FZ_sref {o g off len : Nat} {r r' : Rows} {S : St} (h : S.rows o g off len = some r) (h' : nrmR r = some r') : FZ (.vec r') (.sref o g off len) S := ⟨_, by simp [frz, frzA, frz1, h, h']; rfl⟩

/-- A function that is called on plain data: what its body comes to is all. -/
theorem PC_of {f : FuncId} {args args' : List AV} {v : AV} (he : c.ext f = none) (hm : c.mode f = .pure) (ha : nrmA args = some args')
    (h : CallQ c f args' St.nil (FZ v)) : PC c f args v := by
  intro S
  obtain ⟨r, S2, h1, l, h2⟩ := h
  simp [callF, callM, he, hm, frzLA_of_nrmA S ha, h1, h2, St.lockAll]

theorem PC_nrm {f : FuncId} {args args' : List AV} {v : AV} (he : c.ext f = none) (hm : c.mode f = .pure) (ha : nrmA args = some args') (ha' : nrmA args' = some args') (h : PC c f args' v) : PC c f args v := by
  intro S
  have := h S
  simp only [callF, callM, he, hm, frzLA_of_nrmA S ha, frzLA_of_nrmA S ha', Option.bind_some] at this ⊢
  exact this
end Go.Am

/- THE ABSTRACT MACHINE, THIRTY-SIXTH FILE: regions whose order is open, where nothing is written. -/
set_option linter.unusedSimpArgs false
set_option linter.unusedVariables false
namespace Go.Am
variable {c : Cfg}

/-- What an operation yields that turns no memory at all. -/
def opQ (c : Cfg) (R : Rec) (tm : List AV) (o : Oper) (S : St) : Option AV :=
  match aval c tm o S with
  | some v => some v
  | none =>
    match o.op with
    | .call { callee := .value (.func f), args, .. } =>
      (match c.ext f with
        | some (.val F) => (evalL tm args.toList).bind F
        | some _ => none
        | none => if c.mode f = .pure then (evalL tm args.toList).bind fun l => if (nrmA l).isSome then (callF c R f l St.nil).map Prod.fst else none else none)
    | _ => none

def Foot.quiet (x : Foot) : Prop := x.T = .ids [] ∧ x.N = false

theorem opQ_opD {R : Rec} {f r : Nat} {tm : List AV} {o : Oper} {S : St} {v : AV} (h : opQ c R tm o S = some v) : ∃ ft, opD c R f r tm o S = some (v, S, ft) ∧ ft.quiet := by
  unfold opQ at h
  unfold opD
  cases ha : aval c tm o S with
  | some u =>
    rw [ha] at h
    simp only [Option.some.injEq] at h
    subst h
    exact ⟨_, rfl, rfl, rfl⟩
  | none =>
    rw [ha] at h
    simp only at h
    split at h
    case h_2 => simp at h
    rename_i fn args tys hop
    cases he : c.ext fn with
    | some F =>
      rw [he] at h
      cases F with
      | push F => simp at h
      | val F =>
        simp only at h
        refine ⟨.none, ?_, rfl, rfl⟩
        simp [calmable, calm, hop, he, h]
    | none =>
      rw [he] at h
      simp only at h
      split at h
      case isFalse => simp at h
      rename_i hm
      simp only [Option.bind_eq_some_iff] at h
      obtain ⟨l, hl, h⟩ := h
      split at h
      case isFalse => simp at h
      rename_i hn
      rw [Option.isSome_iff_exists] at hn
      obtain ⟨l', hn⟩ := hn
      have hz := frzLA_of_nrmA St.nil hn
      simp only [callF, callM, he, hm, hz, Option.bind_some, Option.map_eq_some_iff] at h
      obtain ⟨⟨u, S1⟩, h1, rfl⟩ := h
      simp only [Option.bind_eq_some_iff, Option.map_eq_some_iff, St.lockAll, Option.some.injEq, Prod.mk.injEq] at h1
      obtain ⟨q, hq, w, hw, _, rfl, rfl, rfl⟩ := h1
      refine ⟨.none, ?_, rfl, rfl⟩
      simp [calmable, calm, hop, he, hm, hl, hz, hq, hw]

/-- The region, one after another. -/
def runQ (c : Cfg) (R : Rec) (ops : Array Oper) : List Oper → List AV → St → Option (List AV)
  | [], tm, _ => some tm
  | o :: l, tm, S => if awanted ops tm o then (opQ c R tm o S).bind fun v => runQ c R ops l (putT tm o.dst v) S else runQ c R ops l (putT tm o.dst .undef) S

theorem runQ_D {R : Rec} {f r : Nat} {ops : Array Oper} : ∀ {l : List Oper} {tm tm' : List AV} {S : St}, runQ c R ops l tm S = some tm' →
    ∃ fs, runOpsD c R f r ops l tm S = some (tm', S, fs) ∧ fs.length = l.length ∧ ∀ x ∈ fs, x.quiet
  | [], tm, tm', S, h => by
    simp only [runQ, Option.some.injEq] at h
    subst h
    exact ⟨[], rfl, rfl, fun x hx => by simp at hx⟩
  | o :: l, tm, tm', S, h => by
    unfold runQ at h
    split at h
    · rename_i hw
      simp only [Option.bind_eq_some_iff] at h
      obtain ⟨v, hv, h⟩ := h
      obtain ⟨ft, h1, h2⟩ := opQ_opD (f := f) (r := r) hv
      obtain ⟨fs, h3, h4, h5⟩ := runQ_D (f := f) (r := r) h
      refine ⟨ft :: fs, by simp [runOpsD, hw, h1, h3], by simp [h4], fun x hx => ?_⟩
      rcases List.mem_cons.1 hx with rfl | hx
      · exact h2
      · exact h5 x hx
    · rename_i hw
      obtain ⟨fs, h3, h4, h5⟩ := runQ_D (f := f) (r := r) h
      refine ⟨.none :: fs, by simp [runOpsD, hw, h3], by simp [h4], fun x hx => ?_⟩
      rcases List.mem_cons.1 hx with rfl | hx
      · exact ⟨rfl, rfl⟩
      · exact h5 x hx

theorem quiet_apart {x y : Foot} (hx : x.quiet) (hy : y.quiet) : x.apart y = true := by
  obtain ⟨F, T, N⟩ := x
  obtain ⟨F', T', N'⟩ := y
  obtain ⟨h1, h2⟩ := hx
  obtain ⟨h3, h4⟩ := hy
  simp only at h1 h2 h3 h4
  subst h1 h2 h3 h4
  have e : ∀ X : Ft, (Ft.ids []).apart X = true := fun X => by cases X <;> simp [Ft.apart]
  simp [Foot.apart, e]

theorem quiet_feetOk {ops : Array Oper} {l : List Foot} (hl : l.length = ops.size) (h : ∀ x ∈ l, x.quiet) : feetOk ops l = true := by
  unfold feetOk
  rw [List.all_eq_true]
  intro j hj
  rw [List.all_eq_true]
  intro i hi
  rw [List.mem_range] at hj hi
  rw [Bool.or_eq_true]
  right
  have h1 : i < l.length := by omega
  have h2 : j < l.length := by omega
  simp only [List.getElem?_eq_getElem h1, List.getElem?_eq_getElem h2]
  exact quiet_apart (h _ (List.getElem_mem h1)) (h _ (List.getElem_mem h2))

def RQ (c : Cfg) (q : RI) (l : List Oper) (tm : List AV) (S : St) (K : List AV → St → Prop) : Prop := ∃ tm', runQ c (lim c) q.ops l tm S = some tm' ∧ K tm' S

theorem RQ_nil (q : RI) (tm : List AV) (S : St) (K : List AV → St → Prop) : RQ c q [] tm S K = K tm S := by
  simp [RQ, runQ]
theorem RQ_guard (q : RI) (d : Option Tmp) (op : Op) (ty : TypeId) (p : String) (a : Array Edge) (j : Nat) (w : Bool) (l : List Oper) (tm : List AV) (S : St) (K : List AV → St → Prop) :
    RQ c q (⟨d, op, ty, p, a, some (j, w)⟩ :: l) tm S K = if ayielded q.ops tm j = some w then RQ c q (⟨d, op, ty, p, a, none⟩ :: l) tm S K else RQ c q l (putT tm d .undef) S K := by
  unfold RQ
  by_cases h : ayielded q.ops tm j = some w
  · rw [if_pos h]
    have hw : awanted q.ops tm ⟨d, op, ty, p, a, some (j, w)⟩ = true := by simp [awanted, h]
    have hw' : awanted q.ops tm ⟨d, op, ty, p, a, none⟩ = true := (rfl)
    simp only [runQ, hw, hw', if_true]
    rfl
  · rw [if_neg h]
    have hw : awanted q.ops tm ⟨d, op, ty, p, a, some (j, w)⟩ = false := by simpa [awanted] using h
    simp only [runQ, hw]
    rfl
def RQk (c : Cfg) (q : RI) (d : Option Tmp) (l : List Oper) (tm : List AV) (S : St) (K : List AV → St → Prop) (x : Option AV) : Prop := ∃ v, x = some v ∧ RQ c q l (putT tm d v) S K
theorem RQk_some (q : RI) (d : Option Tmp) (l : List Oper) (tm : List AV) (S : St) (v : AV) (K : List AV → St → Prop) : RQk c q d l tm S K (some v) = RQ c q l (putT tm d v) S K := by
  simp [RQk]
theorem RQ_step (q : RI) (d : Option Tmp) (op : Op) (ty : TypeId) (p : String) (a : Array Edge) (l : List Oper) (tm : List AV) (S : St) (K : List AV → St → Prop) :
    RQ c q (⟨d, op, ty, p, a, none⟩ :: l) tm S K = RQk c q d l tm S K (opQ c (lim c) tm ⟨d, op, ty, p, a, none⟩ S) := by
  unfold RQ RQk
  have hw' : awanted q.ops tm ⟨d, op, ty, p, a, none⟩ = true := (rfl)
  simp only [runQ, hw', if_true]
  cases opQ c (lim c) tm ⟨d, op, ty, p, a, none⟩ S <;> simp [RQ]

section
variable {R : Rec} {f r : Nat} {tm : List AV} {d : Option Tmp} {ty : TypeId} {p : String} {a : Array Edge} {g : Option (Nat × Bool)} {S : St}
theorem opQ_of_aval {o : Oper} {v : AV} (h : aval c tm o S = some v) : opQ c R tm o S = some v := by simp [opQ, h]
theorem opQ_call {fn : FuncId} {x : Array Operand} {t : Array TypeId} (he : c.ext fn = none) (hm : c.mode fn = .pure) :
    opQ c R tm ⟨d, .call { callee := .value (.func fn), args := x, argTypes := t }, ty, p, a, g⟩ S = (evalL tm x.toList).bind fun l => if (nrmA l).isSome then (callF c R fn l St.nil).map Prod.fst else none := by
  simp [opQ, aval_callv, he, hm]
theorem opQ_ext {fn : FuncId} {F : List AV → Option AV} {x : Array Operand} {t : Array TypeId} (he : c.ext fn = some (.val F)) :
    opQ c R tm ⟨d, .call { callee := .value (.func fn), args := x, argTypes := t }, ty, p, a, g⟩ S = (evalL tm x.toList).bind F := by
  simp [opQ, aval_callv, he]
end

theorem W_regionQ {Q : Ex → Fr → St → Prop} {S : St} {id : Nat} {ops : Array Oper} {tm : List AV} {mk : List Nat} {rd : Option Nat} {fn : Nat} (hd : drawOk ops = true)
    (h : ∀ K : List AV → St → Prop, (∀ tm' S', Q .nrm ⟨tm', mk, rd, fn⟩ S' → K tm' S') → RQ c ⟨fn, id, ops⟩ ops.toList tm S K) : W c (.region id ops true) ⟨tm, mk, rd, fn⟩ S Q := by
  obtain ⟨tm', h1, h2⟩ := h (fun tm' S' => Q .nrm ⟨tm', mk, rd, fn⟩ S') (fun _ _ h => h)
  refine ⟨.nrm, ⟨tm', mk, rd, fn⟩, S, ?_, h2⟩
  simp only at h1
  obtain ⟨fs, h3, h4, h5⟩ := runQ_D (f := fn) (r := id) h1
  simp only [execS, aregion]
  have hf := quiet_feetOk (ops := ops) (by simpa using h4) h5
  simp [hd, h3, hf, resvd_nil h3 hf]

/-! ### Regions whose order is open, at large -/
def opE (c : Cfg) (R : Rec) (f r : Nat) (tm : List AV) (o : Oper) (S : St) : Option (AV × St × Foot) :=
  match aval c tm o S with
  | some v => some (v, S, ⟨.ids (rfoot tm o), .ids [], false⟩)
  | none =>
    match opQ c R tm o S with
    | some v => some (v, S, .none)
    | none => if calmable c tm o then none else (aeff c R f r tm o S).map fun r => (r.1, r.2, wfoot c tm o S)

theorem opE_D {R : Rec} {f r : Nat} {tm : List AV} {o : Oper} {S : St} {z : AV × St × Foot} (h : opE c R f r tm o S = some z) : opD c R f r tm o S = some z := by
  unfold opE at h
  cases ha : aval c tm o S with
  | some v => rw [ha] at h; simpa [opD, ha] using h
  | none =>
    rw [ha] at h
    simp only at h
    cases hq : opQ c R tm o S with
    | none =>
      rw [hq] at h
      simp only at h
      split at h
      · simp at h
      · rename_i hc
        simpa [opD, ha, hc] using h
    | some v =>
      rw [hq] at h
      simp only [Option.some.injEq] at h
      subst h
      unfold opQ at hq
      rw [ha] at hq
      simp only at hq
      unfold opD
      rw [ha]
      simp only
      split at hq
      case h_2 => simp at hq
      rename_i fn args tys hop
      cases he : c.ext fn with
      | some F =>
        rw [he] at hq
        cases F with
        | push F => simp at hq
        | val F =>
          simp only at hq
          simp [calmable, calm, hop, he, hq]
      | none =>
        rw [he] at hq
        simp only at hq
        split at hq
        case isFalse => simp at hq
        rename_i hm
        simp only [Option.bind_eq_some_iff] at hq
        obtain ⟨l, hl, hq⟩ := hq
        split at hq
        case isFalse => simp at hq
        rename_i hn
        rw [Option.isSome_iff_exists] at hn
        obtain ⟨l', hn⟩ := hn
        have hz := frzLA_of_nrmA St.nil hn
        simp only [callF, callM, he, hm, hz, Option.bind_some, Option.map_eq_some_iff] at hq
        obtain ⟨⟨u, S1⟩, h1, rfl⟩ := hq
        simp only [Option.bind_eq_some_iff, Option.map_eq_some_iff, St.lockAll, Option.some.injEq, Prod.mk.injEq] at h1
        obtain ⟨q, hq, w, hw, _, rfl, rfl, rfl⟩ := h1
        simp [calmable, calm, hop, he, hm, hl, hz, hq, hw]

def runOpsE (c : Cfg) (R : Rec) (fid rid : Nat) (ops : Array Oper) : List Oper → List AV → St → Option (List AV × St × List Foot)
  | [], tm, S => some (tm, S, [])
  | o :: l, tm, S =>
    if awanted ops tm o then (opE c R fid rid tm o S).bind fun r => (runOpsE c R fid rid ops l (putT tm o.dst r.1) r.2.1).map fun q => (q.1, q.2.1, r.2.2 :: q.2.2)
    else (runOpsE c R fid rid ops l (putT tm o.dst .undef) S).map fun q => (q.1, q.2.1, .none :: q.2.2)

theorem runOpsE_D {R : Rec} {f r : Nat} {ops : Array Oper} : ∀ {l : List Oper} {tm : List AV} {S : St} {z : List AV × St × List Foot}, runOpsE c R f r ops l tm S = some z → runOpsD c R f r ops l tm S = some z ∧ z.2.2.length = l.length
  | [], tm, S, z, h => by simp only [runOpsE, Option.some.injEq] at h; subst h; exact ⟨rfl, rfl⟩
  | o :: l, tm, S, z, h => by
    unfold runOpsE at h
    split at h
    · rename_i hw
      simp only [Option.bind_eq_some_iff, Option.map_eq_some_iff] at h
      obtain ⟨v, hv, q, hq, rfl⟩ := h
      obtain ⟨h1, h2⟩ := runOpsE_D hq
      exact ⟨by simp [runOpsD, hw, opE_D hv, h1], by simp [h2]⟩
    · rename_i hw
      simp only [Option.map_eq_some_iff] at h
      obtain ⟨q, hq, rfl⟩ := h
      obtain ⟨h1, h2⟩ := runOpsE_D hq
      exact ⟨by simp [runOpsD, hw, h1], by simp [h2]⟩

def Foot.isQuiet (x : Foot) : Bool := (match x.T with | .ids [] => true | _ => false) && !x.N
theorem isQuiet_quiet {x : Foot} (h : x.isQuiet = true) : x.quiet := by
  obtain ⟨F, T, N⟩ := x
  unfold Foot.isQuiet at h
  unfold Foot.quiet
  cases T with
  | all => simp at h
  | but l => simp at h
  | ids l => cases l <;> simp_all
theorem apart_comm (x y : Foot) : x.apart y = y.apart x := by
  unfold Foot.apart
  rw [Bool.and_comm (x.T.apart y.F), Bool.and_comm x.N]
def pairOk (p : List (List Nat)) (x : Foot) (j : Nat) (y : Foot) (i : Nat) : Bool := i == j || (p.getD j []).contains i || (p.getD i []).contains j || x.apart y
/-- Those that write, beside all others. -/
def noisyOk (p : List (List Nat)) (fs : List Foot) : Bool := fs.zipIdx.all fun x => x.1.isQuiet || fs.zipIdx.all fun y => pairOk p x.1 x.2 y.1 y.2

theorem noisy_feetOk {ops : Array Oper} {p : List (List Nat)} {fs : List Foot} (hp : ahead ops = p) (hb : ((List.range ops.size).all fun i => (p.getD i []).all (· < i)) = true) (hl : fs.length = ops.size) (h : noisyOk p fs = true) : feetOk ops fs = true := by
  unfold feetOk
  rw [hp]
  rw [List.all_eq_true] at hb ⊢
  intro j hj
  rw [List.all_eq_true]
  intro i hi
  rw [List.mem_range] at hi
  have hj' := hj
  rw [List.mem_range] at hj
  rw [Bool.or_eq_true]
  have h1 : i < fs.length := by omega
  have h2 : j < fs.length := by omega
  have e1 := List.getElem?_eq_getElem h1
  have e2 := List.getElem?_eq_getElem h2
  simp only [e1, e2]
  unfold noisyOk at h
  rw [List.all_eq_true] at h
  have hnot : ∀ k, j ≤ k → (p.getD i []).contains k = false := by
    intro k hk
    by_cases hc : (p.getD i []).contains k = true
    · have := hb i (by rw [List.mem_range]; omega)
      rw [List.all_eq_true] at this
      have := this k (by simpa using hc)
      simp only [decide_eq_true_eq] at this
      omega
    · simpa using hc
  have key : ∀ (a b : Nat) (ha : a < fs.length) (hb' : b < fs.length), (fs[a].isQuiet = true) ∨ pairOk p fs[a] a fs[b] b = true := by
    intro a b ha hb'
    have := h (fs[a], a) (by rw [List.mem_zipIdx_iff_getElem?]; simp [ha])
    rw [Bool.or_eq_true, List.all_eq_true] at this
    rcases this with h' | h'
    · exact .inl h'
    · exact .inr (h' (fs[b], b) (by rw [List.mem_zipIdx_iff_getElem?]; simp [hb']))
  rcases key j i h2 h1 with k1 | k1
  · rcases key i j h1 h2 with k2 | k2
    · exact .inr (quiet_apart (isQuiet_quiet k2) (isQuiet_quiet k1))
    · unfold pairOk at k2
      simp only [Bool.or_eq_true, beq_iff_eq] at k2
      rcases k2 with ((k2 | k2) | k2) | k2
      · omega
      · rw [hnot j (Nat.le_refl _)] at k2; cases k2
      · exact .inl k2
      · exact .inr k2
  · unfold pairOk at k1
    simp only [Bool.or_eq_true, beq_iff_eq] at k1
    rcases k1 with ((k1 | k1) | k1) | k1
    · omega
    · exact .inl k1
    · rw [hnot j (Nat.le_refl _)] at k1; cases k1
    · rw [apart_comm]; exact .inr k1

def RD (c : Cfg) (q : RI) (p : List (List Nat)) (l : List Oper) (tm : List AV) (S : St) (fs : List Foot) (K : List AV → St → Prop) : Prop :=
  ∃ z, runOpsE c (lim c) q.fid q.rid q.ops l tm S = some z ∧ noisyOk p (fs ++ z.2.2) = true ∧ K z.1 z.2.1
theorem RD_nil (q : RI) (p : List (List Nat)) (tm : List AV) (S : St) (fs : List Foot) (K : List AV → St → Prop) : RD c q p [] tm S fs K = (noisyOk p fs = true ∧ K tm S) := by
  simp [RD, runOpsE]
theorem RD_guard (q : RI) (pp : List (List Nat)) (d : Option Tmp) (op : Op) (ty : TypeId) (p : String) (a : Array Edge) (j : Nat) (w : Bool) (l : List Oper) (tm : List AV) (S : St) (fs : List Foot) (K : List AV → St → Prop) :
    RD c q pp (⟨d, op, ty, p, a, some (j, w)⟩ :: l) tm S fs K = if ayielded q.ops tm j = some w then RD c q pp (⟨d, op, ty, p, a, none⟩ :: l) tm S fs K else RD c q pp l (putT tm d .undef) S (fs ++ [.none]) K := by
  unfold RD
  by_cases h : ayielded q.ops tm j = some w
  · rw [if_pos h]
    have hw : awanted q.ops tm ⟨d, op, ty, p, a, some (j, w)⟩ = true := by simp [awanted, h]
    have hw' : awanted q.ops tm ⟨d, op, ty, p, a, none⟩ = true := (rfl)
    simp only [runOpsE, hw, hw', if_true]
    rfl
  · rw [if_neg h]
    have hw : awanted q.ops tm ⟨d, op, ty, p, a, some (j, w)⟩ = false := by simpa [awanted] using h
    simp only [runOpsE, hw]
    rw [if_neg (by simp)]
    cases runOpsE c (lim c) q.fid q.rid q.ops l (putT tm d AV.undef) S <;> simp
def RDk (c : Cfg) (q : RI) (pp : List (List Nat)) (d : Option Tmp) (l : List Oper) (tm : List AV) (fs : List Foot) (K : List AV → St → Prop) (x : Option (AV × St × Foot)) : Prop := ∃ v S f, x = some (v, S, f) ∧ RD c q pp l (putT tm d v) S (fs ++ [f]) K
theorem RDk_some (q : RI) (pp : List (List Nat)) (d : Option Tmp) (l : List Oper) (tm : List AV) (S : St) (v : AV) (f : Foot) (fs : List Foot) (K : List AV → St → Prop) : RDk c q pp d l tm fs K (some (v, S, f)) = RD c q pp l (putT tm d v) S (fs ++ [f]) K := by
  unfold RDk
  apply propext
  constructor
  · rintro ⟨v', S', f', h, k⟩
    simp only [Option.some.injEq, Prod.mk.injEq] at h
    obtain ⟨rfl, rfl, rfl⟩ := h
    exact k
  · exact fun k => ⟨_, _, _, rfl, k⟩
theorem RD_stepE (q : RI) (pp : List (List Nat)) (d : Option Tmp) (op : Op) (ty : TypeId) (p : String) (a : Array Edge) (l : List Oper) (tm : List AV) (S : St) (fs : List Foot) (K : List AV → St → Prop) :
    RD c q pp (⟨d, op, ty, p, a, none⟩ :: l) tm S fs K = RDk c q pp d l tm fs K (opE c (lim c) q.fid q.rid tm ⟨d, op, ty, p, a, none⟩ S) := by
  have hw' : awanted q.ops tm ⟨d, op, ty, p, a, none⟩ = true := (rfl)
  cases ho : opE c (lim c) q.fid q.rid tm ⟨d, op, ty, p, a, none⟩ S with
  | none =>
    unfold RD RDk
    simp [runOpsE, hw', ho]
  | some v =>
    obtain ⟨v, S1, f⟩ := v
    rw [RDk_some]
    unfold RD
    simp only [runOpsE, hw', if_true, ho, Option.bind_some]
    cases runOpsE c (lim c) q.fid q.rid q.ops l (putT tm d v) S1 <;> simp

/-- An operation that is not 'aval''s. -/
def opX (c : Cfg) (R : Rec) (f r : Nat) (tm : List AV) (o : Oper) (S : St) : Option (AV × St × Foot) :=
  match opQ c R tm o S with
  | some v => some (v, S, .none)
  | none => if calmable c tm o then none else (aeff c R f r tm o S).map fun r => (r.1, r.2, wfoot c tm o S)
def RDa (c : Cfg) (q : RI) (pp : List (List Nat)) (o : Oper) (l : List Oper) (tm : List AV) (S : St) (fs : List Foot) (K : List AV → St → Prop) : Option AV → Prop
  | some v => RD c q pp l (putT tm o.dst v) S (fs ++ [⟨.ids (rfoot tm o), .ids [], false⟩]) K
  | none => RDk c q pp o.dst l tm fs K (opX c (lim c) q.fid q.rid tm o S)
theorem RDa_some (q : RI) (pp : List (List Nat)) (d : Option Tmp) (op : Op) (ty : TypeId) (p : String) (a : Array Edge) (g : Option (Nat × Bool)) (l : List Oper) (tm : List AV) (S : St) (fs : List Foot) (K : List AV → St → Prop) (v : AV) :
    RDa c q pp ⟨d, op, ty, p, a, g⟩ l tm S fs K (some v) = RD c q pp l (putT tm d v) S (fs ++ [⟨.ids (rfoot tm ⟨d, op, ty, p, a, g⟩), .ids [], false⟩]) K := (rfl)
theorem RDa_none (q : RI) (pp : List (List Nat)) (d : Option Tmp) (op : Op) (ty : TypeId) (p : String) (a : Array Edge) (g : Option (Nat × Bool)) (l : List Oper) (tm : List AV) (S : St) (fs : List Foot) (K : List AV → St → Prop) :
    RDa c q pp ⟨d, op, ty, p, a, g⟩ l tm S fs K none = RDk c q pp d l tm fs K (opX c (lim c) q.fid q.rid tm ⟨d, op, ty, p, a, g⟩ S) := (rfl)
theorem RD_step (q : RI) (pp : List (List Nat)) (d : Option Tmp) (op : Op) (ty : TypeId) (p : String) (a : Array Edge) (l : List Oper) (tm : List AV) (S : St) (fs : List Foot) (K : List AV → St → Prop) :
    RD c q pp (⟨d, op, ty, p, a, none⟩ :: l) tm S fs K = RDa c q pp ⟨d, op, ty, p, a, none⟩ l tm S fs K (aval c tm ⟨d, op, ty, p, a, none⟩ S) := by
  rw [RD_stepE]
  unfold opE
  cases aval c tm ⟨d, op, ty, p, a, none⟩ S with
  | some v => simp only; rw [RDk_some]; rfl
  | none => rfl

section
variable {R : Rec} {f r : Nat} {tm : List AV} {d : Option Tmp} {ty : TypeId} {p : String} {a : Array Edge} {g : Option (Nat × Bool)} {S : St}
theorem opX_alloc {t : TypeId} : opX c R f r tm ⟨d, .alloc t, ty, p, a, g⟩ S = (c.ty t).bind fun i => i.zero.map fun z => (.ptr S.n 0, S.push (.row z false), ⟨.ids [S.n], .ids [S.n], true⟩) := by
  unfold opX
  rw [show opQ c R tm ⟨d, .alloc t, ty, p, a, g⟩ S = none from rfl]
  have hc : calmable c tm ⟨d, .alloc t, ty, p, a, g⟩ = false := (rfl)
  simp only [hc]
  rw [if_neg (by simp)]
  simp only [aeff_alloc, wfoot]
  cases c.ty t with
  | none => rfl
  | some i => simp only [Option.bind_some]; cases i.zero <;> rfl
theorem opX_box {t : TypeId} {x : Operand} : opX c R f r tm ⟨d, .box t x, ty, p, a, g⟩ S = (evalT tm x).bind fun v => if leafC v then some (.ptr S.n 0, S.push (.row v.cells false), ⟨.ids [S.n], .ids [S.n], true⟩) else none := by
  unfold opX
  rw [show opQ c R tm ⟨d, .box t x, ty, p, a, g⟩ S = none from rfl]
  have hc : calmable c tm ⟨d, .box t x, ty, p, a, g⟩ = false := (rfl)
  simp only [hc]
  rw [if_neg (by simp)]
  simp only [aeff_box, wfoot]
  cases evalT tm x with
  | none => rfl
  | some v => simp only [Option.bind_some]; cases leafC v <;> simp
theorem opX_store {t : TypeId} {x y : Operand} : opX c R f r tm ⟨d, .store t x y, ty, p, a, g⟩ S = (c.ty t).bind fun i => (evalT tm x).bind fun q => (evalT tm y).bind fun v => (S.store i q v).map fun S' => (.undef, S', ⟨.ids (refsO tm x), .ids (refsO tm x), false⟩) := by
  unfold opX
  rw [show opQ c R tm ⟨d, .store t x y, ty, p, a, g⟩ S = none from rfl]
  have hc : calmable c tm ⟨d, .store t x y, ty, p, a, g⟩ = false := (rfl)
  simp only [hc]
  rw [if_neg (by simp)]
  simp only [aeff_store, wfoot]
  cases c.ty t with
  | none => rfl
  | some i =>
    cases evalT tm x with
    | none => rfl
    | some q =>
      cases evalT tm y with
      | none => rfl
      | some v => simp only [Option.bind_some]; cases S.store i q v <;> rfl
theorem opX_append {x y : Operand} {t u : TypeId} : opX c R f r tm ⟨d, .call { callee := .builtin .append, args := #[x, y], argTypes := #[t, u] }, ty, p, a, g⟩ S =
    (aeff c R f r tm ⟨d, .call { callee := .builtin .append, args := #[x, y], argTypes := #[t, u] }, ty, p, a, g⟩ S).map fun z => (z.1, z.2, wfoot c tm ⟨d, .call { callee := .builtin .append, args := #[x, y], argTypes := #[t, u] }, ty, p, a, g⟩ S) := by
  unfold opX
  rw [show opQ c R tm ⟨d, .call { callee := .builtin .append, args := #[x, y], argTypes := #[t, u] }, ty, p, a, g⟩ S = none from rfl]
  simp [calmable]
/-- A call on plain data. -/
noncomputable def opP (c : Cfg) (fn : Nat) (x : Option (List AV)) (S : St) (z : Option (AV × St × Foot)) : Option (AV × St × Foot) :=
  match x with
  | some l => if (nrmA l).isSome then (match callF c (lim c) fn l St.nil with | some r => some (r.1, S, .none) | none => z) else z
  | none => z
theorem opX_call {fn : FuncId} {x : Array Operand} {t : Array TypeId} (he : c.ext fn = none) (hm : c.mode fn = .pure) {l l' : List AV} (hl : evalL tm x.toList = some l) (hn : nrmA l = some l') {v : AV} (hc : callF c (lim c) fn l St.nil = some (v, St.nil)) :
    opX c (lim c) f r tm ⟨d, .call { callee := .value (.func fn), args := x, argTypes := t }, ty, p, a, g⟩ S = some (v, S, .none) := by
  unfold opX
  rw [opQ_call he hm, hl]
  simp [hn, hc]
theorem RDk_call {q : RI} {pp : List (List Nat)} {fn : FuncId} {x : Array Operand} {t : Array TypeId} {l : List Oper} {fs : List Foot} {K : List AV → St → Prop} (he : c.ext fn = none) (hm : c.mode fn = .pure) :
    RDk c q pp d l tm fs K (opX c (lim c) f r tm ⟨d, .call { callee := .value (.func fn), args := x, argTypes := t }, ty, p, a, g⟩ S) =
    RDk c q pp d l tm fs K (opP c fn (evalL tm x.toList) S (opX c (lim c) f r tm ⟨d, .call { callee := .value (.func fn), args := x, argTypes := t }, ty, p, a, g⟩ S)) := by
  congr 1
  unfold opP
  split
  · rename_i l hl
    split
    · rename_i hn
      rw [Option.isSome_iff_exists] at hn
      obtain ⟨l', hn⟩ := hn
      split
      · rename_i r hr
        unfold opX
        rw [opQ_call he hm, hl]
        simp [hn, hr]
      · rfl
    · rfl
  · rfl
end

theorem W_regionD {Q : Ex → Fr → St → Prop} {S : St} {id : Nat} {ops : Array Oper} {tm : List AV} {mk : List Nat} {rd : Option Nat} {fn : Nat} (p : List (List Nat)) (hd : drawOk ops = true) (hp : ahead ops = p)
    (hb : ((List.range ops.size).all fun i => (p.getD i []).all (· < i)) = true)
    (h : ∀ K : List AV → St → Prop, (∀ tm' S', Q .nrm ⟨tm', mk, rd, fn⟩ S' → K tm' S') → RD c ⟨fn, id, ops⟩ p ops.toList tm S [] K) : W c (.region id ops true) ⟨tm, mk, rd, fn⟩ S Q := by
  obtain ⟨⟨tm', S', fs⟩, h1, h2, h3⟩ := h (fun tm' S' => Q .nrm ⟨tm', mk, rd, fn⟩ S') (fun _ _ h => h)
  refine ⟨.nrm, ⟨tm', mk, rd, fn⟩, S', ?_, h3⟩
  simp only [List.nil_append] at h1 h2
  obtain ⟨h4, h5⟩ := runOpsE_D h1
  have h6 := noisy_feetOk hp hb (by simpa using h5) h2
  simp only [execS, aregion]
  simp [hd, h4, h6, resvd_nil h4 h6]
/-! ### Regions with places kept ready -/
structure RJ where
  fid : Nat
  rid : Nat
  ops : Array Oper
  p : List (List Nat)
  rs : List Nat
  n : Nat
  K : List Nat

def KPl (K : List Nat) (S : St) : Prop := ∀ k ∈ K, isPlain (S.get k) = true

def RR (c : Cfg) (q : RJ) (l : List Oper) (i : Nat) (tm : List AV) (S : St) (fs : List Foot) (Q : List AV → St → Prop) : Prop :=
  KPl q.K S → ∃ z, runOpsR c (lim c) q.fid q.rid q.ops q.K (ridOf q.rs q.n) l i tm S = some z ∧ z.2.2.length = l.length ∧ noisyOk q.p (fs ++ z.2.2) = true ∧ Q z.1 z.2.1

theorem RR_nil {q : RJ} {i : Nat} {tm : List AV} {S : St} {fs : List Foot} {Q : List AV → St → Prop} (h : noisyOk q.p fs = true) (k : Q tm S) : RR c q [] i tm S fs Q := fun _ => ⟨(tm, S, []), rfl, rfl, by simpa using h, k⟩

theorem RR_op {q : RJ} {o : Oper} {l : List Oper} {i : Nat} {tm : List AV} {S S1 : St} {fs : List Foot} {Q : List AV → St → Prop} {v : AV} {f : Foot} (hg : o.guard = none)
    (ho : opR c (lim c) q.fid q.rid q.K (ridOf q.rs q.n i) tm o S = some (v, S1, f)) (hk : KPl q.K S → KPl q.K S1) (h : RR c q l (i + 1) (putT tm o.dst v) S1 (fs ++ [f]) Q) : RR c q (o :: l) i tm S fs Q := fun hK => by
  obtain ⟨z, h1, h2, h3, h4⟩ := h (hk hK)
  refine ⟨(z.1, z.2.1, f :: z.2.2), ?_, by simp [h2], by simpa using h3, h4⟩
  have hw : awanted q.ops tm o = true := by simp [awanted, hg]
  simp only [runOpsR, hw, if_true, ho, Option.bind_some]
  rw [if_pos (List.all_eq_true.2 (hk hK)), h1]
  rfl

theorem aval_noraw {tm : List AV} {o : Oper} {S : St} {v : AV} (h : aval c tm o S = some v) : rawCall c o = false := by
  obtain ⟨dst, op, type, pos, after, guard⟩ := o
  cases op with
  | call cl =>
    obtain ⟨callee, args, argTypes⟩ := cl
    cases callee with
    | value f => simp [aval] at h
    | _ => rfl
  | _ => rfl

/-- An operation that turns no memory. -/
theorem RR_val {q : RJ} {o : Oper} {l : List Oper} {i : Nat} {tm : List AV} {S : St} {fs : List Foot} {Q : List AV → St → Prop} {v : AV} (hr : q.rs.contains i = false) (hg : o.guard = none) (hv : aval c tm o S = some v)
    (h : RR c q l (i + 1) (putT tm o.dst v) S (fs ++ [⟨.ids (rfoot tm o), .ids [], false⟩]) Q) : RR c q (o :: l) i tm S fs Q := by
  refine RR_op hg ?_ id h
  unfold opR ridOf
  rw [hr]
  simp only [Bool.false_eq_true, if_false, aval_noraw hv, and_false]
  simp only [opD, hv]

/-- A store. -/
theorem RR_store {q : RJ} {d : Option Tmp} {t : TypeId} {a x : Operand} {ty : TypeId} {pp : String} {af : Array Edge} {l : List Oper} {i : Nat} {tm : List AV} {S S1 : St} {fs : List Foot} {Q : List AV → St → Prop} (hr : q.rs.contains i = false)
    (hv : aeff c (lim c) q.fid q.rid tm ⟨d, .store t a x, ty, pp, af, none⟩ S = some (.undef, S1)) (hk : KPl q.K S → KPl q.K S1)
    (h : RR c q l (i + 1) (putT tm d .undef) S1 (fs ++ [⟨.ids (refsO tm a), .ids (refsO tm a), false⟩]) Q) : RR c q (⟨d, .store t a x, ty, pp, af, none⟩ :: l) i tm S fs Q := by
  refine RR_op rfl ?_ hk h
  unfold opR ridOf
  rw [hr]
  simp only [Bool.false_eq_true, if_false, rawCall, and_false]
  simp only [opD, aval, calmable, Bool.false_eq_true, if_false, hv, Option.map_some, wfoot]

/-- What is made where a place is kept. -/
theorem RR_alloc {q : RJ} {d : Option Tmp} {e : TypeId} {ty : TypeId} {pp : String} {af : Array Edge} {l : List Oper} {i : Nat} {tm : List AV} {S : St} {fs : List Foot} {Q : List AV → St → Prop} {it : Ty} {z : List AV} {r : Nat} (hr : ridOf q.rs q.n i = some r)
    (hi : c.ty e = some it) (hz : it.zero = some z) (hd : S.get r = some .dead) (hb : S.base ≤ r) (hok : S.ok)
    (h : RR c q l (i + 1) (putT tm d (.ptr r 0)) (S.set r (.row z false)) (fs ++ [⟨.ids [r], .ids [r], false⟩]) Q) : RR c q (⟨d, .alloc e, ty, pp, af, none⟩ :: l) i tm S fs Q := by
  refine RR_op (S1 := S.set r (.row z false)) rfl ?_ (fun hK k hk => ?_) h
  · unfold opR
    rw [hr]
    simp only [hi, hz, Option.bind_some, hd, isDead, true_and, if_pos hb]
  · by_cases e : k = r
    · subst e
      rw [St.get_sete hok (St.get_lt hd)]; rfl
    · rw [St.get_setn (St.get_lt hd) e]; exact hK k hk

/-- A call on the caller's memory: it sees none of some rows. -/
theorem RR_raw {q : RJ} {d : Option Tmp} {fn : FuncId} {x : Array Operand} {t : Array TypeId} {ty : TypeId} {pp : String} {af : Array Edge} {l : List Oper} {i : Nat} {tm : List AV} {S S2 : St} {fs : List Foot} {Q : List AV → St → Prop} {al : List AV} {v : AV} (hr : q.rs.contains i = false)
    (hK0 : q.K ≠ []) (he : c.ext fn = none) (hm : c.mode fn = .raw) (ha : evalL tm x.toList = some al) (hc : (lim c).call fn al (S.kill q.K) = some (v, S2)) (hd : ∀ k ∈ q.K, S2.get k = some .dead) (hl : S2.ok) (hS : S.ok)
    (h : RR c q l (i + 1) (putT tm d v) (S.rest S2 q.K) (fs ++ [⟨.but q.K, .but q.K, true⟩]) Q) : RR c q (⟨d, .call { callee := .value (.func fn), args := x, argTypes := t }, ty, pp, af, none⟩ :: l) i tm S fs Q := by
  refine RR_op (S1 := S.rest S2 q.K) rfl ?_ (fun hK k hk => ?_) h
  · unfold opR ridOf
    rw [hr]
    have hraw : rawCall c ⟨d, .call { callee := .value (.func fn), args := x, argTypes := t }, ty, pp, af, none⟩ = true := by simp [rawCall, he, hm]
    have hae : aeff c (lim c) q.fid q.rid tm ⟨d, .call { callee := .value (.func fn), args := x, argTypes := t }, ty, pp, af, none⟩ (S.kill q.K) = some (v, S2) := by
      simp only [aeff, evalT, Option.bind_some, ha, callV, List.nil_append, List.append_nil, callF, he, callM, hm, hc]
    simp only [Bool.false_eq_true, if_false, hraw, and_true, ne_eq, hK0, not_false_eq_true, if_true, hae, Option.bind_some]
    rw [if_pos (List.all_eq_true.2 fun k hk => by rw [hd k hk]; rfl)]
  · rw [St.get_rest hl (fun k hk => St.get_lt (hd k hk)) (fun k hk => by obtain ⟨a, ha, _⟩ := isPlain_some (hK k hk); rw [ha]; rfl), if_pos hk]
    exact hK k hk

theorem W_regionR {Q : Ex → Fr → St → Prop} {S : St} {id : Nat} {ops : Array Oper} {tm : List AV} {mk : List Nat} {rd : Option Nat} {fn : Nat} (p : List (List Nat)) (rs : List Nat) (K : List Nat) (hd : drawOk ops = true) (hp : ahead ops = p)
    (hb : ((List.range ops.size).all fun i => (p.getD i []).all (· < i)) = true) (hrs : resvd c ops = rs) (hrn : rs ≠ []) (hKe : placesOf S.n rs.length ++ aside c ops tm S = K) (hok : S.ok)
    (h : ∀ Q' : List AV → St → Prop, (∀ tm' S', Q .nrm ⟨tm', mk, rd, fn⟩ S' → Q' tm' S') → RR c ⟨fn, id, ops, p, rs, S.n, K⟩ ops.toList 0 tm (S.pushD rs.length) [] Q') : W c (.region id ops true) ⟨tm, mk, rd, fn⟩ S Q := by
  have hKP : KPl K (S.pushD rs.length) := fun k hk => by
    rw [← hKe] at hk
    rcases List.mem_append.1 hk with hk | hk
    · rw [placesOf, List.mem_map] at hk
      obtain ⟨j, hj, rfl⟩ := hk
      rw [List.mem_range] at hj
      rw [pushD_get hok (by omega) (by omega)]; rfl
    · unfold aside at hk
      rw [List.mem_filter] at hk
      rw [pushD_old (isRow_some hk.2)]
      exact isRow_plain hk.2
  obtain ⟨⟨tm', S', fs⟩, h1, h2, h3, h4⟩ := h (fun tm' S' => Q .nrm ⟨tm', mk, rd, fn⟩ S') (fun _ _ h => h) hKP
  refine ⟨.nrm, ⟨tm', mk, rd, fn⟩, S', ?_, h4⟩
  simp only [List.nil_append] at h1 h2 h3
  have h6 := noisy_feetOk hp hb (by simpa using h2) h3
  simp only [execS, aregion, if_true, hd, hrs, hrn, if_false, hKe]
  rw [h1]
  simp [h6]
end Go.Am

/- THE ABSTRACT MACHINE, THIRTY-SEVENTH FILE: a program's types and functions as the machine sees them. -/
set_option linter.unusedVariables false
namespace Go.Am

/-- How the functions are called. -/
structure Ways where
  mode : FuncId → CM
  ext : FuncId → Option XT
  muts : FuncId → Nat → Bool
  eqt : TypeId → Bool

noncomputable def cfgP (P : Program) (w : Ways) : Cfg :=
  ⟨tyOf P, fun f => match P.funcs[f]? with | some g => if (g.name == "runtime.NumGoroutine") = true then none else some g | none => none, w.mode, w.ext, w.muts, w.eqt⟩

variable (P : Program) (w : Ways)
theorem cfgP_ty : (cfgP P w).ty = tyOf P := (rfl)
theorem cfgP_mode : (cfgP P w).mode = w.mode := (rfl)
theorem cfgP_ext : (cfgP P w).ext = w.ext := (rfl)
theorem cfgP_muts : (cfgP P w).muts = w.muts := (rfl)
theorem cfgP_eqt : (cfgP P w).eqt = w.eqt := (rfl)
variable {P w}
theorem cfgP_fnd {f : FuncId} {g : Func} (h : P.funcs[f]? = some g) (k : (g.name == "runtime.NumGoroutine") = false) : (cfgP P w).fn f = some g := by
  show (match P.funcs[f]? with | some g => if (g.name == "runtime.NumGoroutine") = true then none else some g | none => none) = _
  rw [h]
  simp [k]
theorem cfgP_fn {f : FuncId} {g : Func} (h : (cfgP P w).fn f = some g) : P.funcs[f]? = some g ∧ (g.name == "runtime.NumGoroutine") = false := by
  have h' : (match P.funcs[f]? with | some g => if (g.name == "runtime.NumGoroutine") = true then none else some g | none => none) = some g := h
  split at h'
  · rename_i g' hg
    split at h'
    · simp at h'
    · rename_i hn
      simp only [Option.some.injEq] at h'
      subst h'
      exact ⟨hg, by simpa using hn⟩
  · simp at h'
theorem cfgP_tyd {t : TypeId} {i : Ty} (h : tyOf P t = some i) : (cfgP P w).ty t = some i := by rw [cfgP_ty]; exact h
theorem cfgP_kind {t : TypeId} {i : Ty} (h : tyOf P t = some i) : kindOf (cfgP P w) t = i.kind := by unfold kindOf; rw [cfgP_tyd h]
end Go.Am

/- THE ABSTRACT MACHINE, THIRTY-EIGHTH FILE: ranges over functions. -/
set_option linter.unusedSimpArgs false
set_option linter.unusedVariables false
namespace Go.Am
variable {c : Cfg}

/-- What a loop over a function is, but for how it stands. -/
structure Lp where
  fn : FuncId
  tm : List AV
  ps : List Tmp
  asg : Code
  body : Code
  d : Nat
def Lp.at (L : Lp) (st : LoopState) (e : Ex) : AObj := .loop st e L.fn L.tm L.ps L.asg L.body L.d

theorem W_range {x : Operand} {ps : Array Tmp} {asg body : Code} {tm : List AV} {mk : List Nat} {fn f : Nat} {first cap : List AV} {S : St} {Q : Ex → Fr → St → Prop} (hg : evalT tm x = some (.fn f first cap))
    (h : ∀ L : Lp, L = ⟨fn, tm, ps.toList, asg, body, S.n⟩ → CallQ c f (first ++ [.yield (S.n + 1)] ++ cap) ((S.push .dfr).push (L.at .ready .nrm))
      fun _ S' => ∃ st e, S'.get (S.n + 1) = some (L.at st e) ∧ st ≠ .busy ∧ S'.base ≤ S.n + 1 ∧ Q e ⟨tm, S.n :: mk, none, fn⟩ (S'.set (S.n + 1) (L.at .exhausted e))) :
    W c (.rangeFunc x ps asg body) ⟨tm, mk, none, fn⟩ S Q := by
  obtain ⟨v, S', h1, st, e, h2, h3, h4, h5⟩ := h _ rfl
  refine ⟨e, _, _, ?_, h5⟩
  have hg' : evalT (Fr.mk tm mk none fn).tmps x = some (.fn f first cap) := hg
  simp only [execS, rangeStart, Option.bind_some, hg']
  simp only [St.push_n]
  have h1' : (lim c).call f (first ++ [AV.yield (S.n + 1)] ++ cap) ((S.push .dfr).push (.loop .ready .nrm fn tm ps.toList asg body S.n)) = some (v, S') := h1
  rw [h1']
  simp only [Option.bind_some, rangeEnd, h2, Lp.at]
  rw [if_neg h3, St.putO_base h4]
  rfl

/-- A round: what the body leaves. -/
def YQ (l : Nat) (L : Lp) (K : AV → St → Prop) : Ex → Fr → St → Prop := fun e _ S => (∃ st e', S.get l = some (L.at st e')) ∧ S.base ≤ l ∧ K (.bool (decide (e = .nrm))) (S.set l (L.at (if e = .nrm then .ready else .done) e))

def YA (c : Cfg) (l : Nat) (L : Lp) (K : AV → St → Prop) : Ex → Fr → St → Prop := fun e fr S => e = .nrm ∧ ∃ p, S.get l = some (L.at .ready p) ∧ S.base ≤ l ∧ W c L.body fr (S.set l (L.at .busy p)) (YQ l L K)

theorem yield_of {l : Nat} {L : Lp} {p : Ex} {args : List AV} {S : St} {K : AV → St → Prop} (hg : S.get l = some (L.at .ready p)) (hl : args.length = L.ps.length)
    (h : W c L.asg ⟨(L.ps.zip args).foldl (fun t pa => tput t pa.1 pa.2) L.tm, [], some l, L.fn⟩ S (YA c l L K)) : ∃ v S', yieldS (lim c) l args S = some (v, S') ∧ K v S' := by
  obtain ⟨e1, fr1, S1, h1, rfl, p1, h2, h3, e2, fr2, S2, h4, ⟨st, e', h5⟩, h6, h7⟩ := h
  refine ⟨_, _, ?_, h7⟩
  unfold yieldS
  rw [hg]
  simp only [Lp.at]
  simp only [tput] at h1
  rw [if_pos hl, lim_code_eq, h1]
  simp only [Option.bind_some, if_true]
  rw [h2]
  simp only [Lp.at]
  rw [St.putO_base h3]
  simp only [Option.bind_some]
  simp only [Lp.at] at h4
  rw [lim_code_eq, h4]
  simp only [Option.bind_some]
  rw [h5]
  simp only [Lp.at]
  rw [St.putO_base h6]
  rfl

theorem St.set_push {S : St} {a x : AObj} {i : Nat} : (S.push a).set i x = if S.n ≤ i then S.push x else (S.set i x).push a := by
  unfold St.set St.push
  simp only
  split
  · rw [show S.n + 1 - 1 - i = 0 by omega]; rfl
  · rw [show S.n + 1 - 1 - i = (S.n - 1 - i) + 1 by omega]; rfl

theorem call_eq_of {f : FuncId} {args : List AV} {S S' : St} {v : AV} (h : CallQ c f args S fun r S2 => r = v ∧ S2 = S') : (lim c).call f args S = some (v, S') := by
  obtain ⟨r, S2, h1, rfl, rfl⟩ := h
  exact h1
theorem callF_raw {f : FuncId} {args : List AV} {S : St} (he : c.ext f = none) (hm : c.mode f = .raw) : callF c (lim c) f args S = (lim c).call f args S := by simp [callF, callM, he, hm]

/-- Deferred lists go when a function ends. -/
theorem AtEnd_one {rs : List ResultVar} {K : AV → St → Prop} {ex : Ex} {tm : List AV} {rd : Option Nat} {fn m : Nat} {S : St} (h : isRet ex = true) (hm : S.get m = some .dfr) (hb : S.base ≤ m) (k : RS (aresults c (S.set m .dead) tm rs) fun l => K (one l) (S.set m .dead)) :
    AtEnd c rs K ex ⟨tm, [m], rd, fn⟩ S :=
  let ⟨l, h1, h2⟩ := k
  ⟨h, S.set m .dead, l, by simp [unmark, hm, St.putO_base hb], h1, h2⟩
/-- Memory, of which nothing may be turned. -/
def St.reb (S : St) : St := { S with base := S.n }
theorem St.reb_get (S : St) (i : Nat) : S.reb.get i = S.get i := by cases S; rfl
theorem St.reb_n (S : St) : S.reb.n = S.n := by cases S; rfl
theorem St.reb_base (S : St) : S.reb.base = S.n := by cases S; rfl
theorem St.reb_ok {S : St} (h : S.ok) : S.reb.ok := h
theorem callF_temp {f : FuncId} {args : List AV} {S : St} {v : AV} (he : c.ext f = none) (hm : c.mode f = .temp) (h : CallQ c f args S.reb fun r S' => frz S' r = some (v, [])) : callF c (lim c) f args S = some (v, S) := by
  obtain ⟨r, S', h1, h2⟩ := h
  unfold St.reb at h1
  simp [callF, callM, he, hm, h1, h2, St.lockAll]
end Go.Am

/- THE ABSTRACT MACHINE, THIRTY-NINTH FILE: structs that are compared leaf by leaf; a law's row. -/
set_option linter.unusedSimpArgs false
set_option linter.unusedVariables false
namespace Go.Am
open Go.RowKit
variable {P : Program}

theorem sameLeaves_cons {z : AV} {zs xs : List AV} (h : sameLeaves (z :: zs) xs = true) : ∃ x xs', xs = x :: xs' ∧ sameLeaf z x = true ∧ sameLeaves zs xs' = true := by
  cases xs with
  | nil => simp [sameLeaves] at h
  | cons x xs => simp [sameLeaves] at h; exact ⟨x, xs, rfl, h.1, h.2⟩
theorem sameLeaves_nil {xs : List AV} (h : sameLeaves [] xs = true) : xs = [] := by
  cases xs with
  | nil => rfl
  | cons x xs => simp [sameLeaves] at h
theorem sameLeaf_int {k : IntKind} {n : Int} {x : AV} (h : sameLeaf (.int k n) x = true) : ∃ m, x = .int k m := by
  cases x <;> simp [sameLeaf] at h
  subst h; exact ⟨_, rfl⟩
theorem sameLeaf_str {s : List UInt8} {x : AV} (h : sameLeaf (.str s) x = true) : ∃ m, x = .str m := by
  cases x <;> simp [sameLeaf] at h
  exact ⟨_, rfl⟩
theorem sameLeaf_bool {s : Bool} {x : AV} (h : sameLeaf (.bool s) x = true) : ∃ m, x = .bool m := by
  cases x <;> simp [sameLeaf] at h
  exact ⟨_, rfl⟩
theorem leavesEq_cons {x : AV} {xs ys : List AV} {b : Bool} (h : leavesEq (x :: xs) ys = some b) : ∃ y ys' a b', ys = y :: ys' ∧ leafEq x y = some a ∧ leavesEq xs ys' = some b' ∧ b = (a && b') := by
  cases ys with
  | nil => simp [leavesEq] at h
  | cons y ys =>
    simp only [leavesEq, Option.bind_eq_some_iff, Option.map_eq_some_iff] at h
    obtain ⟨a, ha, b', hb, rfl⟩ := h
    exact ⟨y, ys, a, b', rfl, ha, hb, rfl⟩
theorem leavesEq_nil {ys : List AV} {b : Bool} (h : leavesEq [] ys = some b) : ys = [] ∧ b = true := by
  cases ys with
  | nil => simp [leavesEq] at h; exact ⟨rfl, h⟩
  | cons y ys => simp [leavesEq] at h
theorem leafEq_int {k : IntKind} {n : Int} {y : AV} {a : Bool} (h : leafEq (.int k n) y = some a) : ∃ m, y = .int k m ∧ a = (n == m) := by
  cases y <;> simp [leafEq] at h
  obtain ⟨rfl, rfl⟩ := h
  exact ⟨_, rfl, rfl⟩
theorem leafEq_str {n : List UInt8} {y : AV} {a : Bool} (h : leafEq (.str n) y = some a) : ∃ m, y = .str m ∧ a = (n == m) := by
  cases y <;> simp [leafEq] at h
  subst h
  exact ⟨_, rfl, rfl⟩
theorem leafEq_bool {n : Bool} {y : AV} {a : Bool} (h : leafEq (.bool n) y = some a) : ∃ m, y = .bool m ∧ a = (n == m) := by
  cases y <;> simp [leafEq] at h
  subst h
  exact ⟨_, rfl, rfl⟩
theorem rep_int {G : Gh} {w : World} {k : IntKind} {n : Int} {v : Value} (h : Rep G w (.int k n) v) : v = .int k n := by cases h; rfl
theorem rep_bool {G : Gh} {w : World} {b : Bool} {v : Value} (h : Rep G w (.bool b) v) : v = .bool b := by cases h; rfl
theorem rep_str {G : Gh} {w : World} {s : List UInt8} {v : Value} (h : Rep G w (.str s) v) : v = .string ⟨s.toArray⟩ := by cases h; rfl
theorem arr_eq {vs : Array Value} {l : List Value} (h : vs.toList = l) : vs = l.toArray := by rw [← h]
theorem str_toList (s : List UInt8) : (ByteArray.mk s.toArray).toList = s := by rw [ByteArray.toList_eq]

/-! ### A law's row -/
/-- Nothing is ours; all that is there stays. -/
def Gh.of (w : World) : Gh := ⟨fun _ _ => False, fun _ _ _ => False, fun b f => ∃ u, w.cell? ⟨b, f, none⟩ = some u⟩
theorem St.nil_get (o : Nat) : St.nil.get o = none := by simp [St.get, St.nil]
theorem wrel_of [Pin] (w : World) (hp : ∀ b x, Pin.pin b x → w.heap[b]? = some x) : Wrel (Gh.of w) St.nil w where
  len := rfl
  base := Nat.le_refl _
  obj := fun o a h => by rw [St.nil_get] at h; cases h
  inj := fun o o' b h => by obtain ⟨a, ha, _⟩ := h; rw [St.nil_get] at ha; cases ha
  lt := fun o b h => by obtain ⟨a, ha, _⟩ := h; rw [St.nil_get] at ha; cases ha
  fblk := fun o b b' h => h.elim
  fseg := fun o g s s' h => h.elim
  bblk := fun o b h => h.elim
  bseg := fun o g s h => h.elim
  im := fun b f h => h
  pin := fun b x h => ⟨hp b x h, fun o ho => by obtain ⟨a, ha, _⟩ := ho; rw [St.nil_get] at ha; cases ha⟩
theorem below_of {w w' : World} {G G' : Gh} {S' : St} (h : Step G St.nil w G' S' w') : Below w.heap.size w w' :=
  ⟨h.os, h.tape, h.output, h.size, fun k hk => h.frame k hk fun o ho => by obtain ⟨a, ha, _⟩ := ho; rw [St.nil_get] at ha; cases ha⟩

theorem FZ_bool_inv {b : Bool} {r : AV} {S : St} (h : FZ (.bool b) r S) : r = .bool b := by
  obtain ⟨l, h⟩ := h
  have key : ∀ x : AV, frz1 S x = some (.bool b, l) → x = .bool b := by
    intro x h
    cases x <;> simp [frz1, nrm, Option.bind_eq_some_iff, Option.map_eq_some_iff] at h
    · obtain ⟨rfl, _⟩ := h; rfl
  cases r with
  | tup vs => simp [frz] at h
  | agg vs => simp [frz, frzA] at h
  | _ => exact key _ (by simpa [frz, frzA] using h)

theorem PC_call {c : Cfg} {f : FuncId} {args : List AV} {v : AV} (h : PC c f args v) (he : c.ext f = none) (hm : c.mode f = .pure) (ha : nrmA args = some args) : ∃ r S', (lim c).call f args St.nil = some (r, S') ∧ FZ v r S' := by
  have := h St.nil
  simp only [callF, callM, he, hm, frzLA_of_nrmA St.nil ha, Option.bind_some, St.lockAll, Option.bind_eq_some_iff, Option.map_eq_some_iff, Option.some.injEq, Prod.mk.injEq] at this
  obtain ⟨r, h1, v', h2, _, rfl, rfl, _⟩ := this
  exact ⟨r.1, r.2, h1, v'.2, h2⟩

/-- What the machine says of a law is so in the model. -/
theorem law_walk [Pin] {c : Cfg} (hc : CfgOk P c) {f : FuncId} {args : List AV} (h : PC c f args (.bool true)) (he : c.ext f = none) (hm : c.mode f = .pure) (ha : nrmA args = some args) {w : World} {vs : Array Value}
    (hv : RepL (Gh.of w) w args vs.toList) (hp : ∀ b x, Pin.pin b x → w.heap[b]? = some x) : Calls P f vs w fun e w' => e = .returned (.bool true) ∧ Below w.heap.size w w' := by
  obtain ⟨r, S', h1, h2⟩ := PC_call h he hm ha
  have := FZ_bool_inv h2
  subst this
  refine ((lim_sound hc h1 _ _ _ (wrel_of w hp) hv).2).mono fun e w' hq => ?_
  obtain ⟨G', u, rfl, _, hst, hr⟩ := hq
  rw [rep_bool hr]
  exact ⟨rfl, below_of hst⟩
end Go.Am

