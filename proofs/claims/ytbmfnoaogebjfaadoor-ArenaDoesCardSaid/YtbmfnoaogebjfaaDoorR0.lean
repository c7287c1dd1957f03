/- REGIONS WITH PLACES KEPT READY: which places. -/
import Derived.Test.YtbmfnoaogebjfaaDoorMf
set_option linter.unusedSimpArgs false
set_option linter.unusedVariables false
namespace Go.Am
variable {c : Cfg}

def rawB (c : Cfg) (f : FuncId) : Bool := (c.ext f).isNone && (match c.mode f with | .raw => true | _ => false)
def calleeF (o : Oper) : Option FuncId :=
  match o.op with
  | .call { callee := .value (.func f), .. } => some f
  | _ => none
def rawO (b : FuncId → Bool) (o : Oper) : Bool := match calleeF o with | some f => b f | none => false
theorem rawCall_eq (o : Oper) : rawCall c o = rawO (rawB c) o := by
  obtain ⟨dst, op, type, pos, after, guard⟩ := o
  cases op with
  | call cl =>
    obtain ⟨callee, args, argTypes⟩ := cl
    cases callee with
    | value f => cases f <;> rfl
    | _ => rfl
  | _ => rfl
def resvdB (b : FuncId → Bool) (ops : Array Oper) : List Nat :=
  let p := ahead ops
  (List.range ops.size).filter fun i => (match ops[i]? with | some o => isAlloc o && o.guard.isNone | none => false) &&
    (List.range ops.size).any fun j => (match ops[j]? with | some o => rawO b o && o.guard.isNone | none => false) && !(p.getD j []).contains i && !(p.getD i []).contains j
def asideT (b : FuncId → Bool) (ops : Array Oper) : List Tmp :=
  let p := ahead ops
  (List.range ops.size).flatMap fun i => match ops[i]? with
    | some o => if rawO b o || isAlloc o then [] else
        if (List.range ops.size).any fun j => (match ops[j]? with | some o => rawO b o | none => false) && !(p.getD j []).contains i && !(p.getD i []).contains j then
          looks ops o else []
    | none => []
theorem raw_of {b : FuncId → Bool} {ops : Array Oper} (h : ∀ f ∈ ops.toList.filterMap calleeF, rawB c f = b f) (j : Nat) (o : Oper) (ho : ops[j]? = some o) : rawCall c o = rawO b o := by
  rw [rawCall_eq]
  unfold rawO
  cases hc : calleeF o with
  | none => rfl
  | some f => exact h f (List.mem_filterMap.2 ⟨o, by rw [Array.mem_toList_iff]; exact Array.mem_of_getElem? ho, hc⟩)
theorem any_same {α : Type} {p q : α → Bool} : ∀ {l : List α}, (∀ x ∈ l, p x = q x) → l.any p = l.any q
  | [], _ => rfl
  | x :: l, h => by rw [List.any_cons, List.any_cons, h x (by simp), any_same fun y hy => h y (by simp [hy])]
theorem resvd_eq (b : FuncId → Bool) (gs : List FuncId) {ops : Array Oper} (hl : ops.toList.filterMap calleeF = gs) (h : ∀ f ∈ gs, rawB c f = b f) : resvd c ops = resvdB b ops := by
  subst hl
  unfold resvd resvdB
  refine List.filter_congr fun i _ => ?_
  congr 1
  refine any_same fun j _ => ?_
  cases ho : ops[j]? with
  | none => rfl
  | some o => simp only [raw_of h j o ho]
theorem aside_eq (b : FuncId → Bool) (gs : List FuncId) (ts : List Tmp) {ops : Array Oper} (hl : ops.toList.filterMap calleeF = gs) (h : ∀ f ∈ gs, rawB c f = b f) (ht : asideT b ops = ts) (tm : List AV) (S : St) : aside c ops tm S = (ts.flatMap fun t => refs (tget tm t)).filter fun o => isRow (S.get o) := by
  subst hl ht
  unfold aside asideT
  rw [List.flatMap_assoc]
  refine congrArg (List.filter _) (flatMap_same fun i _ => ?_)
  cases ho : ops[i]? with
  | none => rfl
  | some o =>
    simp only [raw_of h i o ho]
    have hj : ((List.range ops.size).any fun j => (match ops[j]? with | some o => rawCall c o | none => false) && !((ahead ops).getD j []).contains i && !((ahead ops).getD i []).contains j) =
        ((List.range ops.size).any fun j => (match ops[j]? with | some o => rawO b o | none => false) && !((ahead ops).getD j []).contains i && !((ahead ops).getD i []).contains j) := any_same fun j _ => by
      cases ho : ops[j]? with
      | none => rfl
      | some o => simp only [raw_of h j o ho]
    by_cases h1 : (rawO b o || isAlloc o) = true
    · rw [if_pos h1, if_pos h1]; rfl
    · rw [if_neg h1, if_neg h1]
      by_cases h2 : ((List.range ops.size).any fun j => (match ops[j]? with | some o => rawO b o | none => false) && !((ahead ops).getD j []).contains i && !((ahead ops).getD i []).contains j) = true
      · rw [if_pos h2]
        exact if_pos (hj.trans h2)
      · rw [if_neg h2]
        exact if_neg (fun e => h2 (hj.symm.trans e))
/-! ### Steps -/
def RRs (c : Cfg) (q : RJ) (o : Oper) (l : List Oper) (i : Nat) (tm : List AV) (S : St) (fs : List Foot) (Q : List AV → St → Prop) : Prop := RR c q (o :: l) i tm S fs Q
def RRa (c : Cfg) (q : RJ) (o : Oper) (l : List Oper) (i : Nat) (tm : List AV) (S : St) (fs : List Foot) (Q : List AV → St → Prop) : Option AV → Prop
  | some v => if q.rs.contains i = true then RRs c q o l i tm S fs Q else RR c q l (i + 1) (putT tm o.dst v) S (fs ++ [⟨.ids (rfoot tm o), .ids [], false⟩]) Q
  | none => RRs c q o l i tm S fs Q
theorem RRa_some (q : RJ) (d : Option Tmp) (op : Op) (ty : TypeId) (p : String) (a : Array Edge) (g : Option (Nat × Bool)) (l : List Oper) (i : Nat) (tm : List AV) (S : St) (fs : List Foot) (Q : List AV → St → Prop) (v : AV) :
    RRa c q ⟨d, op, ty, p, a, g⟩ l i tm S fs Q (some v) = if q.rs.contains i = true then RRs c q ⟨d, op, ty, p, a, g⟩ l i tm S fs Q else RR c q l (i + 1) (putT tm d v) S (fs ++ [⟨.ids (rfoot tm ⟨d, op, ty, p, a, g⟩), .ids [], false⟩]) Q := (rfl)
theorem RRa_none (q : RJ) (o : Oper) (l : List Oper) (i : Nat) (tm : List AV) (S : St) (fs : List Foot) (Q : List AV → St → Prop) : RRa c q o l i tm S fs Q none = RRs c q o l i tm S fs Q := (rfl)
theorem RR_step (q : RJ) (d : Option Tmp) (op : Op) (ty : TypeId) (p : String) (a : Array Edge) (l : List Oper) (i : Nat) (tm : List AV) (S : St) (fs : List Foot) (Q : List AV → St → Prop) :
    RR c q (⟨d, op, ty, p, a, none⟩ :: l) i tm S fs Q = RRa c q ⟨d, op, ty, p, a, none⟩ l i tm S fs Q (aval c tm ⟨d, op, ty, p, a, none⟩ S) := by
  cases hv : aval c tm ⟨d, op, ty, p, a, none⟩ S with
  | none => rfl
  | some v =>
    rw [RRa_some]
    split
    · rfl
    · rename_i hc
      rw [Bool.not_eq_true] at hc
      refine propext ⟨fun h hK => ?_, fun h => RR_val hc rfl hv h⟩
      obtain ⟨z, h1, h2, h3, h4⟩ := h hK
      have hop : opR c (lim c) q.fid q.rid q.K (ridOf q.rs q.n i) tm ⟨d, op, ty, p, a, none⟩ S = some (v, S, ⟨.ids (rfoot tm ⟨d, op, ty, p, a, none⟩), .ids [], false⟩) := by
        unfold opR ridOf
        rw [hc]
        simp only [Bool.false_eq_true, if_false, aval_noraw hv, and_false]
        simp only [opD, hv]
      have hw : awanted q.ops tm ⟨d, op, ty, p, a, none⟩ = true := rfl
      simp only [runOpsR, hw, if_true, hop, Option.bind_some] at h1
      rw [if_pos (List.all_eq_true.2 hK)] at h1
      simp only [Option.map_eq_some_iff] at h1
      obtain ⟨z', k1, rfl⟩ := h1
      exact ⟨z', k1, by simpa using h2, by simpa using h3, h4⟩
theorem RR_nile (q : RJ) (i : Nat) (tm : List AV) (S : St) (fs : List Foot) (Q : List AV → St → Prop) (h : noisyOk q.p fs = true) (k : Q tm S) : RR c q [] i tm S fs Q := RR_nil h k

theorem kill_dead {S : St} {r : Nat} (hok : S.ok) (h : S.get r = some .dead) : S.kill [r] = S := by
  show S.set r .dead = S
  refine St.ext_get hok (St.ok_set hok) rfl rfl fun o => ?_
  by_cases e : o = r
  · subst e; rw [St.get_sete hok (St.get_lt h)]; exact h.symm
  · rw [St.get_setn (St.get_lt h) e]
theorem rest_dead {S T : St} {r : Nat} (hok : T.ok) (h : S.get r = some .dead) (h' : T.get r = some .dead) : S.rest T [r] = T := by
  simp only [St.rest, h]
  refine St.ext_get hok (St.ok_set hok) rfl rfl fun o => ?_
  by_cases e : o = r
  · subst e; rw [St.get_sete hok (St.get_lt h')]; exact h'.symm
  · rw [St.get_setn (St.get_lt h') e]
end Go.Am
