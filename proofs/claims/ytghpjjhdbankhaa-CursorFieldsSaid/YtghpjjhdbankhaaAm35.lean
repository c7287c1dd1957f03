/- THE ABSTRACT MACHINE, THIRTY-SIXTH FILE: regions whose order is open, where nothing is written. -/
import Derived.Test.YtghpjjhdbankhaaAm34
set_option linter.unusedSimpArgs false
set_option linter.unusedVariables false
namespace Go.Am
variable {c : Cfg}

/-- What an operation yields that turns no memory at all. -/
def opQ (c : Cfg) (R : Rec) (tm : List AV) (o : Oper) (S : St) : Option AV :=
  match aval c tm o S with
  | some v => some v
  | none =>
    match o.op with
    | .call { callee := .value (.func f), args, .. } =>
      (match c.ext f with
        | some (.val F) => (evalL tm args.toList).bind F
        | some _ => none
        | none => if c.mode f = .pure then (evalL tm args.toList).bind fun l => if (nrmA l).isSome then (callF c R f l St.nil).map Prod.fst else none else none)
    | _ => none

def Foot.quiet (x : Foot) : Prop := x.T = .ids [] ∧ x.N = false

theorem opQ_opD {R : Rec} {f r : Nat} {tm : List AV} {o : Oper} {S : St} {v : AV} (h : opQ c R tm o S = some v) : ∃ ft, opD c R f r tm o S = some (v, S, ft) ∧ ft.quiet := by
  unfold opQ at h
  unfold opD
  cases ha : aval c tm o S with
  | some u =>
    rw [ha] at h
    simp only [Option.some.injEq] at h
    subst h
    exact ⟨_, rfl, rfl, rfl⟩
  | none =>
    rw [ha] at h
    simp only at h
    split at h
    case h_2 => simp at h
    rename_i fn args tys hop
    cases he : c.ext fn with
    | some F =>
      rw [he] at h
      cases F with
      | push F => simp at h
      | val F =>
        simp only at h
        refine ⟨.none, ?_, rfl, rfl⟩
        simp [calmable, calm, hop, he, h]
    | none =>
      rw [he] at h
      simp only at h
      split at h
      case isFalse => simp at h
      rename_i hm
      simp only [Option.bind_eq_some_iff] at h
      obtain ⟨l, hl, h⟩ := h
      split at h
      case isFalse => simp at h
      rename_i hn
      rw [Option.isSome_iff_exists] at hn
      obtain ⟨l', hn⟩ := hn
      have hz := frzLA_of_nrmA St.nil hn
      simp only [callF, callM, he, hm, hz, Option.bind_some, Option.map_eq_some_iff] at h
      obtain ⟨⟨u, S1⟩, h1, rfl⟩ := h
      simp only [Option.bind_eq_some_iff, Option.map_eq_some_iff, St.lockAll, Option.some.injEq, Prod.mk.injEq] at h1
      obtain ⟨q, hq, w, hw, _, rfl, rfl, rfl⟩ := h1
      refine ⟨.none, ?_, rfl, rfl⟩
      simp [calmable, calm, hop, he, hm, hl, hz, hq, hw]

/-- The region, one after another. -/
def runQ (c : Cfg) (R : Rec) (ops : Array Oper) : List Oper → List AV → St → Option (List AV)
  | [], tm, _ => some tm
  | o :: l, tm, S => if awanted ops tm o then (opQ c R tm o S).bind fun v => runQ c R ops l (putT tm o.dst v) S else runQ c R ops l (putT tm o.dst .undef) S

theorem runQ_D {R : Rec} {f r : Nat} {ops : Array Oper} : ∀ {l : List Oper} {tm tm' : List AV} {S : St}, runQ c R ops l tm S = some tm' →
    ∃ fs, runOpsD c R f r ops l tm S = some (tm', S, fs) ∧ fs.length = l.length ∧ ∀ x ∈ fs, x.quiet
  | [], tm, tm', S, h => by
    simp only [runQ, Option.some.injEq] at h
    subst h
    exact ⟨[], rfl, rfl, fun x hx => by simp at hx⟩
  | o :: l, tm, tm', S, h => by
    unfold runQ at h
    split at h
    · rename_i hw
      simp only [Option.bind_eq_some_iff] at h
      obtain ⟨v, hv, h⟩ := h
      obtain ⟨ft, h1, h2⟩ := opQ_opD (f := f) (r := r) hv
      obtain ⟨fs, h3, h4, h5⟩ := runQ_D (f := f) (r := r) h
      refine ⟨ft :: fs, by simp [runOpsD, hw, h1, h3], by simp [h4], fun x hx => ?_⟩
      rcases List.mem_cons.1 hx with rfl | hx
      · exact h2
      · exact h5 x hx
    · rename_i hw
      obtain ⟨fs, h3, h4, h5⟩ := runQ_D (f := f) (r := r) h
      refine ⟨.none :: fs, by simp [runOpsD, hw, h3], by simp [h4], fun x hx => ?_⟩
      rcases List.mem_cons.1 hx with rfl | hx
      · exact ⟨rfl, rfl⟩
      · exact h5 x hx

theorem quiet_apart {x y : Foot} (hx : x.quiet) (hy : y.quiet) : x.apart y = true := by
  obtain ⟨F, T, N⟩ := x
  obtain ⟨F', T', N'⟩ := y
  obtain ⟨h1, h2⟩ := hx
  obtain ⟨h3, h4⟩ := hy
  simp only at h1 h2 h3 h4
  subst h1 h2 h3 h4
  have e : ∀ X : Ft, (Ft.ids []).apart X = true := fun X => by cases X <;> simp [Ft.apart]
  simp [Foot.apart, e]

theorem quiet_feetOk {ops : Array Oper} {l : List Foot} (hl : l.length = ops.size) (h : ∀ x ∈ l, x.quiet) : feetOk ops l = true := by
  unfold feetOk
  rw [List.all_eq_true]
  intro j hj
  rw [List.all_eq_true]
  intro i hi
  rw [List.mem_range] at hj hi
  rw [Bool.or_eq_true]
  right
  have h1 : i < l.length := by omega
  have h2 : j < l.length := by omega
  simp only [List.getElem?_eq_getElem h1, List.getElem?_eq_getElem h2]
  exact quiet_apart (h _ (List.getElem_mem h1)) (h _ (List.getElem_mem h2))

def RQ (c : Cfg) (q : RI) (l : List Oper) (tm : List AV) (S : St) (K : List AV → St → Prop) : Prop := ∃ tm', runQ c (lim c) q.ops l tm S = some tm' ∧ K tm' S

theorem RQ_nil (q : RI) (tm : List AV) (S : St) (K : List AV → St → Prop) : RQ c q [] tm S K = K tm S := by
  simp [RQ, runQ]
theorem RQ_guard (q : RI) (d : Option Tmp) (op : Op) (ty : TypeId) (p : String) (a : Array Edge) (j : Nat) (w : Bool) (l : List Oper) (tm : List AV) (S : St) (K : List AV → St → Prop) :
    RQ c q (⟨d, op, ty, p, a, some (j, w)⟩ :: l) tm S K = if ayielded q.ops tm j = some w then RQ c q (⟨d, op, ty, p, a, none⟩ :: l) tm S K else RQ c q l (putT tm d .undef) S K := by
  unfold RQ
  by_cases h : ayielded q.ops tm j = some w
  · rw [if_pos h]
    have hw : awanted q.ops tm ⟨d, op, ty, p, a, some (j, w)⟩ = true := by simp [awanted, h]
    have hw' : awanted q.ops tm ⟨d, op, ty, p, a, none⟩ = true := (rfl)
    simp only [runQ, hw, hw', if_true]
    rfl
  · rw [if_neg h]
    have hw : awanted q.ops tm ⟨d, op, ty, p, a, some (j, w)⟩ = false := by simpa [awanted] using h
    simp only [runQ, hw]
    rfl
def RQk (c : Cfg) (q : RI) (d : Option Tmp) (l : List Oper) (tm : List AV) (S : St) (K : List AV → St → Prop) (x : Option AV) : Prop := ∃ v, x = some v ∧ RQ c q l (putT tm d v) S K
theorem RQk_some (q : RI) (d : Option Tmp) (l : List Oper) (tm : List AV) (S : St) (v : AV) (K : List AV → St → Prop) : RQk c q d l tm S K (some v) = RQ c q l (putT tm d v) S K := by
  simp [RQk]
theorem RQ_step (q : RI) (d : Option Tmp) (op : Op) (ty : TypeId) (p : String) (a : Array Edge) (l : List Oper) (tm : List AV) (S : St) (K : List AV → St → Prop) :
    RQ c q (⟨d, op, ty, p, a, none⟩ :: l) tm S K = RQk c q d l tm S K (opQ c (lim c) tm ⟨d, op, ty, p, a, none⟩ S) := by
  unfold RQ RQk
  have hw' : awanted q.ops tm ⟨d, op, ty, p, a, none⟩ = true := (rfl)
  simp only [runQ, hw', if_true]
  cases opQ c (lim c) tm ⟨d, op, ty, p, a, none⟩ S <;> simp [RQ]

section
variable {R : Rec} {f r : Nat} {tm : List AV} {d : Option Tmp} {ty : TypeId} {p : String} {a : Array Edge} {g : Option (Nat × Bool)} {S : St}
theorem opQ_of_aval {o : Oper} {v : AV} (h : aval c tm o S = some v) : opQ c R tm o S = some v := by simp [opQ, h]
theorem opQ_call {fn : FuncId} {x : Array Operand} {t : Array TypeId} (he : c.ext fn = none) (hm : c.mode fn = .pure) :
    opQ c R tm ⟨d, .call { callee := .value (.func fn), args := x, argTypes := t }, ty, p, a, g⟩ S = (evalL tm x.toList).bind fun l => if (nrmA l).isSome then (callF c R fn l St.nil).map Prod.fst else none := by
  simp [opQ, aval_callv, he, hm]
theorem opQ_ext {fn : FuncId} {F : List AV → Option AV} {x : Array Operand} {t : Array TypeId} (he : c.ext fn = some (.val F)) :
    opQ c R tm ⟨d, .call { callee := .value (.func fn), args := x, argTypes := t }, ty, p, a, g⟩ S = (evalL tm x.toList).bind F := by
  simp [opQ, aval_callv, he]
end

theorem W_regionQ {Q : Ex → Fr → St → Prop} {S : St} {id : Nat} {ops : Array Oper} {tm : List AV} {mk : List Nat} {rd : Option Nat} {fn : Nat} (hd : drawOk ops = true)
    (h : ∀ K : List AV → St → Prop, (∀ tm' S', Q .nrm ⟨tm', mk, rd, fn⟩ S' → K tm' S') → RQ c ⟨fn, id, ops⟩ ops.toList tm S K) : W c (.region id ops true) ⟨tm, mk, rd, fn⟩ S Q := by
  obtain ⟨tm', h1, h2⟩ := h (fun tm' S' => Q .nrm ⟨tm', mk, rd, fn⟩ S') (fun _ _ h => h)
  refine ⟨.nrm, ⟨tm', mk, rd, fn⟩, S, ?_, h2⟩
  simp only at h1
  obtain ⟨fs, h3, h4, h5⟩ := runQ_D (f := fn) (r := id) h1
  simp only [execS, aregion]
  have hf := quiet_feetOk (ops := ops) (by simpa using h4) h5
  simp [hd, h3, hf]

/-! ### Regions whose order is open, at large -/
def opE (c : Cfg) (R : Rec) (f r : Nat) (tm : List AV) (o : Oper) (S : St) : Option (AV × St × Foot) :=
  match aval c tm o S with
  | some v => some (v, S, ⟨.ids (rfoot tm o), .ids [], false⟩)
  | none =>
    match opQ c R tm o S with
    | some v => some (v, S, .none)
    | none => if calmable c tm o then none else (aeff c R f r tm o S).map fun r => (r.1, r.2, wfoot c tm o S)

theorem opE_D {R : Rec} {f r : Nat} {tm : List AV} {o : Oper} {S : St} {z : AV × St × Foot} (h : opE c R f r tm o S = some z) : opD c R f r tm o S = some z := by
  unfold opE at h
  cases ha : aval c tm o S with
  | some v => rw [ha] at h; simpa [opD, ha] using h
  | none =>
    rw [ha] at h
    simp only at h
    cases hq : opQ c R tm o S with
    | none =>
      rw [hq] at h
      simp only at h
      split at h
      · simp at h
      · rename_i hc
        simpa [opD, ha, hc] using h
    | some v =>
      rw [hq] at h
      simp only [Option.some.injEq] at h
      subst h
      unfold opQ at hq
      rw [ha] at hq
      simp only at hq
      unfold opD
      rw [ha]
      simp only
      split at hq
      case h_2 => simp at hq
      rename_i fn args tys hop
      cases he : c.ext fn with
      | some F =>
        rw [he] at hq
        cases F with
        | push F => simp at hq
        | val F =>
          simp only at hq
          simp [calmable, calm, hop, he, hq]
      | none =>
        rw [he] at hq
        simp only at hq
        split at hq
        case isFalse => simp at hq
        rename_i hm
        simp only [Option.bind_eq_some_iff] at hq
        obtain ⟨l, hl, hq⟩ := hq
        split at hq
        case isFalse => simp at hq
        rename_i hn
        rw [Option.isSome_iff_exists] at hn
        obtain ⟨l', hn⟩ := hn
        have hz := frzLA_of_nrmA St.nil hn
        simp only [callF, callM, he, hm, hz, Option.bind_some, Option.map_eq_some_iff] at hq
        obtain ⟨⟨u, S1⟩, h1, rfl⟩ := hq
        simp only [Option.bind_eq_some_iff, Option.map_eq_some_iff, St.lockAll, Option.some.injEq, Prod.mk.injEq] at h1
        obtain ⟨q, hq, w, hw, _, rfl, rfl, rfl⟩ := h1
        simp [calmable, calm, hop, he, hm, hl, hz, hq, hw]

def runOpsE (c : Cfg) (R : Rec) (fid rid : Nat) (ops : Array Oper) : List Oper → List AV → St → Option (List AV × St × List Foot)
  | [], tm, S => some (tm, S, [])
  | o :: l, tm, S =>
    if awanted ops tm o then (opE c R fid rid tm o S).bind fun r => (runOpsE c R fid rid ops l (putT tm o.dst r.1) r.2.1).map fun q => (q.1, q.2.1, r.2.2 :: q.2.2)
    else (runOpsE c R fid rid ops l (putT tm o.dst .undef) S).map fun q => (q.1, q.2.1, .none :: q.2.2)

theorem runOpsE_D {R : Rec} {f r : Nat} {ops : Array Oper} : ∀ {l : List Oper} {tm : List AV} {S : St} {z : List AV × St × List Foot}, runOpsE c R f r ops l tm S = some z → runOpsD c R f r ops l tm S = some z ∧ z.2.2.length = l.length
  | [], tm, S, z, h => by simp only [runOpsE, Option.some.injEq] at h; subst h; exact ⟨rfl, rfl⟩
  | o :: l, tm, S, z, h => by
    unfold runOpsE at h
    split at h
    · rename_i hw
      simp only [Option.bind_eq_some_iff, Option.map_eq_some_iff] at h
      obtain ⟨v, hv, q, hq, rfl⟩ := h
      obtain ⟨h1, h2⟩ := runOpsE_D hq
      exact ⟨by simp [runOpsD, hw, opE_D hv, h1], by simp [h2]⟩
    · rename_i hw
      simp only [Option.map_eq_some_iff] at h
      obtain ⟨q, hq, rfl⟩ := h
      obtain ⟨h1, h2⟩ := runOpsE_D hq
      exact ⟨by simp [runOpsD, hw, h1], by simp [h2]⟩

def Foot.isQuiet (x : Foot) : Bool := (match x.T with | .ids [] => true | _ => false) && !x.N
theorem isQuiet_quiet {x : Foot} (h : x.isQuiet = true) : x.quiet := by
  obtain ⟨F, T, N⟩ := x
  unfold Foot.isQuiet at h
  unfold Foot.quiet
  cases T with
  | all => simp at h
  | ids l => cases l <;> simp_all
theorem apart_comm (x y : Foot) : x.apart y = y.apart x := by
  unfold Foot.apart
  rw [Bool.and_comm (x.T.apart y.F), Bool.and_comm x.N]
def pairOk (p : List (List Nat)) (x : Foot) (j : Nat) (y : Foot) (i : Nat) : Bool := i == j || (p.getD j []).contains i || (p.getD i []).contains j || x.apart y
/-- Those that write, beside all others. -/
def noisyOk (p : List (List Nat)) (fs : List Foot) : Bool := fs.zipIdx.all fun x => x.1.isQuiet || fs.zipIdx.all fun y => pairOk p x.1 x.2 y.1 y.2

theorem noisy_feetOk {ops : Array Oper} {p : List (List Nat)} {fs : List Foot} (hp : ahead ops = p) (hb : ((List.range ops.size).all fun i => (p.getD i []).all (· < i)) = true) (hl : fs.length = ops.size) (h : noisyOk p fs = true) : feetOk ops fs = true := by
  unfold feetOk
  rw [hp]
  rw [List.all_eq_true] at hb ⊢
  intro j hj
  rw [List.all_eq_true]
  intro i hi
  rw [List.mem_range] at hi
  have hj' := hj
  rw [List.mem_range] at hj
  rw [Bool.or_eq_true]
  have h1 : i < fs.length := by omega
  have h2 : j < fs.length := by omega
  have e1 := List.getElem?_eq_getElem h1
  have e2 := List.getElem?_eq_getElem h2
  simp only [e1, e2]
  unfold noisyOk at h
  rw [List.all_eq_true] at h
  have hnot : ∀ k, j ≤ k → (p.getD i []).contains k = false := by
    intro k hk
    by_cases hc : (p.getD i []).contains k = true
    · have := hb i (by rw [List.mem_range]; omega)
      rw [List.all_eq_true] at this
      have := this k (by simpa using hc)
      simp only [decide_eq_true_eq] at this
      omega
    · simpa using hc
  have key : ∀ (a b : Nat) (ha : a < fs.length) (hb' : b < fs.length), (fs[a].isQuiet = true) ∨ pairOk p fs[a] a fs[b] b = true := by
    intro a b ha hb'
    have := h (fs[a], a) (by rw [List.mem_zipIdx_iff_getElem?]; simp [ha])
    rw [Bool.or_eq_true, List.all_eq_true] at this
    rcases this with h' | h'
    · exact .inl h'
    · exact .inr (h' (fs[b], b) (by rw [List.mem_zipIdx_iff_getElem?]; simp [hb']))
  rcases key j i h2 h1 with k1 | k1
  · rcases key i j h1 h2 with k2 | k2
    · exact .inr (quiet_apart (isQuiet_quiet k2) (isQuiet_quiet k1))
    · unfold pairOk at k2
      simp only [Bool.or_eq_true, beq_iff_eq] at k2
      rcases k2 with ((k2 | k2) | k2) | k2
      · omega
      · rw [hnot j (Nat.le_refl _)] at k2; cases k2
      · exact .inl k2
      · exact .inr k2
  · unfold pairOk at k1
    simp only [Bool.or_eq_true, beq_iff_eq] at k1
    rcases k1 with ((k1 | k1) | k1) | k1
    · omega
    · exact .inl k1
    · rw [hnot j (Nat.le_refl _)] at k1; cases k1
    · rw [apart_comm]; exact .inr k1

def RD (c : Cfg) (q : RI) (p : List (List Nat)) (l : List Oper) (tm : List AV) (S : St) (fs : List Foot) (K : List AV → St → Prop) : Prop :=
  ∃ z, runOpsE c (lim c) q.fid q.rid q.ops l tm S = some z ∧ noisyOk p (fs ++ z.2.2) = true ∧ K z.1 z.2.1
theorem RD_nil (q : RI) (p : List (List Nat)) (tm : List AV) (S : St) (fs : List Foot) (K : List AV → St → Prop) : RD c q p [] tm S fs K = (noisyOk p fs = true ∧ K tm S) := by
  simp [RD, runOpsE]
theorem RD_guard (q : RI) (pp : List (List Nat)) (d : Option Tmp) (op : Op) (ty : TypeId) (p : String) (a : Array Edge) (j : Nat) (w : Bool) (l : List Oper) (tm : List AV) (S : St) (fs : List Foot) (K : List AV → St → Prop) :
    RD c q pp (⟨d, op, ty, p, a, some (j, w)⟩ :: l) tm S fs K = if ayielded q.ops tm j = some w then RD c q pp (⟨d, op, ty, p, a, none⟩ :: l) tm S fs K else RD c q pp l (putT tm d .undef) S (fs ++ [.none]) K := by
  unfold RD
  by_cases h : ayielded q.ops tm j = some w
  · rw [if_pos h]
    have hw : awanted q.ops tm ⟨d, op, ty, p, a, some (j, w)⟩ = true := by simp [awanted, h]
    have hw' : awanted q.ops tm ⟨d, op, ty, p, a, none⟩ = true := (rfl)
    simp only [runOpsE, hw, hw', if_true]
    rfl
  · rw [if_neg h]
    have hw : awanted q.ops tm ⟨d, op, ty, p, a, some (j, w)⟩ = false := by simpa [awanted] using h
    simp only [runOpsE, hw]
    rw [if_neg (by simp)]
    cases runOpsE c (lim c) q.fid q.rid q.ops l (putT tm d AV.undef) S <;> simp
def RDk (c : Cfg) (q : RI) (pp : List (List Nat)) (d : Option Tmp) (l : List Oper) (tm : List AV) (fs : List Foot) (K : List AV → St → Prop) (x : Option (AV × St × Foot)) : Prop := ∃ v S f, x = some (v, S, f) ∧ RD c q pp l (putT tm d v) S (fs ++ [f]) K
theorem RDk_some (q : RI) (pp : List (List Nat)) (d : Option Tmp) (l : List Oper) (tm : List AV) (S : St) (v : AV) (f : Foot) (fs : List Foot) (K : List AV → St → Prop) : RDk c q pp d l tm fs K (some (v, S, f)) = RD c q pp l (putT tm d v) S (fs ++ [f]) K := by
  unfold RDk
  apply propext
  constructor
  · rintro ⟨v', S', f', h, k⟩
    simp only [Option.some.injEq, Prod.mk.injEq] at h
    obtain ⟨rfl, rfl, rfl⟩ := h
    exact k
  · exact fun k => ⟨_, _, _, rfl, k⟩
theorem RD_stepE (q : RI) (pp : List (List Nat)) (d : Option Tmp) (op : Op) (ty : TypeId) (p : String) (a : Array Edge) (l : List Oper) (tm : List AV) (S : St) (fs : List Foot) (K : List AV → St → Prop) :
    RD c q pp (⟨d, op, ty, p, a, none⟩ :: l) tm S fs K = RDk c q pp d l tm fs K (opE c (lim c) q.fid q.rid tm ⟨d, op, ty, p, a, none⟩ S) := by
  have hw' : awanted q.ops tm ⟨d, op, ty, p, a, none⟩ = true := (rfl)
  cases ho : opE c (lim c) q.fid q.rid tm ⟨d, op, ty, p, a, none⟩ S with
  | none =>
    unfold RD RDk
    simp [runOpsE, hw', ho]
  | some v =>
    obtain ⟨v, S1, f⟩ := v
    rw [RDk_some]
    unfold RD
    simp only [runOpsE, hw', if_true, ho, Option.bind_some]
    cases runOpsE c (lim c) q.fid q.rid q.ops l (putT tm d v) S1 <;> simp

/-- An operation that is not 'aval''s. -/
def opX (c : Cfg) (R : Rec) (f r : Nat) (tm : List AV) (o : Oper) (S : St) : Option (AV × St × Foot) :=
  match opQ c R tm o S with
  | some v => some (v, S, .none)
  | none => if calmable c tm o then none else (aeff c R f r tm o S).map fun r => (r.1, r.2, wfoot c tm o S)
def RDa (c : Cfg) (q : RI) (pp : List (List Nat)) (o : Oper) (l : List Oper) (tm : List AV) (S : St) (fs : List Foot) (K : List AV → St → Prop) : Option AV → Prop
  | some v => RD c q pp l (putT tm o.dst v) S (fs ++ [⟨.ids (rfoot tm o), .ids [], false⟩]) K
  | none => RDk c q pp o.dst l tm fs K (opX c (lim c) q.fid q.rid tm o S)
theorem RDa_some (q : RI) (pp : List (List Nat)) (d : Option Tmp) (op : Op) (ty : TypeId) (p : String) (a : Array Edge) (g : Option (Nat × Bool)) (l : List Oper) (tm : List AV) (S : St) (fs : List Foot) (K : List AV → St → Prop) (v : AV) :
    RDa c q pp ⟨d, op, ty, p, a, g⟩ l tm S fs K (some v) = RD c q pp l (putT tm d v) S (fs ++ [⟨.ids (rfoot tm ⟨d, op, ty, p, a, g⟩), .ids [], false⟩]) K := (rfl)
theorem RDa_none (q : RI) (pp : List (List Nat)) (d : Option Tmp) (op : Op) (ty : TypeId) (p : String) (a : Array Edge) (g : Option (Nat × Bool)) (l : List Oper) (tm : List AV) (S : St) (fs : List Foot) (K : List AV → St → Prop) :
    RDa c q pp ⟨d, op, ty, p, a, g⟩ l tm S fs K none = RDk c q pp d l tm fs K (opX c (lim c) q.fid q.rid tm ⟨d, op, ty, p, a, g⟩ S) := (rfl)
theorem RD_step (q : RI) (pp : List (List Nat)) (d : Option Tmp) (op : Op) (ty : TypeId) (p : String) (a : Array Edge) (l : List Oper) (tm : List AV) (S : St) (fs : List Foot) (K : List AV → St → Prop) :
    RD c q pp (⟨d, op, ty, p, a, none⟩ :: l) tm S fs K = RDa c q pp ⟨d, op, ty, p, a, none⟩ l tm S fs K (aval c tm ⟨d, op, ty, p, a, none⟩ S) := by
  rw [RD_stepE]
  unfold opE
  cases aval c tm ⟨d, op, ty, p, a, none⟩ S with
  | some v => simp only; rw [RDk_some]; rfl
  | none => rfl

section
variable {R : Rec} {f r : Nat} {tm : List AV} {d : Option Tmp} {ty : TypeId} {p : String} {a : Array Edge} {g : Option (Nat × Bool)} {S : St}
theorem opX_alloc {t : TypeId} : opX c R f r tm ⟨d, .alloc t, ty, p, a, g⟩ S = (c.ty t).bind fun i => i.zero.map fun z => (.ptr S.n 0, S.push (.row z false), ⟨.ids [S.n], .ids [S.n], true⟩) := by
  unfold opX
  rw [show opQ c R tm ⟨d, .alloc t, ty, p, a, g⟩ S = none from rfl]
  have hc : calmable c tm ⟨d, .alloc t, ty, p, a, g⟩ = false := (rfl)
  simp only [hc]
  rw [if_neg (by simp)]
  simp only [aeff_alloc, wfoot]
  cases c.ty t with
  | none => rfl
  | some i => simp only [Option.bind_some]; cases i.zero <;> rfl
theorem opX_box {t : TypeId} {x : Operand} : opX c R f r tm ⟨d, .box t x, ty, p, a, g⟩ S = (evalT tm x).bind fun v => if leafC v then some (.ptr S.n 0, S.push (.row v.cells false), ⟨.ids [S.n], .ids [S.n], true⟩) else none := by
  unfold opX
  rw [show opQ c R tm ⟨d, .box t x, ty, p, a, g⟩ S = none from rfl]
  have hc : calmable c tm ⟨d, .box t x, ty, p, a, g⟩ = false := (rfl)
  simp only [hc]
  rw [if_neg (by simp)]
  simp only [aeff_box, wfoot]
  cases evalT tm x with
  | none => rfl
  | some v => simp only [Option.bind_some]; cases leafC v <;> simp
theorem opX_store {t : TypeId} {x y : Operand} : opX c R f r tm ⟨d, .store t x y, ty, p, a, g⟩ S = (c.ty t).bind fun i => (evalT tm x).bind fun q => (evalT tm y).bind fun v => (S.store i q v).map fun S' => (.undef, S', ⟨.ids (refsO tm x), .ids (refsO tm x), false⟩) := by
  unfold opX
  rw [show opQ c R tm ⟨d, .store t x y, ty, p, a, g⟩ S = none from rfl]
  have hc : calmable c tm ⟨d, .store t x y, ty, p, a, g⟩ = false := (rfl)
  simp only [hc]
  rw [if_neg (by simp)]
  simp only [aeff_store, wfoot]
  cases c.ty t with
  | none => rfl
  | some i =>
    cases evalT tm x with
    | none => rfl
    | some q =>
      cases evalT tm y with
      | none => rfl
      | some v => simp only [Option.bind_some]; cases S.store i q v <;> rfl
theorem opX_append {x y : Operand} {t u : TypeId} : opX c R f r tm ⟨d, .call { callee := .builtin .append, args := #[x, y], argTypes := #[t, u] }, ty, p, a, g⟩ S =
    (aeff c R f r tm ⟨d, .call { callee := .builtin .append, args := #[x, y], argTypes := #[t, u] }, ty, p, a, g⟩ S).map fun z => (z.1, z.2, wfoot c tm ⟨d, .call { callee := .builtin .append, args := #[x, y], argTypes := #[t, u] }, ty, p, a, g⟩ S) := by
  unfold opX
  rw [show opQ c R tm ⟨d, .call { callee := .builtin .append, args := #[x, y], argTypes := #[t, u] }, ty, p, a, g⟩ S = none from rfl]
  simp [calmable]
/-- A call on plain data. -/
noncomputable def opP (c : Cfg) (fn : Nat) (x : Option (List AV)) (S : St) (z : Option (AV × St × Foot)) : Option (AV × St × Foot) :=
  match x with
  | some l => if (nrmA l).isSome then (match callF c (lim c) fn l St.nil with | some r => some (r.1, S, .none) | none => z) else z
  | none => z
theorem opX_call {fn : FuncId} {x : Array Operand} {t : Array TypeId} (he : c.ext fn = none) (hm : c.mode fn = .pure) {l l' : List AV} (hl : evalL tm x.toList = some l) (hn : nrmA l = some l') {v : AV} (hc : callF c (lim c) fn l St.nil = some (v, St.nil)) :
    opX c (lim c) f r tm ⟨d, .call { callee := .value (.func fn), args := x, argTypes := t }, ty, p, a, g⟩ S = some (v, S, .none) := by
  unfold opX
  rw [opQ_call he hm, hl]
  simp [hn, hc]
theorem RDk_call {q : RI} {pp : List (List Nat)} {fn : FuncId} {x : Array Operand} {t : Array TypeId} {l : List Oper} {fs : List Foot} {K : List AV → St → Prop} (he : c.ext fn = none) (hm : c.mode fn = .pure) :
    RDk c q pp d l tm fs K (opX c (lim c) f r tm ⟨d, .call { callee := .value (.func fn), args := x, argTypes := t }, ty, p, a, g⟩ S) =
    RDk c q pp d l tm fs K (opP c fn (evalL tm x.toList) S (opX c (lim c) f r tm ⟨d, .call { callee := .value (.func fn), args := x, argTypes := t }, ty, p, a, g⟩ S)) := by
  congr 1
  unfold opP
  split
  · rename_i l hl
    split
    · rename_i hn
      rw [Option.isSome_iff_exists] at hn
      obtain ⟨l', hn⟩ := hn
      split
      · rename_i r hr
        unfold opX
        rw [opQ_call he hm, hl]
        simp [hn, hr]
      · rfl
    · rfl
  · rfl
end

theorem W_regionD {Q : Ex → Fr → St → Prop} {S : St} {id : Nat} {ops : Array Oper} {tm : List AV} {mk : List Nat} {rd : Option Nat} {fn : Nat} (p : List (List Nat)) (hd : drawOk ops = true) (hp : ahead ops = p)
    (hb : ((List.range ops.size).all fun i => (p.getD i []).all (· < i)) = true)
    (h : ∀ K : List AV → St → Prop, (∀ tm' S', Q .nrm ⟨tm', mk, rd, fn⟩ S' → K tm' S') → RD c ⟨fn, id, ops⟩ p ops.toList tm S [] K) : W c (.region id ops true) ⟨tm, mk, rd, fn⟩ S Q := by
  obtain ⟨⟨tm', S', fs⟩, h1, h2, h3⟩ := h (fun tm' S' => Q .nrm ⟨tm', mk, rd, fn⟩ S') (fun _ _ h => h)
  refine ⟨.nrm, ⟨tm', mk, rd, fn⟩, S', ?_, h3⟩
  simp only [List.nil_append] at h1 h2
  obtain ⟨h4, h5⟩ := runOpsE_D h1
  have h6 := noisy_feetOk hp hb (by simpa using h5) h2
  simp only [execS, aregion]
  simp [hd, h4, h6]
end Go.Am
