/- THE ABSTRACT MACHINE, A PART OF IT. -/
import Derived.Test.YtbmfnoaogebjfaaDoorMd
/- THE ABSTRACT MACHINE, TWENTY-SEVENTH FILE: what operations that come up in another order find. -/
set_option linter.unusedSimpArgs false
set_option linter.unusedVariables false
namespace Go.Am
variable {P : Program} {c : Cfg}

/-! ### Cells, and who turns them -/
section cut
variable {X V : Type} {n : Nat} {val : Nat → X → V} {T F : Nat → X → Prop} {less : Nat → Nat → Prop}

/-- A cell's content, when the operations of L have been carried out: whoever turns it ahead of a cut is in L, whoever turns it behind is not. -/
def Cut (n : Nat) (val : Nat → X → V) (T : Nat → X → Prop) (L : Nat → Prop) (x : X) (v : V) : Prop :=
  ∃ q, q ≤ n ∧ (∀ j, j < q → T j x → L j) ∧ (∀ j, q ≤ j → j < n → T j x → ¬ L j) ∧ v = val q x

/-- Operations of which one turns what the other looks at have an order. -/
def Ordered (n : Nat) (T F : Nat → X → Prop) (less : Nat → Nat → Prop) : Prop :=
  ∀ i j x, i < n → j < n → T j x → F i x → (j < i → less j i) ∧ (i < j → less i j)

theorem val_const (hv : ∀ i x, i < n → ¬ T i x → val (i + 1) x = val i x) {x : X} : ∀ {k i : Nat}, i + k ≤ n → (∀ j, i ≤ j → j < i + k → ¬ T j x) → val (i + k) x = val i x
  | 0, i, _, _ => rfl
  | k + 1, i, hle, h => by
    rw [← Nat.add_assoc, hv (i + k) x (by omega) (h _ (by omega) (by omega))]
    exact val_const hv (by omega) fun j h1 h2 => h j h1 (by omega)

theorem val_eq (hv : ∀ i x, i < n → ¬ T i x → val (i + 1) x = val i x) {x : X} {i q : Nat} (hiq : i ≤ q) (hq : q ≤ n) (h : ∀ j, i ≤ j → j < q → ¬ T j x) : val q x = val i x := by
  have := val_const hv (x := x) (k := q - i) (i := i) (by omega) fun j h1 h2 => h j h1 (by omega)
  rwa [show i + (q - i) = q by omega] at this

theorem Cut.zero (L : Nat → Prop) (hL : ∀ j, ¬ L j) (x : X) : Cut n val T L x (val 0 x) := ⟨0, Nat.zero_le _, fun j h => by omega, fun j _ _ _ => hL j, rfl⟩

theorem Cut.all (hv : ∀ i x, i < n → ¬ T i x → val (i + 1) x = val i x) {L : Nat → Prop} (hL : ∀ j, j < n → L j) {x : X} {v : V} (h : Cut n val T L x v) : v = val n x := by
  obtain ⟨q, hq, h1, h2, rfl⟩ := h
  exact (val_eq hv hq (Nat.le_refl n) fun j a b ht => h2 j a b ht (hL j b)).symm

theorem Cut.look (hv : ∀ i x, i < n → ¬ T i x → val (i + 1) x = val i x) (ho : Ordered n T F less) {L : Nat → Prop} (hc : ∀ i j, less i j → L j → L i) {i : Nat} (hi : i < n) (hiL : ¬ L i) (hp : ∀ j, less j i → L j) {x : X} {v : V} (hF : F i x) (h : Cut n val T L x v) : v = val i x := by
  obtain ⟨q, hq, h1, h2, rfl⟩ := h
  rcases (Nat.lt_or_ge i q).symm with hqi | hqi
  · exact (val_eq hv hqi (by omega) fun j a b ht => h2 j a (by omega) ht (hp j ((ho i j x hi (by omega) ht hF).1 b))).symm
  · refine val_eq hv (by omega) hq fun j a b ht => ?_
    rcases Nat.lt_or_eq_of_le a with a | rfl
    · exact hiL (hc i j ((ho i j x hi (by omega) ht hF).2 a) (h1 j b ht))
    · exact hiL (h1 i b ht)

theorem Cut.off {L : Nat → Prop} {i : Nat} {x : X} {v : V} (hT : ¬ T i x) (h : Cut n val T L x v) : Cut n val T (fun j => L j ∨ j = i) x v := by
  obtain ⟨q, hq, h1, h2, rfl⟩ := h
  refine ⟨q, hq, fun j a ht => .inl (h1 j a ht), fun j a b ht hL => ?_, rfl⟩
  rcases hL with hL | rfl
  · exact h2 j a b ht hL
  · exact hT ht

theorem Cut.on (ho : Ordered n T F less) (hTF : ∀ i x, T i x → F i x) {L : Nat → Prop} (hc : ∀ i j, less i j → L j → L i) {i : Nat} (hi : i < n) (hiL : ¬ L i) (hp : ∀ j, less j i → L j) {x : X} (hT : T i x) : Cut n val T (fun j => L j ∨ j = i) x (val (i + 1) x) := by
  refine ⟨i + 1, hi, fun j a ht => ?_, fun j a b ht hL => ?_, rfl⟩
  · rcases Nat.lt_or_eq_of_le (Nat.le_of_lt_succ a) with a | rfl
    · exact .inl (hp j ((ho i j x hi (by omega) ht (hTF _ _ hT)).1 a))
    · exact .inr rfl
  · rcases hL with hL | rfl
    · exact hiL (hc i j ((ho i j x hi b ht (hTF _ _ hT)).2 (by omega)) hL)
    · omega
/-- .. where the operation at hand alone is known to look at what it turns. -/
theorem Cut.on' (ho : Ordered n T F less) {L : Nat → Prop} (hc : ∀ i j, less i j → L j → L i) {i : Nat} (hTF : ∀ x, T i x → F i x) (hi : i < n) (hiL : ¬ L i) (hp : ∀ j, less j i → L j) {x : X} (hT : T i x) : Cut n val T (fun j => L j ∨ j = i) x (val (i + 1) x) := by
  refine ⟨i + 1, hi, fun j a ht => ?_, fun j a b ht hL => ?_, rfl⟩
  · rcases Nat.lt_or_eq_of_le (Nat.le_of_lt_succ a) with a | rfl
    · exact .inl (hp j ((ho i j x hi (by omega) ht (hTF _ hT)).1 a))
    · exact .inr rfl
  · rcases hL with hL | rfl
    · exact hiL (hc i j ((ho i j x hi b ht (hTF _ hT)).2 (by omega)) hL)
    · omega
end cut

end Go.Am

/- THE ABSTRACT MACHINE, TWENTY-EIGHTH FILE: one operation of a region whose order is open. -/
set_option linter.unusedSimpArgs false
set_option linter.unusedVariables false
namespace Go.Am
open Go.RowKit
variable [Pin] {P : Program} {c : Cfg}

omit [Pin] in
theorem aeff_noval {R : Rec} {fid rid : Nat} {tm : List AV} {o : Oper} {S : St} {r : AV × St} (h : aeff c R fid rid tm o S = some r) (C : St) : aval c tm o C = none := by
  obtain ⟨dst, op, type, pos, after, guard⟩ := o
  cases op with
  | call cl =>
    obtain ⟨callee, args, argTypes⟩ := cl
    cases callee with
    | value f => simp only [aval]
    | builtin b => cases b <;> first | (simp [aeff] at h; done) | simp only [aval]
    | invoke r m => simp only [aval]
  | slice t x lo hi mx =>
    cases mx with
    | some m => simp only [aval]
    | none =>
      simp only [aeff] at h
      split at h
      · rename_i n e hk
        simp only [aval, hk]
        cases evalT tm x with
        | none => rfl
        | some v =>
          cases evalO tm lo with
          | none => rfl
          | some l =>
            cases evalO tm hi with
            | none => rfl
            | some hh => cases v <;> rfl
      · simp at h
  | makeFunc f first cap => simp [aeff] at h
  | _ => first | (simp [aeff] at h; done) | simp only [aval]

omit [Pin] in
theorem wfoot_same {tm tm' : List AV} {o : Oper} (S : St) (h : SameOn tm tm' o.op.operands.toList) : wfoot c tm o S = wfoot c tm' o S := by
  obtain ⟨dst, op, type, pos, after, guard⟩ := o
  simp only at h
  cases op with
  | call cl =>
    obtain ⟨callee, args, argTypes⟩ := cl
    have ha : SameOn tm tm' args.toList := fun x hx => h x (by simp only [Op.operands, Call.operands, Array.toList_append, List.mem_append]; exact .inr hx)
    cases callee with
    | value f =>
      cases f with
      | func f =>
        simp only [wfoot]
        rw [evalL_same ha]
      | _ => simp only [wfoot]
    | builtin b =>
      cases b <;> simp only [wfoot]
      split
      · rename_i x y hxy
        rw [ha x (by rw [hxy]; simp), refsO_same (ha y (by rw [hxy]; simp))]
      · rfl
    | invoke r m => simp only [wfoot]
  | store t a x => simp only [wfoot]; rw [refsO_same (h a (by simp [Op.operands]))]
  | slice t x lo hi mx => simp only [wfoot]; rw [refsO_same (h x (by simp [Op.operands]))]
  | _ => simp only [wfoot]

omit [Pin] in
theorem opD_same {R : Rec} {fid rid : Nat} {tm tm' : List AV} {o : Oper} (S : St) (h : SameOn tm tm' o.op.operands.toList) : opD c R fid rid tm o S = opD c R fid rid tm' o S := by
  unfold opD
  rw [aval_same S h, calm_same h, calmable_same h, aeff_same S h, wfoot_same S h, rfoot_same h]

theorem opD_ok (hc : CfgOk P c) {R : Rec} (hR : RecOk P R) {fid rid : Nat} {tm : List AV} {o : Oper} {S S1 : St} {v : AV} {ft : Foot} (h : opD c R fid rid tm o S = some (v, S1, ft)) : OpOk P tm o S v S1 := by
  unfold opD at h
  split at h
  · rename_i v' hv
    simp only [Option.some.injEq, Prod.mk.injEq] at h
    obtain ⟨rfl, rfl, rfl⟩ := h
    exact aval_ok hc hv
  · split at h
    · simp only [Option.map_eq_some_iff, Prod.mk.injEq] at h
      obtain ⟨v', hv, rfl, rfl, rfl⟩ := h
      exact calm_ok hc hR hv _
    · simp only [Option.map_eq_some_iff, Prod.mk.injEq] at h
      obtain ⟨⟨r, S2⟩, h1, rfl, rfl, rfl⟩ := h
      exact aeff_ok hc hR h1

omit [Pin] in
theorem opD_local {R : Rec} (hL : RecLen R) {fid rid : Nat} {tm : List AV} {o : Oper} {S S1 C : St} {v : AV} {ft : Foot} (h : opD c R fid rid tm o S = some (v, S1, ft)) (hn : Near ft S C) :
    ∃ C1, opD c R fid rid tm o C = some (v, C1, ft) ∧ Alike ft S S1 C C1 := by
  unfold opD at h ⊢
  split at h
  · rename_i v' hv
    simp only [Option.some.injEq, Prod.mk.injEq] at h
    obtain ⟨rfl, rfl, rfl⟩ := h
    have := aval_local (c := c) (tm := tm) (o := o) (S := S) (S' := C) fun o' ho => (hn.F o' ho).symm
    refine ⟨C, ?_, Alike.same hn.lenS hn.len hn.T hn.N⟩
    rw [← this, hv]
  · split at h
    · rename_i hnv hcm
      simp only [Option.map_eq_some_iff, Prod.mk.injEq] at h
      obtain ⟨v', hv, rfl, rfl, rfl⟩ := h
      refine ⟨C, ?_, Alike.same hn.lenS hn.len hn.T hn.N⟩
      obtain ⟨f, args, at_, ho, _⟩ := calm_call hv S
      have : aval c tm o C = none := by simp only [aval, ho]
      rw [this]
      simp only [hv, Option.map_some, if_pos hcm]
    · rename_i hnv hcalm
      simp only [Option.map_eq_some_iff, Prod.mk.injEq] at h
      obtain ⟨⟨r, S2⟩, h1, rfl, rfl, rfl⟩ := h
      have hk := Keeps.aeff hL h1 hn.lenS
      obtain ⟨C1, k1, k2, k3⟩ := aeff_local h1 hn hk.1 hk.2
      refine ⟨C1, ?_, k3⟩
      rw [aeff_noval h1 C]
      simp only [if_neg hcalm, k1, Option.map_some, k2]

/-! ### What is ahead -/
omit [Pin] in
theorem ancs_inv {L : Nat → Prop} : ∀ {l : List Oper} {acc : List (List Nat)}, (∀ k i, i ∈ acc.getD k [] → L k → L i) → (∀ k o, l[k]? = some o → L (acc.length + k) → ∀ e ∈ edgesAny o, L e) →
    ∀ k i, i ∈ (ancs l acc).getD k [] → L k → L i
  | [], acc, h, _ => h
  | o :: l, acc, h, hl => by
    rw [ancs]
    refine ancs_inv (fun k i hi hk => ?_) (fun k o' ho hk => hl (k + 1) o' (by simpa using ho) (by simp at hk; rwa [show acc.length + (k + 1) = acc.length + 1 + k by omega]))
    rw [List.getD, List.getElem?_append] at hi
    split at hi
    · exact h k i hi hk
    · rename_i hge
      cases hkk : k - acc.length with
      | succ m => rw [hkk] at hi; simp at hi
      | zero =>
        rw [hkk] at hi
        simp only [List.getElem?_cons_zero, Option.getD_some, List.mem_eraseDups, List.mem_flatMap, List.mem_cons] at hi
        obtain ⟨e, he, hi⟩ := hi
        have hkl : k = acc.length + 0 := by omega
        have hLe : L e := hl 0 o rfl (by rw [← hkl]; exact hk) e he
        rcases hi with rfl | hi
        · exact hLe
        · exact h e i hi hLe

end Go.Am

/- THE ABSTRACT MACHINE, TWENTY-NINTH FILE: regions whose order is open. -/
set_option linter.unusedSimpArgs false
set_option linter.unusedVariables false
namespace Go.Am
open Go.RowKit
variable [Pin] {P : Program} {c : Cfg}

/-- The run in the order of the text, step by step. -/
structure Trace (c : Cfg) (R : Rec) (fid rid : Nat) (ops : Array Oper) (l : List Oper) (tm : List AV) (S : St) (tm' : List AV) (S' : St) (fs : List Foot) (tms : Nat → List AV) (Ss : Nat → St) (vs : Nat → AV) (ft : Nat → Foot) : Prop where
  tm0 : tms 0 = tm
  S0 : Ss 0 = S
  tmn : tms l.length = tm'
  Sn : Ss l.length = S'
  feet : ∀ i, i < l.length → fs[i]? = some (ft i)
  step : ∀ i o, l[i]? = some o → tms (i + 1) = putT (tms i) o.dst (vs i) ∧
    ((awanted ops (tms i) o = true ∧ opD c R fid rid (tms i) o (Ss i) = some (vs i, Ss (i + 1), ft i)) ∨ (awanted ops (tms i) o = false ∧ vs i = .undef ∧ Ss (i + 1) = Ss i ∧ ft i = .none))

def shift {α : Type} (a : α) (f : Nat → α) : Nat → α
  | 0 => a
  | i + 1 => f i

omit [Pin] in
theorem trace_of {R : Rec} {fid rid : Nat} {ops : Array Oper} : ∀ {l : List Oper} {tm tm' : List AV} {S S' : St} {fs : List Foot}, runOpsD c R fid rid ops l tm S = some (tm', S', fs) → ∃ tms Ss vs ft, Trace c R fid rid ops l tm S tm' S' fs tms Ss vs ft
  | [], tm, tm', S, S', fs, h => by
    simp only [runOpsD, Option.some.injEq, Prod.mk.injEq] at h
    obtain ⟨rfl, rfl, rfl⟩ := h
    exact ⟨fun _ => tm, fun _ => S, fun _ => .undef, fun _ => .none, rfl, rfl, rfl, rfl, fun i hi => by simp at hi, fun i o hi => by simp at hi⟩
  | o :: l, tm, tm', S, S', fs, h => by
    rw [runOpsD] at h
    split at h
    · rename_i hw
      simp only [Option.bind_eq_some_iff, Option.map_eq_some_iff, Prod.mk.injEq] at h
      obtain ⟨⟨v, S1, f⟩, h1, ⟨tm2, S2, fs2⟩, h2, rfl, rfl, rfl⟩ := h
      obtain ⟨tms, Ss, vs, ft, t⟩ := trace_of h2
      refine ⟨shift tm tms, shift S Ss, shift v vs, shift f ft, rfl, rfl, t.tmn, t.Sn, fun i hi => ?_, fun i o' hi => ?_⟩
      · cases i with
        | zero => rfl
        | succ i => simpa [shift] using t.feet i (by simpa using hi)
      · cases i with
        | zero =>
          simp at hi
          subst hi
          refine ⟨by simp only [shift, t.tm0], .inl ⟨hw, ?_⟩⟩
          simp only [shift, t.S0]
          exact h1
        | succ i => exact t.step i o' (by simpa using hi)
    · rename_i hw
      simp only [Option.map_eq_some_iff, Prod.mk.injEq] at h
      obtain ⟨⟨tm2, S2, fs2⟩, h2, rfl, rfl, rfl⟩ := h
      obtain ⟨tms, Ss, vs, ft, t⟩ := trace_of h2
      refine ⟨shift tm tms, shift S Ss, shift .undef vs, shift .none ft, rfl, rfl, t.tmn, t.Sn, fun i hi => ?_, fun i o' hi => ?_⟩
      · cases i with
        | zero => rfl
        | succ i => simpa [shift] using t.feet i (by simpa using hi)
      · cases i with
        | zero =>
          simp at hi
          subst hi
          exact ⟨by simp only [shift, t.tm0], .inr ⟨by simpa [shift] using hw, rfl, by simp only [shift, t.S0], rfl⟩⟩
        | succ i => exact t.step i o' (by simpa using hi)

/-! ### The order -/
def Less (ops : Array Oper) (i j : Nat) : Prop := i ∈ (ahead ops).getD j []

omit [Pin] in
/-- A set of operations of which each has those ahead of it. -/
theorem less_closed {ops : Array Oper} {L : Nat → Prop} (h : ∀ j o, ops[j]? = some o → L j → ∀ e ∈ edgesAny o, L e) : ∀ i j, Less ops i j → L j → L i := fun i j hij hj =>
  ancs_inv (acc := []) (fun k i hi => by simp at hi) (fun k o ho hk => h k o (by simpa using ho) (by simpa using hk)) j i hij hj

omit [Pin] in
theorem mem_edgesAny {o : Oper} {e : Nat} : e ∈ edgesAny o ↔ ∃ d ∈ o.after, Region.binds .any d = true ∧ d.on = e := by
  simp only [edgesAny, List.mem_map, List.mem_filter, Array.mem_toList_iff, and_assoc]

structure DrawFacts (ops : Array Oper) : Prop where
  edges : ∀ j o, ops[j]? = some o → ∀ e ∈ edgesAny o, e < j
  temps : ∀ i j x y, i < j → ops[i]? = some x → ops[j]? = some y → Less ops i j ∨ tempsApart ops x y = true

omit [Pin] in
theorem drawFacts {ops : Array Oper} (h : drawOk ops = true) : DrawFacts ops := by
  simp only [drawOk, Bool.and_eq_true, List.all_eq_true, List.mem_range, Bool.or_eq_true, decide_eq_true_eq, List.contains_iff_mem] at h
  obtain ⟨h1, h2⟩ := h
  refine ⟨fun j o ho e he => ?_, fun i j x y hij hi hj => ?_⟩
  · exact h1 (o, j) (by rw [List.mem_zipIdx_iff_getElem?]; simpa using ho) e he
  · have hjn := (Array.getElem?_eq_some_iff.1 hj).1
    have := h2 j hjn i hij
    rw [hi, hj] at this
    exact this

omit [Pin] in
theorem feetFacts {ops : Array Oper} {fs : List Foot} (h : feetOk ops fs = true) : ∀ i j x y, i < j → j < ops.size → fs[i]? = some x → fs[j]? = some y → Less ops i j ∨ x.apart y = true := by
  simp only [feetOk, List.all_eq_true, List.mem_range, Bool.or_eq_true, List.contains_iff_mem] at h
  intro i j x y hij hjn hi hj
  have := h j hjn i hij
  rw [hi, hj] at this
  exact this

end Go.Am

/- THE ABSTRACT MACHINE, THIRTIETH FILE: regions whose order is open are sound. -/
set_option linter.unusedSimpArgs false
set_option linter.unusedVariables false
namespace Go.Am
open Go.RowKit
variable [Pin] {P : Program} {c : Cfg}

omit [Pin] in
theorem countP_flip {n i : Nat} {p q : Nat → Bool} (hi : i < n) (hp : p i = true) (hq : q i = false) (h : ∀ j, j ≠ i → q j = p j) : (List.range n).countP q + 1 = (List.range n).countP p := by
  induction n with
  | zero => omega
  | succ n ih =>
    rw [List.range_succ, List.countP_append, List.countP_append]
    simp only [List.countP_cons, List.countP_nil]
    by_cases e : i = n
    · subst e
      have : (List.range i).countP q = (List.range i).countP p := List.countP_congr fun j hj => by
        rw [List.mem_range] at hj
        rw [h j (by omega)]
      rw [this, hp, hq]
      simp
    · have := ih (by omega)
      rw [h n (fun h => e h.symm)]
      omega

section draw
variable {R : Rec} {fid rid : Nat} {ops : Array Oper} {tm tm' : List AV} {S S' : St} {fs : List Foot} {tms : Nat → List AV} {Ss : Nat → St} {vs : Nat → AV} {ft : Nat → Foot}

def dstIs (ops : Array Oper) (i : Nat) (t : Tmp) : Prop := ∃ o, ops[i]? = some o ∧ o.dst = some t
def looksAt (ops : Array Oper) (i : Nat) (t : Tmp) : Prop := ∃ o, ops[i]? = some o ∧ (t ∈ looks ops o ∨ o.dst = some t)

omit [Pin] in
theorem temps_ordered (hd : DrawFacts ops) : Ordered ops.size (dstIs ops) (looksAt ops) (Less ops) := by
  rintro i j t hi hj ⟨y, hy, hyt⟩ ⟨x, hx, hxt⟩
  constructor
  · intro hlt
    refine (hd.temps j i y x hlt hy hx).resolve_right fun ha => ?_
    simp only [tempsApart, hyt, Bool.and_eq_true, Bool.not_eq_true', List.contains_eq_mem, decide_eq_false_iff_not, beq_eq_false_iff_ne, ne_eq] at ha
    rcases hxt with h | h
    · exact ha.1.1 h
    · exact ha.1.2 h
  · intro hlt
    refine (hd.temps i j x y hlt hx hy).resolve_right fun ha => ?_
    simp only [tempsApart, hyt, Bool.and_eq_true, Bool.not_eq_true', List.contains_eq_mem, decide_eq_false_iff_not, beq_eq_false_iff_ne, ne_eq] at ha
    rcases hxt with h | h
    · exact ha.2 h
    · rw [h] at ha
      simp at ha

omit [Pin] in
theorem ft_apart {a b : Ft} {o : Nat} (h : a.apart b = true) (ha : a.has o) (hb : b.has o) : False := by
  cases a with
  | all => cases b with
    | all => simp [Ft.apart] at h
    | ids l => cases l with
      | nil => simp [Ft.has] at hb
      | cons x l => simp [Ft.apart] at h
  | ids l => cases b with
    | all => cases l with
      | nil => simp [Ft.has] at ha
      | cons x l => simp [Ft.apart] at h
    | ids l' =>
      simp only [Ft.apart, List.all_eq_true, Bool.not_eq_true', List.contains_eq_mem, decide_eq_false_iff_not] at h
      exact h o ha hb

def footF (ft : Nat → Foot) (i o : Nat) : Prop := (ft i).F.has o
def footT (ft : Nat → Foot) (i o : Nat) : Prop := (ft i).T.has o
def footN (ft : Nat → Foot) (i : Nat) (_ : Unit) : Prop := (ft i).N = true

omit [Pin] in
theorem wfoot_TF {tm : List AV} {o : Oper} {S : St} {x : Nat} : (wfoot c tm o S).T.has x → (wfoot c tm o S).F.has x := by
  unfold wfoot
  split
  · exact id
  · exact id
  · exact id
  · exact id
  · exact id
  · split
    · split
      all_goals first
        | exact id
        | (intro h; simp only [Ft.has, List.mem_singleton] at h ⊢; subst h; exact List.mem_cons_self ..)
    · exact id
  · split
    · split <;> exact id
    · exact id
  · exact id

omit [Pin] in
theorem opD_TF {tm : List AV} {o : Oper} {S S1 : St} {v : AV} {f : Foot} (h : opD c R fid rid tm o S = some (v, S1, f)) {x : Nat} : f.T.has x → f.F.has x := by
  unfold opD at h
  split at h
  · simp only [Option.some.injEq, Prod.mk.injEq] at h
    obtain ⟨_, _, rfl⟩ := h
    intro h; simp [Ft.has] at h
  · split at h
    · simp only [Option.map_eq_some_iff, Prod.mk.injEq] at h
      obtain ⟨_, _, _, _, rfl⟩ := h
      intro h; simp [Ft.has, Foot.none] at h
    · simp only [Option.map_eq_some_iff, Prod.mk.injEq] at h
      obtain ⟨_, _, _, _, rfl⟩ := h
      exact wfoot_TF

omit [Pin] in
theorem trace_TF (t : Trace c R fid rid ops ops.toList tm S tm' S' fs tms Ss vs ft) {i : Nat} (hi : i < ops.size) {x : Nat} (h : footT ft i x) : footF ft i x := by
  have ho : ops.toList[i]? = some ops[i] := by simp [hi]
  rcases (t.step i _ ho).2 with ⟨_, h1⟩ | ⟨_, _, _, h1⟩
  · exact opD_TF h1 h
  · unfold footT at h; rw [h1] at h; simp [Ft.has, Foot.none] at h

omit [Pin] in
theorem feet_apart (t : Trace c R fid rid ops ops.toList tm S tm' S' fs tms Ss vs ft) (hf : feetOk ops fs = true) {i j : Nat} (hij : i < j) (hj : j < ops.size) : Less ops i j ∨ (ft i).apart (ft j) = true :=
  feetFacts hf i j _ _ hij hj (t.feet i (by simp; omega)) (t.feet j (by simpa using hj))

omit [Pin] in
theorem objs_ordered (t : Trace c R fid rid ops ops.toList tm S tm' S' fs tms Ss vs ft) (hf : feetOk ops fs = true) : Ordered ops.size (footT ft) (footF ft) (Less ops) := by
  intro i j x hi hj hT hF
  constructor
  · intro hlt
    refine (feet_apart t hf hlt hi).resolve_right fun ha => ?_
    simp only [Foot.apart, Bool.and_eq_true] at ha
    exact ft_apart ha.1.2 hT hF
  · intro hlt
    refine (feet_apart t hf hlt hj).resolve_right fun ha => ?_
    simp only [Foot.apart, Bool.and_eq_true] at ha
    exact ft_apart ha.1.1 hT hF

omit [Pin] in
theorem nums_ordered (t : Trace c R fid rid ops ops.toList tm S tm' S' fs tms Ss vs ft) (hf : feetOk ops fs = true) : Ordered ops.size (footN ft) (footN ft) (Less ops) := by
  intro i j x hi hj hT hF
  constructor
  · intro hlt
    refine (feet_apart t hf hlt hi).resolve_right fun ha => ?_
    simp only [Foot.apart, Bool.and_eq_true] at ha
    unfold footN at hT hF
    simp [hT, hF] at ha
  · intro hlt
    refine (feet_apart t hf hlt hj).resolve_right fun ha => ?_
    simp only [Foot.apart, Bool.and_eq_true] at ha
    unfold footN at hT hF
    simp [hT, hF] at ha

end draw

end Go.Am

/- THE ABSTRACT MACHINE, THIRTY-FIRST FILE: regions whose order is open are sound. -/
set_option linter.unusedSimpArgs false
set_option linter.unusedVariables false
namespace Go.Am
open Go.RowKit
variable [Pin] {P : Program} {c : Cfg} {R : Rec} {fid rid : Nat} {ops : Array Oper} {tm tm' : List AV} {S S' : St} {fs : List Foot} {tms : Nat → List AV} {Ss : Nat → St} {vs : Nat → AV} {ft : Nat → Foot}

omit [Pin] in
theorem awanted_same {tm1 tm2 : List AV} {o : Oper} (h : ∀ t ∈ looks ops o, tm1.getD t .undef = tm2.getD t .undef) : awanted ops tm1 o = awanted ops tm2 o := by
  unfold awanted
  unfold looks at h
  cases hg : o.guard with
  | none => rfl
  | some q =>
    obtain ⟨j, want⟩ := q
    simp only [hg] at h ⊢
    unfold ayielded
    cases hd : (ops[j]?).bind (·.dst) with
    | none => rfl
    | some d =>
      have := h d (by rw [List.mem_append]; right; simp [hd])
      simp only [this]

omit [Pin] in
theorem putT_getD {tm : List AV} {d : Option Tmp} {v : AV} {t : Tmp} (h : d ≠ some t) : (putT tm d v).getD t .undef = tm.getD t .undef := by
  cases d with
  | none => rfl
  | some d =>
    have hne : d ≠ t := fun e => h (by rw [e])
    simp [putT, List.getD, List.getElem?_set_ne hne]

omit [Pin] in
theorem putT_length {tm : List AV} {d : Option Tmp} {v : AV} : (putT tm d v).length = tm.length := by cases d <;> simp [putT]

omit [Pin] in
theorem putT_hit {tm1 tm2 : List AV} {d : Tmp} {v : AV} (h : tm1.length = tm2.length) : (putT tm1 (some d) v).getD d .undef = (putT tm2 (some d) v).getD d .undef := by
  simp only [putT, List.getD, List.getElem?_set, if_pos, h]

omit [Pin] in
theorem trace_len (hL : RecLen R) (t : Trace c R fid rid ops ops.toList tm S tm' S' fs tms Ss vs ft) (hS : S.h.length = S.n) : ∀ i, i ≤ ops.size → (Ss i).h.length = (Ss i).n ∧ (Ss i).base = S.base ∧ (tms i).length = tm.length
  | 0, _ => by rw [t.S0, t.tm0]; exact ⟨hS, rfl, rfl⟩
  | i + 1, hi => by
    obtain ⟨h1, h2, h3⟩ := trace_len hL t hS i (by omega)
    have ho : ops.toList[i]? = some ops[i] := by simp
    obtain ⟨k1, k2⟩ := t.step i _ ho
    rw [k1, putT_length]
    rcases k2 with ⟨_, k2⟩ | ⟨_, _, k2, _⟩
    · have := Keeps.opD hL k2 h1
      exact ⟨this.1, this.2.trans h2, h3⟩
    · rw [k2]; exact ⟨h1, h2, h3⟩

omit [Pin] in
theorem trace_alike (hL : RecLen R) (t : Trace c R fid rid ops ops.toList tm S tm' S' fs tms Ss vs ft) (hS : S.h.length = S.n) {i : Nat} (hi : i < ops.size) : Alike (ft i) (Ss i) (Ss (i + 1)) (Ss i) (Ss (i + 1)) := by
  obtain ⟨h1, h2, h3⟩ := trace_len hL t hS i (by omega)
  have ho : ops.toList[i]? = some ops[i] := by simp
  rcases (t.step i _ ho).2 with ⟨_, k2⟩ | ⟨_, _, k2, k3⟩
  · obtain ⟨C1, q1, q2⟩ := opD_local hL k2 ⟨h1, h1, rfl, fun _ _ => rfl, fun _ _ => rfl, fun _ => rfl⟩
    rw [k2] at q1
    simp only [Option.some.injEq, Prod.mk.injEq] at q1
    obtain ⟨_, rfl, _⟩ := q1
    exact q2
  · rw [k2, k3]
    exact Alike.same h1 h1 (fun _ _ => rfl) fun _ => rfl

end Go.Am

/- THE ABSTRACT MACHINE, THIRTY-SECOND FILE: regions whose order is open: a step. -/
set_option linter.unusedSimpArgs false
set_option linter.unusedVariables false
namespace Go.Am
open Go.RowKit
variable [Pin] {P : Program} {c : Cfg} {R : Rec} {fid rid : Nat} {ops : Array Oper} {tm tm' : List AV} {S S' : St} {fs : List Foot} {tms : Nat → List AV} {Ss : Nat → St} {vs : Nat → AV} {ft : Nat → Foot}

structure Inv (ops : Array Oper) (tm : List AV) (S : St) (tms : Nat → List AV) (Ss : Nat → St) (ft : Nat → Foot) (L : Nat → Prop) (tmC : List AV) (C : St) : Prop where
  tlen : tmC.length = tm.length
  len : C.h.length = C.n
  base : C.base = S.base
  temps : ∀ t, Cut ops.size (fun i t => (tms i).getD t .undef) (dstIs ops) L t (tmC.getD t .undef)
  objs : ∀ o, Cut ops.size (fun i o => (Ss i).get o) (footT ft) L o (C.get o)
  num : Cut ops.size (fun i (_ : Unit) => (Ss i).n) (footN ft) L () C.n

omit [Pin] in
theorem inv_step (hL : RecLen R) (t : Trace c R fid rid ops ops.toList tm S tm' S' fs tms Ss vs ft) (hS : S.h.length = S.n) (hd : DrawFacts ops) (hf : feetOk ops fs = true) {L : Nat → Prop} {tmC : List AV} {C : St} (h : Inv ops tm S tms Ss ft L tmC C)
    (hc : ∀ i j, Less ops i j → L j → L i) {i : Nat} {o : Oper} (hi : ops[i]? = some o) (hiL : ¬ L i) (hp : ∀ j, Less ops j i → L j) :
    (awanted ops tmC o = true ∧ ∃ C1, opD c R fid rid tmC o C = some (vs i, C1, ft i) ∧ Inv ops tm S tms Ss ft (fun j => L j ∨ j = i) (putT tmC o.dst (vs i)) C1) ∨
    (awanted ops tmC o = false ∧ vs i = .undef ∧ Inv ops tm S tms Ss ft (fun j => L j ∨ j = i) (putT tmC o.dst (vs i)) C) := by
  have hlt := (Array.getElem?_eq_some_iff.1 hi).1
  have hil : ops.toList[i]? = some o := by simpa using hi
  obtain ⟨s1, s2⟩ := t.step i o hil
  have hvT : ∀ j x, j < ops.size → ¬ dstIs ops j x → (fun i t => (tms i).getD t .undef) (j + 1) x = (fun i t => (tms i).getD t .undef) j x := fun j x hj hn => by
    have hjl : ops.toList[j]? = some ops[j] := by simp
    simp only [(t.step j _ hjl).1]
    exact putT_getD fun e => hn ⟨ops[j], by simp, e⟩
  have hvO : ∀ j x, j < ops.size → ¬ footT ft j x → (fun i o => (Ss i).get o) (j + 1) x = (fun i o => (Ss i).get o) j x := fun j x hj hn => ((trace_alike hL t hS hj).off x hn).2
  have hvN : ∀ j (x : Unit), j < ops.size → ¬ footN ft j x → (fun i (_ : Unit) => (Ss i).n) (j + 1) x = (fun i (_ : Unit) => (Ss i).n) j x := fun j x hj hn => ((trace_alike hL t hS hj).nonum (by unfold footN at hn; simpa using hn)).2
  have hoT := temps_ordered hd
  have hoO := objs_ordered t hf
  have hoN := nums_ordered t hf
  have hlook : ∀ u ∈ looks ops o, tmC.getD u .undef = (tms i).getD u .undef := fun u hu => Cut.look hvT hoT hc hlt hiL hp ⟨o, hi, .inl hu⟩ (h.temps u)
  have hobj : ∀ x, (ft i).F.has x → C.get x = (Ss i).get x := fun x hx => Cut.look hvO hoO hc hlt hiL hp hx (h.objs x)
  have hnum : (ft i).N = true → C.n = (Ss i).n := fun hn => Cut.look hvN hoN hc hlt hiL hp (x := ()) hn h.num
  obtain ⟨l1, l2, l3⟩ := trace_len hL t hS i (by omega)
  have hnear : Near (ft i) (Ss i) C := ⟨l1, h.len, h.base.trans l2.symm, hobj, fun x hx => hobj x (trace_TF t hlt hx), hnum⟩
  have hops : SameOn tmC (tms i) o.op.operands.toList := sameOn_of fun u hu => hlook u (by unfold looks; exact List.mem_append_left _ hu)
  have hw := awanted_same hlook
  -- the temporaries behind it
  have htemps : ∀ u, Cut ops.size (fun i t => (tms i).getD t .undef) (dstIs ops) (fun j => L j ∨ j = i) u ((putT tmC o.dst (vs i)).getD u .undef) := fun u => by
    by_cases hu : o.dst = some u
    · have := Cut.on (val := fun i t => (tms i).getD t .undef) hoT (fun j x ⟨q, h1, h2⟩ => ⟨q, h1, .inr h2⟩) hc hlt hiL hp (x := u) ⟨o, hi, hu⟩
      have he : (putT tmC o.dst (vs i)).getD u .undef = (tms (i + 1)).getD u .undef := by
        rw [s1, hu]
        exact putT_hit (h.tlen.trans l3.symm)
      rw [he]
      exact this
    · rw [putT_getD hu]
      refine Cut.off ?_ (h.temps u)
      rintro ⟨q, h1, h2⟩
      rw [hi] at h1
      cases h1
      exact hu h2
  have after : ∀ C1, Alike (ft i) (Ss i) (Ss (i + 1)) C C1 → Inv ops tm S tms Ss ft (fun j => L j ∨ j = i) (putT tmC o.dst (vs i)) C1 := fun C1 ha => by
    refine ⟨putT_length.trans h.tlen, ha.len, ha.base.trans h.base, htemps, fun x => ?_, ?_⟩
    · by_cases hx : footT ft i x
      · rw [ha.on x hx]
        refine Cut.on' (val := fun i o => (Ss i).get o) hoO hc (fun x => trace_TF t hlt) hlt hiL hp hx
      · rw [(ha.off x hx).1]
        exact Cut.off hx (h.objs x)
    · by_cases hn : footN ft i ()
      · rw [ha.num hn]
        exact Cut.on (val := fun i (_ : Unit) => (Ss i).n) hoN (fun _ _ x => x) hc hlt hiL hp hn
      · rw [(ha.nonum (by unfold footN at hn; simpa using hn)).1]
        exact Cut.off hn h.num
  rcases s2 with ⟨w1, w2⟩ | ⟨w1, w2, w3, w4⟩
  · obtain ⟨C1, q1, q2⟩ := opD_local hL w2 hnear
    exact .inl ⟨hw.trans w1, C1, by rw [opD_same C hops]; exact q1, after C1 q2⟩
  · refine .inr ⟨hw.trans w1, w2, after C ?_⟩
    rw [w3]
    exact Alike.same l1 h.len hnear.T hnear.N

end Go.Am

/- THE ABSTRACT MACHINE, THIRTY-THIRD FILE: the abstract machine is sound. -/
set_option linter.unusedSimpArgs false
set_option linter.unusedVariables false
namespace Go.Am
open Go.RowKit
variable [Pin] {P : Program} {c : Cfg} {R : Rec} {fid rid : Nat} {ops : Array Oper} {tm tm' : List AV} {S S' : St} {fs : List Foot} {tms : Nat → List AV} {Ss : Nat → St} {vs : Nat → AV} {ft : Nat → Foot}

omit [Pin] in
theorem ancs_lt : ∀ {l : List Oper} {acc : List (List Nat)}, (∀ k i, i ∈ acc.getD k [] → i < k) → (∀ k o, l[k]? = some o → ∀ e ∈ edgesAny o, e < acc.length + k) → ∀ k i, i ∈ (ancs l acc).getD k [] → i < k
  | [], acc, h, _ => h
  | o :: l, acc, h, hl => by
    rw [ancs]
    refine ancs_lt (fun k i hi => ?_) (fun k o' ho e he => by
      have := hl (k + 1) o' (by simpa using ho) e he
      simp
      omega)
    rw [List.getD, List.getElem?_append] at hi
    split at hi
    · exact h k i hi
    · rename_i hge
      cases hkk : k - acc.length with
      | succ m => rw [hkk] at hi; simp at hi
      | zero =>
        rw [hkk] at hi
        simp only [List.getElem?_cons_zero, Option.getD_some, List.mem_eraseDups, List.mem_flatMap, List.mem_cons] at hi
        obtain ⟨e, he, hi⟩ := hi
        have hlt := hl 0 o rfl e he
        rcases hi with rfl | hi
        · omega
        · have := h e i hi
          omega

omit [Pin] in
theorem less_lt (hd : DrawFacts ops) {i j : Nat} (h : Less ops i j) : i < j :=
  ancs_lt (acc := []) (fun k i hi => by simp at hi) (fun k o ho e he => by simpa using hd.edges k o (by simpa using ho) e he) j i h

def On (listed : Array Bool) (i : Nat) : Prop := listed.getD i false = true

theorem any_ok (hc : CfgOk P c) (hR : RecOk P R) (hL : RecLen R) (t : Trace c R fid rid ops ops.toList tm S tm' S' fs tms Ss vs ft) (hS : S.h.length = S.n) (hd : DrawFacts ops) (hf : feetOk ops fs = true) {rd : Option Nat} {Q : Exit → Act → World → Prop} :
    ∀ (fuel : Nat) (listed : Array Bool) (a : Act) (G : Gh) (w : World) (tmC : List AV) (C : St), listed.size = ops.size → (List.range ops.size).countP (fun i => !listed.getD i true) = fuel →
      (∀ j o, ops[j]? = some o → On listed j → ∀ e ∈ edgesAny o, On listed e) → Inv ops tm S tms Ss ft (On listed) tmC C → Wrel G C w → RepL G w tmC a.tmps.toList →
      (∀ G' w' a', Wrel G' S' w' → Step G C w G' S' w' → RepL G' w' tm' a'.tmps.toList → a'.defers = a.defers → Q .normal a' w') →
      wpAnyIn (FR rd) 0 P .any ops Q fuel listed a w := by
  intro fuel
  have hn : ops.toList.length = ops.size := by simp
  have fin : ∀ (listed : Array Bool) (a : Act) (G : Gh) (w : World) (tmC : List AV) (C : St), (∀ i, i < ops.size → On listed i) → Inv ops tm S tms Ss ft (On listed) tmC C → Wrel G C w → RepL G w tmC a.tmps.toList →
      (∀ G' w' a', Wrel G' S' w' → Step G C w G' S' w' → RepL G' w' tm' a'.tmps.toList → a'.defers = a.defers → Q .normal a' w') → Q .normal a w := fun listed a G w tmC C hall h hW ht hQ => by
    obtain ⟨l1, l2, l3⟩ := trace_len hL t hS ops.size (Nat.le_refl _)
    have hSn : Ss ops.size = S' := by rw [← hn]; exact t.Sn
    have htn : tms ops.size = tm' := by rw [← hn]; exact t.tmn
    have hCS : C = S' := by
      rw [hSn] at l1 l2
      refine St.ext_get l1 h.len ?_ (h.base.trans l2.symm) fun x => ?_
      · have := Cut.all (fun j x hj hn => ((trace_alike hL t hS hj).nonum (by unfold footN at hn; simpa using hn)).2) hall h.num
        rw [← hSn]; exact this
      · have := Cut.all (fun j x hj hn => ((trace_alike hL t hS hj).off x hn).2) hall (h.objs x)
        rw [← hSn]; exact this
    have htm : tmC = tm' := by
      have hlen : tmC.length = tm'.length := by rw [h.tlen, ← htn, l3]
      apply List.ext_getElem hlen
      intro u h1 h2
      have := Cut.all (fun j x hj hn => by
        have hjl : ops.toList[j]? = some ops[j] := by simp
        simp only [(t.step j _ hjl).1]
        exact putT_getD fun e => hn ⟨ops[j], by simp, e⟩) hall (h.temps u)
      rw [htn] at this
      simpa [List.getD, h1, h2] using this
    subst hCS htm
    exact hQ G w a hW (.refl _ _ _) ht rfl
  induction fuel with
  | zero =>
    intro listed a G w tmC C hsz hcount hcl h hW ht hQ
    have hall : ∀ i, i < ops.size → On listed i := fun i hi => by
      have := List.countP_eq_zero.1 hcount i (List.mem_range.2 hi)
      have h1 : i < listed.size := by omega
      unfold On
      simp [h1] at this ⊢
      exact this
    refine ⟨?_, fin listed a G w tmC C hall h hW ht hQ⟩
    apply List.eq_nil_iff_forall_not_mem.2
    intro i hi
    have hi' := mem_ready.1 hi
    obtain ⟨k1, o, k2, _⟩ := hi'
    have hlt := (Array.getElem?_eq_some_iff.1 k2).1
    have := hall i hlt
    have h1 : i < listed.size := by omega
    unfold On at this
    simp [h1] at this k1
    rw [this] at k1
    cases k1
  | succ fuel ih =>
    intro listed a G w tmC C hsz hcount hcl h hW ht hQ
    refine ⟨fun hr => ?_, fun i hi => ?_⟩
    · refine fin listed a G w tmC C (fun i => ?_) h hW ht hQ
      induction i using Nat.strongRecOn with
      | _ i ihi =>
        intro hi
        have ho : ops[i]? = some ops[i] := by simp
        have hon : ¬ listed.getD i true = false := fun hf' => by
          have : i ∈ Region.ready .any ops listed := mem_ready.2 ⟨hf', _, ho, fun e he hb => by
            have hm : e.on ∈ edgesAny ops[i] := mem_edgesAny.2 ⟨e, he, hb, rfl⟩
            have hlt := hd.edges i _ ho _ hm
            exact ihi _ hlt (by omega)⟩
          rw [hr] at this
          cases this
        have h1 : i < listed.size := by omega
        unfold On
        simp [h1] at hon ⊢
        exact hon
    · obtain ⟨k1, o, ho, k3⟩ := mem_ready.1 hi
      have hlt := (Array.getElem?_eq_some_iff.1 ho).1
      have h1 : i < listed.size := by omega
      have hno : ¬ On listed i := by
        unfold On
        simp [h1] at k1 ⊢
        exact k1
      have hclosed := less_closed (L := On listed) hcl
      have hpre : ∀ j, Less ops j i → On listed j := fun j hj => by
        have hcl' : ∀ j' o', ops[j']? = some o' → (On listed j' ∨ j' = i) → ∀ e ∈ edgesAny o', (On listed e ∨ e = i) := fun j' o' ho' hj' e he => by
          rcases hj' with hj' | rfl
          · exact .inl (hcl j' o' ho' hj' e he)
          · rw [ho] at ho'
            cases ho'
            obtain ⟨d, d1, d2, d3⟩ := mem_edgesAny.1 he
            exact .inl (by rw [← d3]; exact k3 d d1 d2)
        exact (less_closed (L := fun k => On listed k ∨ k = i) hcl' j i hj (.inr rfl)).resolve_right (Nat.ne_of_lt (less_lt hd hj))
      have hon' : ∀ j, On (listed.setIfInBounds i true) j ↔ (On listed j ∨ j = i) := fun j => by
        unfold On
        by_cases e : i = j
        · subst e
          simp [h1]
        · rw [getD_set_ne false e]
          exact ⟨.inl, fun hh => hh.resolve_right fun h => e h.symm⟩
      have heq : (fun j => On listed j ∨ j = i) = On (listed.setIfInBounds i true) := funext fun j => propext (hon' j).symm
      have hcnt : (List.range ops.size).countP (fun j => !(listed.setIfInBounds i true).getD j true) = fuel := by
        have := countP_flip (p := fun j => !listed.getD j true) (q := fun j => !(listed.setIfInBounds i true).getD j true) hlt (by simp only [k1]; rfl) (by simp [h1]) (fun j hj => by simp only [getD_set_ne true (fun e => hj e.symm)])
        omega
      have hcl2 : ∀ j' o', ops[j']? = some o' → On (listed.setIfInBounds i true) j' → ∀ e ∈ edgesAny o', On (listed.setIfInBounds i true) e := fun j' o' ho' hj' e he => by
        rw [hon'] at hj' ⊢
        rcases hj' with hj' | rfl
        · exact .inl (hcl j' o' ho' hj' e he)
        · rw [ho] at ho'
          cases ho'
          obtain ⟨d, d1, d2, d3⟩ := mem_edgesAny.1 he
          exact .inl (by rw [← d3]; exact k3 d d1 d2)
      have hstep := inv_step hL t hS hd hf h hclosed ho hno hpre
      unfold wpOpIn
      rw [ho]
      simp only
      rw [← wanted_eq ht]
      rcases hstep with ⟨w1, C1, w2, w3⟩ | ⟨w1, w2, w3⟩
      · rw [if_pos w1]
        rw [heq] at w3
        refine opD_ok hc hR w2 G w a rd _ Q hW ht fun G1 w' u hW1 hst1 hu => ?_
        exact ih _ _ G1 w' _ C1 (by simpa using hsz) hcnt hcl2 w3 hW1 (put_rep (hst1.repL ht) _ hu) fun G' w'' a' hW' hst' ht' hd' => hQ G' w'' a' hW' (hst1.trans hst') ht' (hd'.trans (put_defers _ _ _))
      · rw [if_neg (by simp [w1])]
        rw [heq] at w3
        refine ⟨fun f _ => trivial, ih _ _ G w _ C (by simpa using hsz) hcnt hcl2 w3 hW (put_rep ht _ (by rw [w2]; exact .undef)) fun G' w'' a' hW' hst' ht' hd' => hQ G' w'' a' hW' hst' ht' (hd'.trans (put_defers _ _ _))⟩


theorem wrel_drew {G : Gh} {S : St} {w : World} (h : Wrel G S w) : Wrel G S { w with drawn := w.drawn + 1 } ∧ Step G S w G S { w with drawn := w.drawn + 1 } :=
  same_step h ⟨rfl, rfl, rfl, rfl⟩

theorem draw_ok (hc : CfgOk P c) (hR : RecOk P R) (hL : RecLen R) : DrawOk P c R := by
  intro fid rid ops tm S tm' S' h
  unfold aregion at h
  rw [if_pos rfl] at h
  split at h
  case isFalse => simp at h
  rename_i hdr
  simp only [Option.bind_eq_some_iff] at h
  obtain ⟨⟨tm2, S2, fs⟩, h1, h⟩ := h
  split at h
  case isFalse => simp at h
  rename_i hf
  simp only [Option.some.injEq, Prod.mk.injEq] at h
  obtain ⟨rfl, rfl⟩ := h
  obtain ⟨tms, Ss, vs, ft, t⟩ := trace_of h1
  intro G w a rd Q hW ht hQ
  obtain ⟨g1, g2⟩ := wrel_drew hW
  have hno : ∀ j, ¬ On (Array.replicate ops.size false) j := fun j => by
    unfold On
    simp only [Array.getD_eq_getD_getElem?, Array.getElem?_replicate]
    split <;> simp
  refine wpIn_region_any hc.mixed (any_ok hc hR hL t hW.len (drawFacts hdr) hf ops.size _ a G _ tm S (by simp) ?_ (fun j o _ hj => absurd hj (hno j)) ⟨rfl, hW.len, rfl, fun u => ?_, fun o => ?_, ?_⟩ g1 (g2.repL ht) fun G' w' a' hW' hst' ht' hd' => hQ G' w' a' hW' (g2.trans hst') ht' hd')
  · rw [List.countP_eq_length.2]
    · simp
    · intro j hj
      rw [List.mem_range] at hj
      simp [hj]
  · have := Cut.zero (n := ops.size) (val := fun i t => (tms i).getD t .undef) (T := dstIs ops) _ hno u
    simpa [t.tm0] using this
  · have := Cut.zero (n := ops.size) (val := fun i o => (Ss i).get o) (T := footT ft) _ hno o
    simpa [t.S0] using this
  · have := Cut.zero (n := ops.size) (val := fun i (_ : Unit) => (Ss i).n) (T := footN ft) _ hno ()
    simpa [t.S0] using this

/-- **THE ABSTRACT MACHINE IS SOUND.** -/
theorem run_sound (hc : CfgOk P c) : ∀ n, RecOk P (run c n)
  | 0 => ⟨fun _ _ _ _ _ _ h => by simp [run] at h, fun _ _ _ _ _ _ h => by simp [run] at h, fun _ _ _ _ _ h => by simp [run] at h⟩
  | n + 1 => by
    have ih := run_sound hc n
    have hd := draw_ok hc ih (run_recLen n)
    exact ⟨fun code fr S ex fr' S' h => (exec_ok hc ih hd code fr S ex fr' S' h).1, fun b fr S ex fr' S' h => (exec_ok hc ih hd (.loop b) fr S ex fr' S' h).2 b rfl,
      fun f args S r S' h => callS_ok hc ih.code h⟩

end Go.Am

/- THE ABSTRACT MACHINE, THIRTY-FOURTH FILE: the machine without fuel. -/
set_option linter.unusedSimpArgs false
set_option linter.unusedVariables false
namespace Go.Am
variable {c : Cfg}

/-- From some number on. -/
def Ev (p : Nat → Prop) : Prop := ∃ n, ∀ m, n ≤ m → p m

theorem Ev.all {p : Nat → Prop} (h : ∀ m, p m) : Ev p := ⟨0, fun m _ => h m⟩
theorem Ev.mono {p q : Nat → Prop} (h : Ev p) (k : ∀ m, p m → q m) : Ev q := let ⟨n, hn⟩ := h; ⟨n, fun m hm => k m (hn m hm)⟩
theorem Ev.mono2 {p q r : Nat → Prop} (h : Ev p) (h' : Ev q) (k : ∀ m, p m → q m → r m) : Ev r :=
  let ⟨n, hn⟩ := h
  let ⟨n', hn'⟩ := h'
  ⟨max n n', fun m hm => k m (hn m (by omega)) (hn' m (by omega))⟩

/-- What comes of the one comes of the others, from some number on. -/
def To {α : Type} (X : Option α) (Xs : Nat → Option α) : Prop := ∀ r, X = some r → Ev fun m => Xs m = some r

theorem To.same {α : Type} (X : Option α) : To X fun _ => X := fun r h => .all fun _ => h
theorem To.bind {α β : Type} {X : Option α} {Xs : Nat → Option α} {f : α → Option β} {fs : Nat → α → Option β} (h : To X Xs) (k : ∀ a, To (f a) fun m => fs m a) : To (X.bind f) fun m => (Xs m).bind (fs m) := by
  intro r hr
  simp only [Option.bind_eq_some_iff] at hr
  obtain ⟨a, ha, hr⟩ := hr
  exact (h a ha).mono2 (k a r hr) fun m h1 h2 => by simp [h1, h2]
theorem To.map {α β : Type} {X : Option α} {Xs : Nat → Option α} {f : α → β} (h : To X Xs) : To (X.map f) fun m => (Xs m).map f := by
  intro r hr
  simp only [Option.map_eq_some_iff] at hr
  obtain ⟨a, ha, hr⟩ := hr
  exact (h a ha).mono fun m h1 => by simp [h1, hr]
theorem To.ite {α : Type} {p : Prop} [Decidable p] {X Y : Option α} {Xs Ys : Nat → Option α} (h : To X Xs) (k : To Y Ys) : To (if p then X else Y) fun m => if p then Xs m else Ys m := by
  by_cases hp : p
  · simpa [hp] using h
  · simpa [hp] using k

structure Lim (R : Rec) (Rs : Nat → Rec) : Prop where
  code : ∀ code fr S, To (R.code code fr S) fun m => (Rs m).code code fr S
  call : ∀ f args S, To (R.call f args S) fun m => (Rs m).call f args S

variable {R : Rec} {Rs : Nat → Rec}

theorem Lim.callM (L : Lim R Rs) (f : FuncId) (args : List AV) (S : St) : To (callM c R f args S) fun m => callM c (Rs m) f args S := by
  unfold Am.callM
  cases c.mode f with
  | raw => exact L.call _ _ _
  | pure => exact .bind (.same _) fun a => .bind (L.call _ _ _) fun r => .same _
  | temp => exact .bind (L.call _ _ _) fun r => .same _

theorem Lim.callF (L : Lim R Rs) (f : FuncId) (args : List AV) (S : St) : To (callF c R f args S) fun m => callF c (Rs m) f args S := by
  unfold Am.callF
  cases c.ext f with
  | none => exact L.callM _ _ _
  | some F =>
    cases F with
    | val F => exact .same _
    | push F =>
      simp only
      cases (XT.push F).run args S with
      | some r => exact .same _
      | none => exact L.callM _ _ _

theorem Lim.yieldS (L : Lim R Rs) (l : Nat) (args : List AV) (S : St) : To (yieldS R l args S) fun m => yieldS (Rs m) l args S := by
  unfold Am.yieldS
  cases S.get l with
  | none => exact .same _
  | some ob =>
    cases ob with
    | loop st p fn tmps ps asg body d =>
      cases st with
      | ready =>
        simp only
        refine .ite (.bind (L.code _ _ _) fun r => ?_) (.same _)
        refine .ite ?_ (.same _)
        cases r.2.2.get l with
        | none => exact .same _
        | some ob2 =>
          cases ob2 with
          | loop st2 p2 fn2 tmps2 ps2 asg2 body2 d2 =>
            cases st2 with
            | ready => exact .bind (.same _) fun Sb => .bind (L.code _ _ _) fun q => .same _
            | _ => exact .same _
          | _ => exact .same _
      | _ => exact .same _
    | _ => exact .same _

theorem Lim.callV (L : Lim R Rs) (g : AV) (args : List AV) (S : St) : To (callV c R g args S) fun m => callV c (Rs m) g args S := by
  unfold Am.callV
  cases g with
  | fn f a b => exact L.callF _ _ _
  | yield l => exact L.yieldS _ _ _
  | _ => exact .same _

theorem Lim.aeff (L : Lim R Rs) (fid rid : Nat) (tm : List AV) (o : Oper) (S : St) : To (aeff c R fid rid tm o S) fun m => aeff c (Rs m) fid rid tm o S := by
  unfold Am.aeff
  cases o.op with
  | call k =>
    obtain ⟨callee, args, argTypes⟩ := k
    cases callee with
    | value f => exact .bind (.same _) fun g => .bind (.same _) fun a => L.callV _ _ _
    | builtin b => cases b <;> exact .same _
    | _ => exact .same _
  | slice t x lo hi mx => cases mx <;> exact .same _
  | makeMap t r => cases r <;> exact .same _
  | _ => exact .same _

theorem Lim.aop (L : Lim R Rs) (fid rid : Nat) (tm : List AV) (o : Oper) (S : St) : To (aop c R fid rid tm o S) fun m => aop c (Rs m) fid rid tm o S := by
  unfold Am.aop
  cases aval c tm o S with
  | some v => exact .same _
  | none => exact L.aeff _ _ _ _ _

theorem Lim.calm (L : Lim R Rs) (tm : List AV) (o : Oper) : To (calm c R tm o) fun m => calm c (Rs m) tm o := by
  unfold Am.calm
  cases o.op with
  | call k =>
    obtain ⟨callee, args, argTypes⟩ := k
    cases callee with
    | value f =>
      cases f with
      | func f =>
        simp only
        cases c.ext f with
        | some F => cases F <;> exact .same _
        | none =>
          simp only
          cases c.mode f with
          | pure => exact .bind (.same _) fun a => .bind (.same _) fun q => .ite (.bind (L.call _ _ _) fun r => .same _) (.same _)
          | _ => exact .same _
      | _ => exact .same _
    | _ => exact .same _
  | _ => exact .same _

theorem Lim.opD (L : Lim R Rs) (fid rid : Nat) (tm : List AV) (o : Oper) (S : St) : To (opD c R fid rid tm o S) fun m => opD c (Rs m) fid rid tm o S := by
  unfold Am.opD
  cases aval c tm o S with
  | some v => exact .same _
  | none => exact .ite (.map (L.calm _ _)) (.map (L.aeff _ _ _ _ _))

theorem Lim.runOps (L : Lim R Rs) (fid rid : Nat) (ops : Array Oper) : ∀ (l : List Oper) (tm : List AV) (S : St), To (runOps c R fid rid ops l tm S) fun m => runOps c (Rs m) fid rid ops l tm S
  | [], tm, S => by simp only [Am.runOps]; exact .same _
  | o :: l, tm, S => by
    simp only [Am.runOps]
    exact .ite (.bind (L.aop _ _ _ _ _) fun r => L.runOps _ _ _ _ _ _) (L.runOps _ _ _ _ _ _)

theorem Lim.runOpsD (L : Lim R Rs) (fid rid : Nat) (ops : Array Oper) : ∀ (l : List Oper) (tm : List AV) (S : St), To (runOpsD c R fid rid ops l tm S) fun m => runOpsD c (Rs m) fid rid ops l tm S
  | [], tm, S => by simp only [Am.runOpsD]; exact .same _
  | o :: l, tm, S => by
    simp only [Am.runOpsD]
    exact .ite (.bind (L.opD _ _ _ _ _) fun r => .map (L.runOpsD _ _ _ _ _ _)) (.map (L.runOpsD _ _ _ _ _ _))

theorem Lim.aregion (L : Lim R Rs) (fid rid : Nat) (ops : Array Oper) (draw : Bool) (tm : List AV) (S : St) : To (aregion c R fid rid ops draw tm S) fun m => aregion c (Rs m) fid rid ops draw tm S := by
  unfold Am.aregion
  exact .ite (.ite (.bind (L.runOpsD _ _ _ _ _ _) fun q => .same _) (.same _)) (L.runOps _ _ _ _ _ _)

theorem Lim.execS (L : Lim R Rs) : ∀ (code : Code) (fr : Fr) (S : St), To (execS c R code fr S) fun m => execS c (Rs m) code fr S
  | .region id ops draw, fr, S => by simp only [Am.execS]; exact .map (L.aregion _ _ _ _ _ _)
  | .seq a b, fr, S => by
    simp only [Am.execS]
    exact .bind (L.execS a _ _) fun r => .ite (L.execS b _ _) (.same _)
  | .cond x a b, fr, S => by
    simp only [Am.execS]
    cases evalT fr.tmps x with
    | none => exact .same _
    | some v =>
      cases v with
      | bool t => cases t with
        | true => exact L.execS a _ _
        | false => exact L.execS b _ _
      | _ => exact .same _
  | .block id b, fr, S => by simp only [Am.execS]; exact .map (L.execS b _ _)
  | .loop b, fr, S => by
    simp only [Am.execS]
    exact .bind (L.execS b _ _) fun r => .ite (L.code _ _ _) (.same _)
  | .rangeFunc g ps asg body, fr, S => by
    simp only [Am.execS]
    refine .bind (.same _) fun q => ?_
    cases evalT fr.tmps g with
    | none => exact .same _
    | some v =>
      cases v with
      | fn f a b => exact .bind (L.call _ _ _) fun r => .same _
      | _ => exact .same _
  | .skip, fr, S => .same _
  | .label _, fr, S => .same _
  | .exit _, fr, S => .same _
  | .goto _, fr, S => .same _
  | .ret, fr, S => .same _
  | .refuse _, fr, S => .same _
  | .scope _, fr, S => .same _

theorem Lim.callS (L : Lim R Rs) (f : FuncId) (args : List AV) (S : St) : To (callS c R f args S) fun m => callS c (Rs m) f args S := by
  unfold Am.callS
  exact .bind (.same _) fun fn => .bind (.same _) fun b => .bind (L.code _ _ _) fun r => .same _

/-! ### More fuel, the same -/
theorem run_le (c : Cfg) : ∀ n, Lim (run c n) fun _ => run c (n + 1)
  | 0 => ⟨fun _ _ _ _ h => by simp [run] at h, fun _ _ _ _ h => by simp [run] at h⟩
  | n + 1 => ⟨fun code fr S => (run_le c n).execS code fr S, fun f args S => (run_le c n).callS f args S⟩

theorem run_code_le {n m : Nat} (h : n ≤ m) {code : Code} {fr : Fr} {S : St} {r : Ex × Fr × St} (k : (run c n).code code fr S = some r) : (run c m).code code fr S = some r := by
  induction h with
  | refl => exact k
  | step h ih =>
    obtain ⟨j, hj⟩ := (run_le c _).code _ _ _ _ ih
    exact hj j (Nat.le_refl _)
theorem run_call_le {n m : Nat} (h : n ≤ m) {f : FuncId} {args : List AV} {S : St} {r : AV × St} (k : (run c n).call f args S = some r) : (run c m).call f args S = some r := by
  induction h with
  | refl => exact k
  | step h ih =>
    obtain ⟨j, hj⟩ := (run_le c _).call _ _ _ _ ih
    exact hj j (Nat.le_refl _)

open Classical in
/-- What comes of some fuel. -/
noncomputable def lim (c : Cfg) : Rec where
  code code fr S := if h : ∃ n r, (run c n).code code fr S = some r then some h.choose_spec.choose else none
  call f args S := if h : ∃ n r, (run c n).call f args S = some r then some h.choose_spec.choose else none

theorem lim_code {code : Code} {fr : Fr} {S : St} {r : Ex × Fr × St} : (lim c).code code fr S = some r ↔ ∃ n, (run c n).code code fr S = some r := by
  unfold lim
  simp only
  constructor
  · intro h
    split at h
    · rename_i hx
      simp only [Option.some.injEq] at h
      subst h
      exact ⟨_, hx.choose_spec.choose_spec⟩
    · simp at h
  · rintro ⟨n, h⟩
    have hx : ∃ n r, (run c n).code code fr S = some r := ⟨n, r, h⟩
    rw [dif_pos hx]
    have k := hx.choose_spec.choose_spec
    have h1 := run_code_le (Nat.le_max_left n hx.choose) h
    have h2 := run_code_le (Nat.le_max_right n hx.choose) k
    rw [h1] at h2
    exact h2.symm
theorem lim_call {f : FuncId} {args : List AV} {S : St} {r : AV × St} : (lim c).call f args S = some r ↔ ∃ n, (run c n).call f args S = some r := by
  unfold lim
  simp only
  constructor
  · intro h
    split at h
    · rename_i hx
      simp only [Option.some.injEq] at h
      subst h
      exact ⟨_, hx.choose_spec.choose_spec⟩
    · simp at h
  · rintro ⟨n, h⟩
    have hx : ∃ n r, (run c n).call f args S = some r := ⟨n, r, h⟩
    rw [dif_pos hx]
    have k := hx.choose_spec.choose_spec
    have h1 := run_call_le (Nat.le_max_left n hx.choose) h
    have h2 := run_call_le (Nat.le_max_right n hx.choose) k
    rw [h1] at h2
    exact h2.symm

theorem lim_lim (c : Cfg) : Lim (lim c) (run c) :=
  ⟨fun code fr S r h => let ⟨n, hn⟩ := lim_code.1 h; ⟨n, fun m hm => run_code_le hm hn⟩, fun f args S r h => let ⟨n, hn⟩ := lim_call.1 h; ⟨n, fun m hm => run_call_le hm hn⟩⟩

theorem lim_ge (c : Cfg) (n : Nat) : Lim (run c n) fun _ => lim c :=
  ⟨fun code fr S r h => ⟨0, fun _ _ => lim_code.2 ⟨n, h⟩⟩, fun f args S r h => ⟨0, fun _ _ => lim_call.2 ⟨n, h⟩⟩⟩

/-- The machine without fuel: what a function comes to is what its body comes to. -/
theorem lim_call_eq (c : Cfg) (f : FuncId) (args : List AV) (S : St) : (lim c).call f args S = callS c (lim c) f args S := by
  apply Option.ext
  intro r
  constructor
  · intro h
    obtain ⟨n, hn⟩ := lim_call.1 h
    cases n with
    | zero => simp [run] at hn
    | succ n =>
      obtain ⟨_, k⟩ := (lim_ge c n).callS f args S r hn
      exact k _ (Nat.le_refl _)
  · intro h
    obtain ⟨n, k⟩ := (lim_lim c).callS f args S r h
    exact lim_call.2 ⟨n + 1, k n (Nat.le_refl _)⟩
theorem lim_code_eq (c : Cfg) (code : Code) (fr : Fr) (S : St) : (lim c).code code fr S = execS c (lim c) code fr S := by
  apply Option.ext
  intro r
  constructor
  · intro h
    obtain ⟨n, hn⟩ := lim_code.1 h
    cases n with
    | zero => simp [run] at hn
    | succ n =>
      obtain ⟨_, k⟩ := (lim_ge c n).execS code fr S r hn
      exact k _ (Nat.le_refl _)
  · intro h
    obtain ⟨n, k⟩ := (lim_lim c).execS code fr S r h
    exact lim_code.2 ⟨n + 1, k n (Nat.le_refl _)⟩

theorem lim_of_run {n : Nat} {f : FuncId} {args : List AV} {S : St} {r : AV × St} (h : (run c n).call f args S = some r) : (lim c).call f args S = some r := lim_call.2 ⟨n, h⟩

theorem lim_sound [Pin] {P : Program} (hc : CfgOk P c) {f : FuncId} {args : List AV} {S S' : St} {r : AV} (h : (lim c).call f args S = some (r, S')) : CallOk P f args S r S' :=
  let ⟨n, hn⟩ := lim_call.1 h
  (run_sound hc n).call _ _ _ _ _ hn

end Go.Am

