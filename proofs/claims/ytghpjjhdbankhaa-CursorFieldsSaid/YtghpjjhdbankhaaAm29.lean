/- THE ABSTRACT MACHINE, THIRTIETH FILE: regions whose order is open are sound. -/
import Derived.Test.YtghpjjhdbankhaaAm28
set_option linter.unusedSimpArgs false
set_option linter.unusedVariables false
namespace Go.Am
open Go.RowKit
variable {P : Program} {c : Cfg}

theorem countP_flip {n i : Nat} {p q : Nat → Bool} (hi : i < n) (hp : p i = true) (hq : q i = false) (h : ∀ j, j ≠ i → q j = p j) : (List.range n).countP q + 1 = (List.range n).countP p := by
  induction n with
  | zero => omega
  | succ n ih =>
    rw [List.range_succ, List.countP_append, List.countP_append]
    simp only [List.countP_cons, List.countP_nil]
    by_cases e : i = n
    · subst e
      have : (List.range i).countP q = (List.range i).countP p := List.countP_congr fun j hj => by
        rw [List.mem_range] at hj
        rw [h j (by omega)]
      rw [this, hp, hq]
      simp
    · have := ih (by omega)
      rw [h n (fun h => e h.symm)]
      omega

section draw
variable {R : Rec} {fid rid : Nat} {ops : Array Oper} {tm tm' : List AV} {S S' : St} {fs : List Foot} {tms : Nat → List AV} {Ss : Nat → St} {vs : Nat → AV} {ft : Nat → Foot}

def dstIs (ops : Array Oper) (i : Nat) (t : Tmp) : Prop := ∃ o, ops[i]? = some o ∧ o.dst = some t
def looksAt (ops : Array Oper) (i : Nat) (t : Tmp) : Prop := ∃ o, ops[i]? = some o ∧ (t ∈ looks ops o ∨ o.dst = some t)

theorem temps_ordered (hd : DrawFacts ops) : Ordered ops.size (dstIs ops) (looksAt ops) (Less ops) := by
  rintro i j t hi hj ⟨y, hy, hyt⟩ ⟨x, hx, hxt⟩
  constructor
  · intro hlt
    refine (hd.temps j i y x hlt hy hx).resolve_right fun ha => ?_
    simp only [tempsApart, hyt, Bool.and_eq_true, Bool.not_eq_true', List.contains_eq_mem, decide_eq_false_iff_not, beq_eq_false_iff_ne, ne_eq] at ha
    rcases hxt with h | h
    · exact ha.1.1 h
    · exact ha.1.2 h
  · intro hlt
    refine (hd.temps i j x y hlt hx hy).resolve_right fun ha => ?_
    simp only [tempsApart, hyt, Bool.and_eq_true, Bool.not_eq_true', List.contains_eq_mem, decide_eq_false_iff_not, beq_eq_false_iff_ne, ne_eq] at ha
    rcases hxt with h | h
    · exact ha.2 h
    · rw [h] at ha
      simp at ha

theorem ft_apart {a b : Ft} {o : Nat} (h : a.apart b = true) (ha : a.has o) (hb : b.has o) : False := by
  cases a with
  | all => cases b with
    | all => simp [Ft.apart] at h
    | ids l => cases l with
      | nil => simp [Ft.has] at hb
      | cons x l => simp [Ft.apart] at h
  | ids l => cases b with
    | all => cases l with
      | nil => simp [Ft.has] at ha
      | cons x l => simp [Ft.apart] at h
    | ids l' =>
      simp only [Ft.apart, List.all_eq_true, Bool.not_eq_true', List.contains_eq_mem, decide_eq_false_iff_not] at h
      exact h o ha hb

def footF (ft : Nat → Foot) (i o : Nat) : Prop := (ft i).F.has o
def footT (ft : Nat → Foot) (i o : Nat) : Prop := (ft i).T.has o
def footN (ft : Nat → Foot) (i : Nat) (_ : Unit) : Prop := (ft i).N = true

theorem wfoot_TF {tm : List AV} {o : Oper} {S : St} {x : Nat} : (wfoot c tm o S).T.has x → (wfoot c tm o S).F.has x := by
  unfold wfoot
  split
  · exact id
  · exact id
  · exact id
  · exact id
  · exact id
  · split
    · split
      all_goals first
        | exact id
        | (intro h; simp only [Ft.has, List.mem_singleton] at h ⊢; subst h; exact List.mem_cons_self ..)
    · exact id
  · exact id

theorem opD_TF {tm : List AV} {o : Oper} {S S1 : St} {v : AV} {f : Foot} (h : opD c R fid rid tm o S = some (v, S1, f)) {x : Nat} : f.T.has x → f.F.has x := by
  unfold opD at h
  split at h
  · simp only [Option.some.injEq, Prod.mk.injEq] at h
    obtain ⟨_, _, rfl⟩ := h
    intro h; simp [Ft.has] at h
  · split at h
    · simp only [Option.map_eq_some_iff, Prod.mk.injEq] at h
      obtain ⟨_, _, _, _, rfl⟩ := h
      intro h; simp [Ft.has, Foot.none] at h
    · simp only [Option.map_eq_some_iff, Prod.mk.injEq] at h
      obtain ⟨_, _, _, _, rfl⟩ := h
      exact wfoot_TF

theorem trace_TF (t : Trace c R fid rid ops ops.toList tm S tm' S' fs tms Ss vs ft) {i : Nat} (hi : i < ops.size) {x : Nat} (h : footT ft i x) : footF ft i x := by
  have ho : ops.toList[i]? = some ops[i] := by simp [hi]
  rcases (t.step i _ ho).2 with ⟨_, h1⟩ | ⟨_, _, _, h1⟩
  · exact opD_TF h1 h
  · unfold footT at h; rw [h1] at h; simp [Ft.has, Foot.none] at h

theorem feet_apart (t : Trace c R fid rid ops ops.toList tm S tm' S' fs tms Ss vs ft) (hf : feetOk ops fs = true) {i j : Nat} (hij : i < j) (hj : j < ops.size) : Less ops i j ∨ (ft i).apart (ft j) = true :=
  feetFacts hf i j _ _ hij hj (t.feet i (by simp; omega)) (t.feet j (by simpa using hj))

theorem objs_ordered (t : Trace c R fid rid ops ops.toList tm S tm' S' fs tms Ss vs ft) (hf : feetOk ops fs = true) : Ordered ops.size (footT ft) (footF ft) (Less ops) := by
  intro i j x hi hj hT hF
  constructor
  · intro hlt
    refine (feet_apart t hf hlt hi).resolve_right fun ha => ?_
    simp only [Foot.apart, Bool.and_eq_true] at ha
    exact ft_apart ha.1.2 hT hF
  · intro hlt
    refine (feet_apart t hf hlt hj).resolve_right fun ha => ?_
    simp only [Foot.apart, Bool.and_eq_true] at ha
    exact ft_apart ha.1.1 hT hF

theorem nums_ordered (t : Trace c R fid rid ops ops.toList tm S tm' S' fs tms Ss vs ft) (hf : feetOk ops fs = true) : Ordered ops.size (footN ft) (footN ft) (Less ops) := by
  intro i j x hi hj hT hF
  constructor
  · intro hlt
    refine (feet_apart t hf hlt hi).resolve_right fun ha => ?_
    simp only [Foot.apart, Bool.and_eq_true] at ha
    unfold footN at hT hF
    simp [hT, hF] at ha
  · intro hlt
    refine (feet_apart t hf hlt hj).resolve_right fun ha => ?_
    simp only [Foot.apart, Bool.and_eq_true] at ha
    unfold footN at hT hF
    simp [hT, hF] at ha

end draw

end Go.Am
