/- THE ABSTRACT MACHINE, TWENTY-NINTH FILE: regions whose order is open. -/
import Derived.Test.YtghpjjhdbankhaaAm27
set_option linter.unusedSimpArgs false
set_option linter.unusedVariables false
namespace Go.Am
open Go.RowKit
variable {P : Program} {c : Cfg}

/-- The run in the order of the text, step by step. -/
structure Trace (c : Cfg) (R : Rec) (fid rid : Nat) (ops : Array Oper) (l : List Oper) (tm : List AV) (S : St) (tm' : List AV) (S' : St) (fs : List Foot) (tms : Nat → List AV) (Ss : Nat → St) (vs : Nat → AV) (ft : Nat → Foot) : Prop where
  tm0 : tms 0 = tm
  S0 : Ss 0 = S
  tmn : tms l.length = tm'
  Sn : Ss l.length = S'
  feet : ∀ i, i < l.length → fs[i]? = some (ft i)
  step : ∀ i o, l[i]? = some o → tms (i + 1) = putT (tms i) o.dst (vs i) ∧
    ((awanted ops (tms i) o = true ∧ opD c R fid rid (tms i) o (Ss i) = some (vs i, Ss (i + 1), ft i)) ∨ (awanted ops (tms i) o = false ∧ vs i = .undef ∧ Ss (i + 1) = Ss i ∧ ft i = .none))

def shift {α : Type} (a : α) (f : Nat → α) : Nat → α
  | 0 => a
  | i + 1 => f i

theorem trace_of {R : Rec} {fid rid : Nat} {ops : Array Oper} : ∀ {l : List Oper} {tm tm' : List AV} {S S' : St} {fs : List Foot}, runOpsD c R fid rid ops l tm S = some (tm', S', fs) → ∃ tms Ss vs ft, Trace c R fid rid ops l tm S tm' S' fs tms Ss vs ft
  | [], tm, tm', S, S', fs, h => by
    simp only [runOpsD, Option.some.injEq, Prod.mk.injEq] at h
    obtain ⟨rfl, rfl, rfl⟩ := h
    exact ⟨fun _ => tm, fun _ => S, fun _ => .undef, fun _ => .none, rfl, rfl, rfl, rfl, fun i hi => by simp at hi, fun i o hi => by simp at hi⟩
  | o :: l, tm, tm', S, S', fs, h => by
    rw [runOpsD] at h
    split at h
    · rename_i hw
      simp only [Option.bind_eq_some_iff, Option.map_eq_some_iff, Prod.mk.injEq] at h
      obtain ⟨⟨v, S1, f⟩, h1, ⟨tm2, S2, fs2⟩, h2, rfl, rfl, rfl⟩ := h
      obtain ⟨tms, Ss, vs, ft, t⟩ := trace_of h2
      refine ⟨shift tm tms, shift S Ss, shift v vs, shift f ft, rfl, rfl, t.tmn, t.Sn, fun i hi => ?_, fun i o' hi => ?_⟩
      · cases i with
        | zero => rfl
        | succ i => simpa [shift] using t.feet i (by simpa using hi)
      · cases i with
        | zero =>
          simp at hi
          subst hi
          refine ⟨by simp only [shift, t.tm0], .inl ⟨hw, ?_⟩⟩
          simp only [shift, t.S0]
          exact h1
        | succ i => exact t.step i o' (by simpa using hi)
    · rename_i hw
      simp only [Option.map_eq_some_iff, Prod.mk.injEq] at h
      obtain ⟨⟨tm2, S2, fs2⟩, h2, rfl, rfl, rfl⟩ := h
      obtain ⟨tms, Ss, vs, ft, t⟩ := trace_of h2
      refine ⟨shift tm tms, shift S Ss, shift .undef vs, shift .none ft, rfl, rfl, t.tmn, t.Sn, fun i hi => ?_, fun i o' hi => ?_⟩
      · cases i with
        | zero => rfl
        | succ i => simpa [shift] using t.feet i (by simpa using hi)
      · cases i with
        | zero =>
          simp at hi
          subst hi
          exact ⟨by simp only [shift, t.tm0], .inr ⟨by simpa [shift] using hw, rfl, by simp only [shift, t.S0], rfl⟩⟩
        | succ i => exact t.step i o' (by simpa using hi)

/-! ### The order -/
def Less (ops : Array Oper) (i j : Nat) : Prop := i ∈ (ahead ops).getD j []

/-- A set of operations of which each has those ahead of it. -/
theorem less_closed {ops : Array Oper} {L : Nat → Prop} (h : ∀ j o, ops[j]? = some o → L j → ∀ e ∈ edgesAny o, L e) : ∀ i j, Less ops i j → L j → L i := fun i j hij hj =>
  ancs_inv (acc := []) (fun k i hi => by simp at hi) (fun k o ho hk => h k o (by simpa using ho) (by simpa using hk)) j i hij hj

theorem mem_edgesAny {o : Oper} {e : Nat} : e ∈ edgesAny o ↔ ∃ d ∈ o.after, Region.binds .any d = true ∧ d.on = e := by
  simp only [edgesAny, List.mem_map, List.mem_filter, Array.mem_toList_iff, and_assoc]

structure DrawFacts (ops : Array Oper) : Prop where
  edges : ∀ j o, ops[j]? = some o → ∀ e ∈ edgesAny o, e < j
  temps : ∀ i j x y, i < j → ops[i]? = some x → ops[j]? = some y → Less ops i j ∨ tempsApart ops x y = true

theorem drawFacts {ops : Array Oper} (h : drawOk ops = true) : DrawFacts ops := by
  simp only [drawOk, Bool.and_eq_true, List.all_eq_true, List.mem_range, Bool.or_eq_true, decide_eq_true_eq, List.contains_iff_mem] at h
  obtain ⟨h1, h2⟩ := h
  refine ⟨fun j o ho e he => ?_, fun i j x y hij hi hj => ?_⟩
  · exact h1 (o, j) (by rw [List.mem_zipIdx_iff_getElem?]; simpa using ho) e he
  · have hjn := (Array.getElem?_eq_some_iff.1 hj).1
    have := h2 j hjn i hij
    rw [hi, hj] at this
    exact this

theorem feetFacts {ops : Array Oper} {fs : List Foot} (h : feetOk ops fs = true) : ∀ i j x y, i < j → j < ops.size → fs[i]? = some x → fs[j]? = some y → Less ops i j ∨ x.apart y = true := by
  simp only [feetOk, List.all_eq_true, List.mem_range, Bool.or_eq_true, List.contains_iff_mem] at h
  intro i j x y hij hjn hi hj
  have := h j hjn i hij
  rw [hi, hj] at this
  exact this

end Go.Am
