/- THE ABSTRACT MACHINE, THIRTY-FIRST FILE: regions whose order is open are sound. -/
import Derived.Test.YtghpjjhdbankhaaAm29
set_option linter.unusedSimpArgs false
set_option linter.unusedVariables false
namespace Go.Am
open Go.RowKit
variable {P : Program} {c : Cfg} {R : Rec} {fid rid : Nat} {ops : Array Oper} {tm tm' : List AV} {S S' : St} {fs : List Foot} {tms : Nat → List AV} {Ss : Nat → St} {vs : Nat → AV} {ft : Nat → Foot}

theorem awanted_same {tm1 tm2 : List AV} {o : Oper} (h : ∀ t ∈ looks ops o, tm1.getD t .undef = tm2.getD t .undef) : awanted ops tm1 o = awanted ops tm2 o := by
  unfold awanted
  unfold looks at h
  cases hg : o.guard with
  | none => rfl
  | some q =>
    obtain ⟨j, want⟩ := q
    simp only [hg] at h ⊢
    unfold ayielded
    cases hd : (ops[j]?).bind (·.dst) with
    | none => rfl
    | some d =>
      have := h d (by rw [List.mem_append]; right; simp [hd])
      simp only [this]

theorem putT_getD {tm : List AV} {d : Option Tmp} {v : AV} {t : Tmp} (h : d ≠ some t) : (putT tm d v).getD t .undef = tm.getD t .undef := by
  cases d with
  | none => rfl
  | some d =>
    have hne : d ≠ t := fun e => h (by rw [e])
    simp [putT, List.getD, List.getElem?_set_ne hne]

theorem putT_length {tm : List AV} {d : Option Tmp} {v : AV} : (putT tm d v).length = tm.length := by cases d <;> simp [putT]

theorem putT_hit {tm1 tm2 : List AV} {d : Tmp} {v : AV} (h : tm1.length = tm2.length) : (putT tm1 (some d) v).getD d .undef = (putT tm2 (some d) v).getD d .undef := by
  simp only [putT, List.getD, List.getElem?_set, if_pos, h]

theorem trace_len (hL : RecLen R) (t : Trace c R fid rid ops ops.toList tm S tm' S' fs tms Ss vs ft) (hS : S.h.length = S.n) : ∀ i, i ≤ ops.size → (Ss i).h.length = (Ss i).n ∧ (Ss i).base = S.base ∧ (tms i).length = tm.length
  | 0, _ => by rw [t.S0, t.tm0]; exact ⟨hS, rfl, rfl⟩
  | i + 1, hi => by
    obtain ⟨h1, h2, h3⟩ := trace_len hL t hS i (by omega)
    have ho : ops.toList[i]? = some ops[i] := by simp
    obtain ⟨k1, k2⟩ := t.step i _ ho
    rw [k1, putT_length]
    rcases k2 with ⟨_, k2⟩ | ⟨_, _, k2, _⟩
    · have := Keeps.opD hL k2 h1
      exact ⟨this.1, this.2.trans h2, h3⟩
    · rw [k2]; exact ⟨h1, h2, h3⟩

theorem trace_alike (hL : RecLen R) (t : Trace c R fid rid ops ops.toList tm S tm' S' fs tms Ss vs ft) (hS : S.h.length = S.n) {i : Nat} (hi : i < ops.size) : Alike (ft i) (Ss i) (Ss (i + 1)) (Ss i) (Ss (i + 1)) := by
  obtain ⟨h1, h2, h3⟩ := trace_len hL t hS i (by omega)
  have ho : ops.toList[i]? = some ops[i] := by simp
  rcases (t.step i _ ho).2 with ⟨_, k2⟩ | ⟨_, _, k2, k3⟩
  · obtain ⟨C1, q1, q2⟩ := opD_local hL k2 ⟨h1, h1, rfl, fun _ _ => rfl, fun _ _ => rfl, fun _ => rfl⟩
    rw [k2] at q1
    simp only [Option.some.injEq, Prod.mk.injEq] at q1
    obtain ⟨_, rfl, _⟩ := q1
    exact q2
  · rw [k2, k3]
    exact Alike.same h1 h1 (fun _ _ => rfl) fun _ => rfl

end Go.Am
