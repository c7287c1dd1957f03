/- THE ABSTRACT MACHINE, THIRTY-EIGHTH FILE: ranges over functions. -/
import Derived.Test.YtghpjjhdbankhaaAm36
set_option linter.unusedSimpArgs false
set_option linter.unusedVariables false
namespace Go.Am
variable {c : Cfg}

/-- What a loop over a function is, but for how it stands. -/
structure Lp where
  fn : FuncId
  tm : List AV
  ps : List Tmp
  asg : Code
  body : Code
  d : Nat
def Lp.at (L : Lp) (st : LoopState) (e : Ex) : AObj := .loop st e L.fn L.tm L.ps L.asg L.body L.d

theorem W_range {x : Operand} {ps : Array Tmp} {asg body : Code} {tm : List AV} {mk : List Nat} {fn f : Nat} {first cap : List AV} {S : St} {Q : Ex → Fr → St → Prop} (hg : evalT tm x = some (.fn f first cap))
    (h : ∀ L : Lp, L = ⟨fn, tm, ps.toList, asg, body, S.n⟩ → CallQ c f (first ++ [.yield (S.n + 1)] ++ cap) ((S.push .dfr).push (L.at .ready .nrm))
      fun _ S' => ∃ st e, S'.get (S.n + 1) = some (L.at st e) ∧ st ≠ .busy ∧ S'.base ≤ S.n + 1 ∧ Q e ⟨tm, S.n :: mk, none, fn⟩ (S'.set (S.n + 1) (L.at .exhausted e))) :
    W c (.rangeFunc x ps asg body) ⟨tm, mk, none, fn⟩ S Q := by
  obtain ⟨v, S', h1, st, e, h2, h3, h4, h5⟩ := h _ rfl
  refine ⟨e, _, _, ?_, h5⟩
  have hg' : evalT (Fr.mk tm mk none fn).tmps x = some (.fn f first cap) := hg
  simp only [execS, rangeStart, Option.bind_some, hg']
  simp only [St.push_n]
  have h1' : (lim c).call f (first ++ [AV.yield (S.n + 1)] ++ cap) ((S.push .dfr).push (.loop .ready .nrm fn tm ps.toList asg body S.n)) = some (v, S') := h1
  rw [h1']
  simp only [Option.bind_some, rangeEnd, h2, Lp.at]
  rw [if_neg h3, St.putO_base h4]
  rfl

/-- A round: what the body leaves. -/
def YQ (l : Nat) (L : Lp) (K : AV → St → Prop) : Ex → Fr → St → Prop := fun e _ S => (∃ st e', S.get l = some (L.at st e')) ∧ S.base ≤ l ∧ K (.bool (decide (e = .nrm))) (S.set l (L.at (if e = .nrm then .ready else .done) e))

def YA (c : Cfg) (l : Nat) (L : Lp) (K : AV → St → Prop) : Ex → Fr → St → Prop := fun e fr S => e = .nrm ∧ ∃ p, S.get l = some (L.at .ready p) ∧ S.base ≤ l ∧ W c L.body fr (S.set l (L.at .busy p)) (YQ l L K)

theorem yield_of {l : Nat} {L : Lp} {p : Ex} {args : List AV} {S : St} {K : AV → St → Prop} (hg : S.get l = some (L.at .ready p)) (hl : args.length = L.ps.length)
    (h : W c L.asg ⟨(L.ps.zip args).foldl (fun t pa => tput t pa.1 pa.2) L.tm, [], some l, L.fn⟩ S (YA c l L K)) : ∃ v S', yieldS (lim c) l args S = some (v, S') ∧ K v S' := by
  obtain ⟨e1, fr1, S1, h1, rfl, p1, h2, h3, e2, fr2, S2, h4, ⟨st, e', h5⟩, h6, h7⟩ := h
  refine ⟨_, _, ?_, h7⟩
  unfold yieldS
  rw [hg]
  simp only [Lp.at]
  simp only [tput] at h1
  rw [if_pos hl, lim_code_eq, h1]
  simp only [Option.bind_some, if_true]
  rw [h2]
  simp only [Lp.at]
  rw [St.putO_base h3]
  simp only [Option.bind_some]
  simp only [Lp.at] at h4
  rw [lim_code_eq, h4]
  simp only [Option.bind_some]
  rw [h5]
  simp only [Lp.at]
  rw [St.putO_base h6]
  rfl

theorem St.set_push {S : St} {a x : AObj} {i : Nat} : (S.push a).set i x = if S.n ≤ i then S.push x else (S.set i x).push a := by
  unfold St.set St.push
  simp only
  split
  · rw [show S.n + 1 - 1 - i = 0 by omega]; rfl
  · rw [show S.n + 1 - 1 - i = (S.n - 1 - i) + 1 by omega]; rfl

theorem call_eq_of {f : FuncId} {args : List AV} {S S' : St} {v : AV} (h : CallQ c f args S fun r S2 => r = v ∧ S2 = S') : (lim c).call f args S = some (v, S') := by
  obtain ⟨r, S2, h1, rfl, rfl⟩ := h
  exact h1
theorem callF_raw {f : FuncId} {args : List AV} {S : St} (he : c.ext f = none) (hm : c.mode f = .raw) : callF c (lim c) f args S = (lim c).call f args S := by simp [callF, callM, he, hm]

/-- Deferred lists go when a function ends. -/
theorem AtEnd_one {rs : List ResultVar} {K : AV → St → Prop} {ex : Ex} {tm : List AV} {rd : Option Nat} {fn m : Nat} {S : St} (h : isRet ex = true) (hm : S.get m = some .dfr) (hb : S.base ≤ m) (k : RS (aresults c (S.set m .dead) tm rs) fun l => K (one l) (S.set m .dead)) :
    AtEnd c rs K ex ⟨tm, [m], rd, fn⟩ S :=
  let ⟨l, h1, h2⟩ := k
  ⟨h, S.set m .dead, l, by simp [unmark, hm, St.putO_base hb], h1, h2⟩
/-- Memory, of which nothing may be turned. -/
def St.reb (S : St) : St := { S with base := S.n }
theorem St.reb_get (S : St) (i : Nat) : S.reb.get i = S.get i := by cases S; rfl
theorem St.reb_n (S : St) : S.reb.n = S.n := by cases S; rfl
theorem St.reb_base (S : St) : S.reb.base = S.n := by cases S; rfl
theorem St.reb_ok {S : St} (h : S.ok) : S.reb.ok := h
theorem callF_temp {f : FuncId} {args : List AV} {S : St} {v : AV} (he : c.ext f = none) (hm : c.mode f = .temp) (h : CallQ c f args S.reb fun r S' => frz S' r = some (v, [])) : callF c (lim c) f args S = some (v, S) := by
  obtain ⟨r, S', h1, h2⟩ := h
  unfold St.reb at h1
  simp [callF, callM, he, hm, h1, h2, St.lockAll]
end Go.Am
