/- OTHER WAYS: PATHS THAT ARE WRITTEN TO. cursor.with taken as given. -/
import Derived.Test.YtghpjjhdbankhaaS3
set_option linter.unusedSimpArgs false
set_option linter.unusedVariables false
set_option maxRecDepth 20000
namespace Go.Am.B
open Go.Proofs Go.RowKit

def mode2 (f : FuncId) : CM := if [77, 86, 38, 41, 76, 79].contains f then .raw else if [52, 43].contains f then .temp else modeOf f
def muts2 (f : FuncId) (r : Nat) : Bool := (f == 77 && r == 3) || (f == 75 && r == 1) || (f == 79 && r == 4)
/-- Nothing is taken as given, but for 75's way. -/
def w2a : Ways := ⟨fun f => if f = 75 then .raw else mode2 f, fun _ => none, muts2, fun t => t == 29⟩
/-- What cursor.with makes of a row. -/
def withE (args : List AV) (n : Nat) : Option (AV × AObj) :=
  match args with
  | [.vec rows, .int .i64 k] => if headOk 1 rows = true ∧ rows.length ≤ 17592186044400 then
      some (.sref n (if rows.isEmpty then 0 else 1) 0 (rows.length + 1), .seq (if rows.isEmpty then 0 else 1) 1 (rows ++ [[.int .i64 k]]) 0) else none
  | _ => none
def awE (args : List AV) : Option AV := match args with | [] => some (.bool true) | _ => none
def ext2 (f : FuncId) : Option XT := if f = 77 then some (.push cloneE) else if f = 75 then some (.push withE) else if f = 27 then some (.val awE) else none
def w2 : Ways := ⟨mode2, ext2, muts2, fun t => t == 29⟩

theorem cfgOk2a : CfgOk Try.prog (cfg w2a) where
  ty := fun t i h => by rw [cfgP_ty] at h; exact h
  fn := fun f g h => cfgP_fn h
  mixed := by kernel_rfl
  eqt := fun t xs h hf => by
    have : t = 29 := by simpa [cfgP_eqt, w2a] using h
    subst this
    exact eq29 hf
  ext := fun f F h => by simp [cfgP_ext, w2a] at h

theorem opX_push {c : Cfg} {R : Rec} {f r : Nat} {tm : List AV} {d : Option Tmp} {ty : TypeId} {p : String} {a : Array Edge} {g : Option (Nat × Bool)} {S : St} {fn : FuncId} {x : Array Operand} {tt : Array TypeId} {F : List AV → Nat → Option (AV × AObj)} (he : c.ext fn = some (.push F)) :
    opX c R f r tm ⟨d, .call { callee := .value (.func fn), args := x, argTypes := tt }, ty, p, a, g⟩ S =
    (evalL tm x.toList).bind fun l => match F l S.n with
      | some q => some (q.1, S.push q.2, ⟨.ids [S.n], .ids [S.n], true⟩)
      | none => (callM c R fn l S).map fun z => (z.1, z.2, Foot.big) := by
  unfold opX
  have h1 : opQ c R tm ⟨d, .call { callee := .value (.func fn), args := x, argTypes := tt }, ty, p, a, g⟩ S = none := by
    unfold opQ
    rw [show aval c tm ⟨d, .call { callee := .value (.func fn), args := x, argTypes := tt }, ty, p, a, g⟩ S = none from rfl]
    simp [he]
  rw [h1]
  have hc : calmable c tm ⟨d, .call { callee := .value (.func fn), args := x, argTypes := tt }, ty, p, a, g⟩ = false := by simp [calmable, he]
  simp only [hc]
  rw [if_neg (by simp)]
  cases hl : evalL tm x.toList with
  | none => simp [aeff, evalT, hl]
  | some l =>
    cases hF : F l S.n with
    | none => simp [aeff, evalT, hl, callV, callF, he, XT.run, hF, wfoot, Foot.big]
    | some q => simp [aeff, evalT, hl, callV, callF, he, XT.run, hF, wfoot]

/-- What one machine tells of plain data may be taken as given in another. -/
theorem ext_val {c : Cfg} (hc : CfgOk Try.prog c) {f : FuncId} {F : List AV → Option AV} (h : ∀ a v, F a = some v → PC c f a v) : ExtOk Try.prog f (.val F) := by
  intro G S S' W args vs r hr hW hv
  simp only [XT.run, Option.map_eq_some_iff, Prod.mk.injEq] at hr
  obtain ⟨v, hF, rfl, rfl⟩ := hr
  exact callF_ok hc (fun f args S r S' h => lim_sound hc h) (h _ _ hF S) G W vs hW hv
/-- The ways of this text. -/
structure TwoA (w : Ways) : Prop where
  e : w = w2a
theorem TwoA.KF {w : Ways} (h : TwoA w) : (w.mode 75 = .raw ∧ w.mode 77 = .raw ∧ w.ext 75 = none ∧ w.ext 77 = none ∧ w.muts 77 3 = true ∧ w.muts 75 1 = true ∧ w.muts 79 4 = true) := by
  rw [h.e]; exact ⟨rfl, rfl, rfl, rfl, rfl, rfl, rfl⟩
end Go.Am.B
