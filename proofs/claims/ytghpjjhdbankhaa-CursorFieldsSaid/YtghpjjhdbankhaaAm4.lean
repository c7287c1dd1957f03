/- THE ABSTRACT MACHINE, FIFTH FILE: operations that yield a value: what the model does there. -/
import Derived.Test.YtghpjjhdbankhaaAm3
import Derived.Laws.Entries
set_option linter.unusedSimpArgs false
set_option linter.unusedVariables false
namespace Go.Am
open Go.RowKit

variable {P : Program} {c : Cfg}

/-- A struct type whose values are compared leaf by leaf. -/
def EqOk (P : Program) (t : TypeId) (xs : List AV) : Prop :=
  P.eqGuardType P.depth t = false ∧
  (∀ (G : Gh) (w : World) (ys : List AV) (vs us : Array Value) (b : Bool), leavesEq xs ys = some b → RepL G w xs vs.toList → RepL G w ys us.toList → (Op.equal t (.agg vs) (.agg us)).run P w = .ok b w) ∧
  (∀ (G : Gh) (w : World) (vs : Array Value) (e : Bool), (∃ b, leavesEq xs xs = some b) → RepL G w xs vs.toList → (Instr.checkKey e 10000 t (.agg vs)).run P w = .ok () w)

/-- What a function that is taken as given does. -/
def ExtOk (P : Program) (f : FuncId) (F : XT) : Prop :=
  ∀ (G : Gh) (S S' : St) (w : World) (args : List AV) (vs : Array Value) (r : AV), F.run args S = some (r, S') → Wrel G S w → RepL G w args vs.toList →
    (callFunc f vs).run P w = .ok (.enter f vs) w ∧
    Calls P f vs w fun e w' => ∃ G' u, e = .returned u ∧ Wrel G' S' w' ∧ Step G S w G' S' w' ∧ Rep G' w' r u

structure CfgOk (P : Program) (c : Cfg) : Prop where
  ty : ∀ t i, c.ty t = some i → tyOf P t = some i
  fn : ∀ f g, c.fn f = some g → P.funcs[f]? = some g ∧ (g.name == "runtime.NumGoroutine") = false
  mixed : P.follows .mixedOrders = true
  eqt : ∀ t xs, c.eqt t = true → fitsT c t xs = true → EqOk P t xs
  ext : ∀ f F, c.ext f = some F → ExtOk P f F

theorem ty_inv {t : TypeId} {i : Ty} (h : tyOf P t = some i) : ∃ (info : TypeInfo) (d : TypeDesc), P.info? t = some info ∧ P.underlying t = some d ∧ i.kind = tkOf d ∧ i.size = info.size ∧ i.bytes = info.bytes ∧
    i.zero = info.zero.bind fun z => zeroC (isAggK (tkOf d)) z := by
  unfold tyOf at h
  split at h
  · rename_i info d h1 h2
    simp at h
    subst h
    exact ⟨info, d, h1, h2, rfl, rfl, rfl, rfl⟩
  · simp at h

theorem constV_rep {G : Gh} {w : World} {v : Value} {x : AV} (h : constV v = some x) : Rep G w x v ∧ leaf x = true := by
  unfold constV at h
  split at h <;> simp at h <;> subst h <;> refine ⟨?_, rfl⟩
  · exact .int _ _
  · exact .bool _
  · rename_i s
    have : Rep G w (.str s.data.toList) (.string ⟨s.data.toList.toArray⟩) := .str _
    simpa using this
  · exact .nilp
  · exact .nils
  · exact .nilm
  · exact .nilf
  · exact .nili

theorem constL_rep {G : Gh} {w : World} : ∀ {vs : List Value} {xs : List AV}, constL vs = some xs → RepL G w xs vs ∧ ∀ (j : Nat) (x : AV), xs[j]? = some x → leaf x = true
  | [], xs, h => by
    simp [constL] at h
    subst h
    exact ⟨RepL.nil _ _, fun j x hx => by simp at hx⟩
  | v :: vs, xs, h => by
    simp only [constL, Option.bind_eq_some_iff, Option.map_eq_some_iff] at h
    obtain ⟨a, ha, b, hb, rfl⟩ := h
    obtain ⟨h1, h2⟩ := constV_rep (G := G) (w := w) ha
    obtain ⟨h3, h4⟩ := constL_rep (G := G) (w := w) hb
    refine ⟨RepL.cons h1 h3, fun j x hx => ?_⟩
    cases j with
    | zero => simp at hx; subst hx; exact h2
    | succ j => simp at hx; exact h4 j x hx

theorem zeroC_rep {G : Gh} {w : World} {a : Bool} {z : Value} {xs : List AV} (h : zeroC a z = some xs) : RepL G w xs z.cells.toList ∧ (∀ (j : Nat) (x : AV), xs[j]? = some x → leaf x = true) ∧
    (a = true → ∃ cs, z = .agg cs) ∧ (a = false → ∃ x, xs = [x] ∧ Rep G w x z) := by
  unfold zeroC at h
  split at h
  · rename_i cs
    split at h
    · rename_i ha
      obtain ⟨h1, h2⟩ := constL_rep (G := G) (w := w) h
      exact ⟨h1, h2, fun _ => ⟨cs, rfl⟩, fun e => by rw [ha] at e; cases e⟩
    · simp at h
  · rename_i hn
    split at h
    · simp at h
    · rename_i ha
      simp only [Option.map_eq_some_iff] at h
      obtain ⟨x, hx, rfl⟩ := h
      obtain ⟨h1, h2⟩ := constV_rep (G := G) (w := w) hx
      have hv : z.cells = #[z] := by cases z <;> first | rfl | exact (hn _ rfl).elim
      rw [hv]
      refine ⟨RepL.cons h1 (RepL.nil _ _), fun j y hy => ?_, fun e => absurd e ha, fun _ => ⟨x, rfl, h1⟩⟩
      cases j with
      | zero => simp at hy; subst hy; exact h2
      | succ j => simp at hy

theorem constC_rep {G : Gh} {w : World} {v : Value} {x : AV} (h : constC v = some x) : Rep G w x v := by
  unfold constC at h
  split at h
  · simp only [Option.map_eq_some_iff] at h
    obtain ⟨l, hl, rfl⟩ := h
    obtain ⟨h1, h2⟩ := constL_rep (G := G) (w := w) hl
    exact rep_agg.2 ⟨h1, h2⟩
  · simp at h; subst h; exact .undef
  · exact (constV_rep h).1

theorem evalT_rep {G : Gh} {w : World} {tm : List AV} {a : Act} {x : Operand} {v : AV} (ht : RepL G w tm a.tmps.toList) (h : evalT tm x = some v) : Rep G w v (a.eval x) := by
  cases x with
  | tmp t =>
    simp [evalT] at h
    subst h
    have := ht.getD t
    simpa [Act.eval, Array.getD_eq_getD_getElem?, List.getD] using this
  | const u => exact constC_rep h
  | global g => simp [evalT] at h
  | func f =>
    simp [evalT] at h
    subst h
    exact rep_fn (RepL.nil _ _) (RepL.nil _ _)

theorem evalL_rep {G : Gh} {w : World} {tm : List AV} {a : Act} (ht : RepL G w tm a.tmps.toList) : ∀ {xs : List Operand} {vs : List AV}, evalL tm xs = some vs → RepL G w vs (xs.map a.eval)
  | [], vs, h => by simp [evalL] at h; subst h; exact RepL.nil _ _
  | x :: xs, vs, h => by
    simp only [evalL, Option.bind_eq_some_iff, Option.map_eq_some_iff] at h
    obtain ⟨y, hy, ys, hys, rfl⟩ := h
    exact RepL.cons (evalT_rep ht hy) (evalL_rep ht hys)

/-! ### What an operation comes to -/
/-- The operation yields (or skips); what it yields, and what it leaves, are the abstract machine's. -/
def Comes1 (P : Program) (s : Sem Next) (G : Gh) (S : St) (w : World) (v : AV) (S' : St) : Prop :=
  ∃ nx u w' G', s.run P w = .ok nx w' ∧ (nx = .value u ∨ (nx = .skip ∧ u = undef)) ∧ Wrel G' S' w' ∧ Step G S w G' S' w' ∧ Rep G' w' v u

theorem comes_value {s : Sem Value} {G : Gh} {S : St} {w : World} {v : AV} {u : Value} (hW : Wrel G S w) (hs : s.run P w = .ok u w) (hr : Rep G w v u) : Comes1 P (do pure (.value (← s))) G S w v S :=
  ⟨.value u, u, w, G, by simp [Sem.run_bind, hs], .inl rfl, hW, .refl G S w, hr⟩

theorem comes_value' {s : Sem Value} {G G' : Gh} {S S' : St} {w w' : World} {v : AV} {u : Value} (hs : s.run P w = .ok u w') (hW : Wrel G' S' w') (hst : Step G S w G' S' w') (hr : Rep G' w' v u) : Comes1 P (do pure (.value (← s))) G S w v S' :=
  ⟨.value u, u, w', G', by simp [Sem.run_bind, hs], .inl rfl, hW, hst, hr⟩

theorem comes_unit {s : Sem Unit} {G G' : Gh} {S S' : St} {w w' : World} (hs : s.run P w = .ok () w') (hW : Wrel G' S' w') (hst : Step G S w G' S' w') : Comes1 P (do s; pure .skip) G S w .undef S' :=
  ⟨.skip, undef, w', G', by simp [Sem.run_bind, hs], .inr ⟨rfl, rfl⟩, hW, hst, .undef⟩

theorem run_underlying_ty {t : TypeId} {d : TypeDesc} (h : P.underlying t = some d) (w : World) : (underlying t).run P w = .ok d w := run_underlying h w
theorem run_info_ty {t : TypeId} {i : TypeInfo} (h : P.info? t = some i) (w : World) : (typeInfo t).run P w = .ok i w := by simp [typeInfo, Sem.run_bind, h]
theorem run_size_ty {t : TypeId} {i : TypeInfo} (h : P.info? t = some i) (w : World) : (sizeOf t).run P w = .ok i.size w := by simp [sizeOf, Sem.run_bind, run_info_ty h]
theorem run_zero_ty {t : TypeId} {i : TypeInfo} {z : Value} (h : P.info? t = some i) (hz : i.zero = some z) (w : World) : (zeroValue t).run P w = .ok z w := by simp [zeroValue, Sem.run_bind, run_info_ty h, hz]
theorem run_isAgg_ty {t : TypeId} {d : TypeDesc} (h : P.underlying t = some d) (w : World) : (isAgg t).run P w = .ok (isAggK (tkOf d)) w := by
  simp only [isAgg, Sem.run_bind, run_underlying h w, Result.andThen_ok]
  cases d <;> rfl

/-- Part of some cells. -/
theorem run_part {t : TypeId} {i : Ty} (hi : tyOf P t = some i) {cs : List AV} {vs : Array Value} {off : Nat} {x : AV} {G : Gh} {w : World} (hx : apart i cs off = some x)
    (hr : RepL G w cs vs.toList) (hl : ∀ (j : Nat) (y : AV), cs[j]? = some y → leaf y = true) : ∃ u, (part t vs off).run P w = .ok u w ∧ Rep G w x u := by
  obtain ⟨info, d, h1, h2, h3, h4, _, _⟩ := ty_inv hi
  unfold apart at hx
  unfold part
  simp only [Sem.run_bind, run_isAgg_ty h2, Result.andThen_ok]
  rw [h3] at hx
  split at hx
  · rename_i ha
    rw [if_pos ha]
    split at hx
    · rename_i hle
      simp at hx
      subst hx
      refine ⟨.agg (vs.extract off (off + info.size)), by simp [Sem.run_bind, run_size_ty h1], rep_agg.2 ⟨?_, fun j y hy => ?_⟩⟩
      · have : (vs.extract off (off + info.size)).toList = (vs.toList.drop off).take i.size := by
          rw [Array.toList_extract, h4]
          simp
        rw [this]
        exact (hr.drop off).take i.size
      · rw [List.getElem?_take] at hy
        split at hy
        · rw [List.getElem?_drop] at hy; exact hl _ y hy
        · simp at hy
    · simp at hx
  · rename_i ha
    rw [if_neg ha]
    obtain ⟨u, hu, hru⟩ := hr.get hx
    refine ⟨u, ?_, hru⟩
    have hu' : vs[off]? = some u := by simpa using hu
    simp [hu']

end Go.Am
