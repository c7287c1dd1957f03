/- THE ABSTRACT MACHINE, TENTH FILE: maps read; all operations that yield a value. -/
import Derived.Test.YtghpjjhdbankhaaAm8
set_option linter.unusedSimpArgs false
set_option linter.unusedVariables false
namespace Go.Am
open Go.RowKit
variable {P : Program} {c : Cfg}

theorem keyFits_inv (hc : CfgOk P c) {t : TypeId} {x : AV} (h : keyFits c t x = true) :
    (∃ k n, x = .int k n ∧ P.underlying t = some (.int k)) ∨ (∃ b, x = .bool b ∧ P.underlying t = some .bool) ∨ (∃ s, x = .str s ∧ P.underlying t = some .string) ∨
    (∃ xs fs b, x = .agg xs ∧ P.underlying t = some (.struct fs) ∧ EqOk P t xs ∧ leavesEq xs xs = some b) := by
  have kind : ∀ {k : TK}, ((c.ty t).map (·.kind) : Option TK) = some k → ∃ d, P.underlying t = some d ∧ tkOf d = k := by
    intro k hk
    simp only [Option.map_eq_some_iff] at hk
    obtain ⟨i, hi, hk⟩ := hk
    obtain ⟨_, d, _, h2, h3, _⟩ := ty_inv (hc.ty t i hi)
    exact ⟨d, h2, by rw [← h3]; exact hk⟩
  unfold keyFits at h
  split at h
  · rename_i k n
    split at h
    · rename_i k' hk
      obtain ⟨d, h2, h3⟩ := kind hk
      cases d <;> simp [tkOf] at h3
      simp at h
      exact .inl ⟨k, n, rfl, by rw [h2, h3, h]⟩
    · simp at h
  · split at h
    · rename_i hk
      obtain ⟨d, h2, h3⟩ := kind hk
      cases d <;> simp [tkOf] at h3
      exact .inr (.inl ⟨_, rfl, h2⟩)
    · simp at h
  · split at h
    · rename_i hk
      obtain ⟨d, h2, h3⟩ := kind hk
      cases d <;> simp [tkOf] at h3
      exact .inr (.inr (.inl ⟨_, rfl, h2⟩))
    · simp at h
  · split at h
    · rename_i fs hk
      obtain ⟨d, h2, h3⟩ := kind hk
      cases d <;> simp [tkOf] at h3
      simp at h
      obtain ⟨b, hb⟩ := Option.isSome_iff_exists.1 h.2
      exact .inr (.inr (.inr ⟨_, _, b, rfl, h2, hc.eqt t _ h.1.1 h.1.2, hb⟩))
    · simp at h
  · simp at h

theorem run_checkKey (hc : CfgOk P c) {G : Gh} {w : World} {t : TypeId} {x : AV} {u : Value} (h : keyFits c t x = true) (hx : Rep G w x u) (e : Bool) : (Instr.checkKey e 10000 t u).run P w = .ok () w := by
  rcases keyFits_inv hc h with ⟨k, n, rfl, h2⟩ | ⟨b, rfl, h2⟩ | ⟨s, rfl, h2⟩ | ⟨xs, fs, b, rfl, h2, heq, hb⟩
  · cases hx
    rw [show (10000 : Nat) = 9999 + 1 from rfl]
    generalize 9999 = dd
    simp [Instr.checkKey, Sem.run_bind, run_underlying h2]
  · cases hx
    rw [show (10000 : Nat) = 9999 + 1 from rfl]
    generalize 9999 = dd
    simp [Instr.checkKey, Sem.run_bind, run_underlying h2]
  · cases hx
    rw [show (10000 : Nat) = 9999 + 1 from rfl]
    generalize 9999 = dd
    simp [Instr.checkKey, Sem.run_bind, run_underlying h2]
  · obtain ⟨vs, rfl, h3, _⟩ := rep_agg_inv hx
    exact heq.2.2 G w vs e ⟨b, hb⟩ h3

/-- The entries of a map. -/
def RepE (G : Gh) (w : World) (es : List (AV × AV × Nat)) (mes : List MapEntry) : Prop :=
  mes.length = es.length ∧ ∀ (i : Nat) (e : AV × AV × Nat), es[i]? = some e → ∃ m : MapEntry, mes[i]? = some m ∧ Rep G w e.1 m.key ∧ Rep G w e.2.1 m.val ∧ m.born = e.2.2

theorem RepE.uncons {G : Gh} {w : World} {e : AV × AV × Nat} {es : List (AV × AV × Nat)} {mes : List MapEntry} (h : RepE G w (e :: es) mes) : ∃ m mes', mes = m :: mes' ∧ Rep G w e.1 m.key ∧ Rep G w e.2.1 m.val ∧ m.born = e.2.2 ∧ RepE G w es mes' := by
  obtain ⟨h1, h2⟩ := h
  cases mes with
  | nil => simp at h1
  | cons m mes =>
    obtain ⟨m', hm, k1, k2, k3⟩ := h2 0 e (by simp)
    simp at hm
    subst hm
    exact ⟨m, mes, rfl, k1, k2, k3, by simpa using h1, fun i e' hi => by simpa using h2 (i + 1) e' (by simpa using hi)⟩

def FoundRel (G : Gh) (w : World) : Option (Nat × AV) → Option (Nat × Value) → Prop
  | none, none => True
  | some (i, v), some (j, u) => i = j ∧ Rep G w v u
  | _, _ => False

theorem findNow_scalar {G : Gh} {w : World} {d : TypeDesc} {x : AV} {u : Value} (hx : Rep G w x u)
    (hd : ∀ {y : AV} {v : Value} {b : Bool}, keyEq x y = some b → Rep G w y v → Instr.sameNow d u v = some b) : ∀ {es : List (AV × AV × Nat)} {mes : List MapEntry} {i : Nat} {r : Option (Nat × AV)}, findKey x es i = some r → RepE G w es mes →
      ∃ q, Instr.findNow d u mes i = some q ∧ FoundRel G w r q
  | [], mes, i, r, h, hr => by
    simp [findKey] at h
    subst h
    have : mes = [] := List.eq_nil_of_length_eq_zero (by simpa using hr.1)
    subst this
    exact ⟨none, rfl, trivial⟩
  | (k, v, b) :: es, mes, i, r, h, hr => by
    obtain ⟨m, mes', rfl, k1, k2, _, k4⟩ := hr.uncons
    simp only [findKey, Option.bind_eq_some_iff] at h
    obtain ⟨e, he, h⟩ := h
    have hs := hd he k1
    cases e with
    | true =>
      simp at h
      subst h
      exact ⟨some (i, m.val), by simp [Instr.findNow, hs], rfl, k2⟩
    | false =>
      simp at h
      obtain ⟨q, hq, hf⟩ := findNow_scalar hx hd h k4
      exact ⟨q, by simp [Instr.findNow, hs, hq], hf⟩

theorem findAsk_struct {G : Gh} {w : World} {t : TypeId} {xs : List AV} (heq : EqOk P t xs) {vs : Array Value} (hx : RepL G w xs vs.toList) : ∀ {es : List (AV × AV × Nat)} {mes : List MapEntry} {i : Nat} {r : Option (Nat × AV)}, findKey (.agg xs) es i = some r → RepE G w es mes →
      ∃ q, (Instr.findAsking t (.agg vs) mes i).run P w = .ok q w ∧ FoundRel G w r q
  | [], mes, i, r, h, hr => by
    simp [findKey] at h
    subst h
    have : mes = [] := List.eq_nil_of_length_eq_zero (by simpa using hr.1)
    subst this
    exact ⟨none, rfl, trivial⟩
  | (k, v, b) :: es, mes, i, r, h, hr => by
    obtain ⟨m, mes', rfl, k1, k2, _, k4⟩ := hr.uncons
    simp only [findKey, Option.bind_eq_some_iff] at h
    obtain ⟨e, he, h⟩ := h
    cases k with
    | agg ys =>
      obtain ⟨us, hus, h3, _⟩ := rep_agg_inv k1
      have hs := heq.2.1 G w ys vs us e he hx h3
      rw [← hus] at hs
      cases e with
      | true =>
        simp at h
        subst h
        exact ⟨some (i, m.val), by simp [Instr.findAsking, Sem.run_bind, hs], rfl, k2⟩
      | false =>
        simp at h
        obtain ⟨q, hq, hf⟩ := findAsk_struct heq hx h k4
        exact ⟨q, by simp [Instr.findAsking, Sem.run_bind, hs, hq], hf⟩
    | _ => simp [keyEq, leafEq] at he

theorem run_findKey (hc : CfgOk P c) {G : Gh} {w : World} {t : TypeId} {x : AV} {u : Value} (hk : keyFits c t x = true) (hx : Rep G w x u) {es : List (AV × AV × Nat)} {mes : List MapEntry} {r : Option (Nat × AV)} (h : findKey x es 0 = some r) (hr : RepE G w es mes) :
    ∃ q, (Instr.findKey t u mes).run P w = .ok q w ∧ FoundRel G w r q := by
  rcases keyFits_inv hc hk with ⟨k, n, rfl, h2⟩ | ⟨b, rfl, h2⟩ | ⟨s, rfl, h2⟩ | ⟨xs, fs, b, rfl, h2, heq, hb⟩
  · cases hx
    obtain ⟨q, hq, hf⟩ := findNow_scalar (d := .int k) (.int k n) (fun {y v b} he hy => by
      cases y <;> simp [keyEq, leafEq] at he
      obtain ⟨rfl, rfl⟩ := he
      cases hy
      simp [Instr.sameNow]) h hr
    exact ⟨q, by simp [Instr.findKey, Sem.run_bind, run_underlying h2, hq], hf⟩
  · cases hx
    obtain ⟨q, hq, hf⟩ := findNow_scalar (d := .bool) (.bool b) (fun {y v b} he hy => by
      cases y <;> simp [keyEq, leafEq] at he
      subst he
      cases hy
      simp [Instr.sameNow]) h hr
    exact ⟨q, by simp [Instr.findKey, Sem.run_bind, run_underlying h2, hq], hf⟩
  · cases hx
    obtain ⟨q, hq, hf⟩ := findNow_scalar (d := .string) (.str s) (fun {y v b} he hy => by
      cases y <;> simp [keyEq, leafEq] at he
      rename_i s'
      subst he
      cases hy
      simp only [Instr.sameNow]
      rw [show ((⟨s.toArray⟩ : ByteArray) == ⟨s'.toArray⟩) = (s.toArray == s'.toArray) from rfl]
      simp) h hr
    exact ⟨q, by simp [Instr.findKey, Sem.run_bind, run_underlying h2, hq], hf⟩
  · obtain ⟨vs, rfl, h3, _⟩ := rep_agg_inv hx
    cases hes : mes with
    | nil =>
      have : es = [] := List.eq_nil_of_length_eq_zero (by have := hr.1; rw [hes] at this; simpa using this.symm)
      subst this
      simp [findKey] at h
      subst h
      exact ⟨none, by simp [Instr.findKey, Sem.run_bind, run_underlying h2, Instr.findNow], trivial⟩
    | cons m mes' =>
      obtain ⟨q, hq, hf⟩ := findAsk_struct heq h3 h hr
      rw [hes] at hq
      refine ⟨q, ?_, hf⟩
      have hn : Instr.findNow (.struct fs) (.agg vs) (m :: mes') 0 = none := by
        simp [Instr.findNow, Instr.sameNow]
      simp [Instr.findKey, Sem.run_bind, run_underlying h2, hn, hq]

theorem zeroOf_rep (hc : CfgOk P c) {G : Gh} {w : World} {t : TypeId} {z : AV} (h : zeroOf c t = some z) : ∃ v, (zeroValue t).run P w = .ok v w ∧ Rep G w z v := by
  unfold zeroOf at h
  simp only [Option.bind_eq_some_iff] at h
  obtain ⟨i, hi, zs, hz, h⟩ := h
  obtain ⟨info, d, h1, h2, h3, h4, h5, h6⟩ := ty_inv (hc.ty t i hi)
  rw [h6] at hz
  simp only [Option.bind_eq_some_iff] at hz
  obtain ⟨zv, hzv, hz⟩ := hz
  obtain ⟨hzr, hzl, ha, hn⟩ := zeroC_rep (G := G) (w := w) hz
  refine ⟨zv, run_zero_ty h1 hzv w, ?_⟩
  rw [h3] at h
  split at h
  · rename_i hk
    obtain ⟨cs, rfl⟩ := ha hk
    simp at h
    subst h
    exact rep_agg.2 ⟨hzr, hzl⟩
  · rename_i hk
    obtain ⟨x, rfl, hr⟩ := hn (by simpa using hk)
    simp at h
    subst h
    exact hr


theorem run_lookup (hc : CfgOk P c) {G : Gh} {S : St} {w : World} {t : TypeId} {x k r : AV} {ok : Bool} {u v : Value} (hW : Wrel G S w) (h : alookup c S t x k ok = some r) (hx : Rep G w x u) (hk : Rep G w k v) :
    ∃ q, (Instr.lookup t u v ok).run P w = .ok q w ∧ Rep G w r q := by
  unfold alookup at h
  split at h
  case h_2 => simp at h
  rename_i kt et hkind
  have h2 := kind_map hc hkind
  split at h
  case isFalse => simp at h
  rename_i hfit
  simp only [Option.bind_eq_some_iff, Option.map_eq_some_iff] at h
  obtain ⟨es, hes, fr, hfr, p, hp, rfl⟩ := h
  have hent : ∃ mes : Array MapEntry, RepE G w es mes.toList ∧ ((u = .map none ∧ mes = #[]) ∨ ∃ b clock, u = .map (some b) ∧ w.heap[b]? = some (.map mes clock)) := by
    split at hes
    · simp at hes
      subst hes
      cases hx
      exact ⟨#[], ⟨rfl, fun i e h => by simp at h⟩, .inl ⟨rfl, rfl⟩⟩
    · rename_i o
      split at hes
      · rename_i es' clock hg
        simp at hes
        subst hes
        cases hx with
        | map _ b hb =>
          obtain ⟨b', hb', mes, h3, h4, h5⟩ := hW.obj o _ hg
          obtain rfl := hW.fblk o _ _ hb hb'
          refine ⟨mes, ⟨by simpa using h4, fun i e hi => ?_⟩, .inr ⟨b, clock, rfl, h3⟩⟩
          obtain ⟨m, k1, k2⟩ := h5 i e hi
          exact ⟨m, by simpa using k1, k2⟩
      · simp at hes
    · simp at hes
  obtain ⟨mes, hre, hrun⟩ := hent
  obtain ⟨q, hq, hf⟩ := run_findKey hc hfit hk hfr hre
  have hcheck : ∀ e, (Instr.checkKey e 10000 kt v).run P w = .ok () w := fun e => run_checkKey hc hfit hk e
  have hv : ∃ qv, Rep G w p.1 qv ∧ ((match q with | some (_, v) => pure (v, true) | none => do pure (← zeroValue et, false) : Sem (Value × Bool))).run P w = .ok (qv, p.2) w := by
    cases fr with
    | none =>
      cases q with
      | none =>
        simp only [Option.map_eq_some_iff] at hp
        obtain ⟨z, hz, rfl⟩ := hp
        obtain ⟨zv, hzv, hr⟩ := zeroOf_rep hc (G := G) (w := w) hz
        exact ⟨zv, hr, by simp [Sem.run_bind, hzv]⟩
      | some q => exact hf.elim
    | some fr =>
      obtain ⟨i, v⟩ := fr
      cases q with
      | none => exact hf.elim
      | some q =>
        simp at hp
        subst hp
        exact ⟨q.2, hf.2, by simp⟩
  obtain ⟨qv, hr, hrun2⟩ := hv
  refine ⟨if ok then .tuple #[qv, .bool p.2] else qv, ?_, ?_⟩
  · have hlast : ((match (generalizing := false) q with
        | some (_, v) => do
          let __x ← pure (v, true)
          pure (if ok = true then Value.tuple #[__x.1, Value.bool __x.2] else __x.1)
        | none => do
          let __do_lift ← zeroValue et
          let __x ← pure (__do_lift, false)
          pure (if ok = true then Value.tuple #[__x.1, Value.bool __x.2] else __x.1) : Sem Value)).run P w = .ok (if ok then .tuple #[qv, .bool p.2] else qv) w := by
      cases q with
      | none =>
        simp only [Sem.run_bind, Sem.run_pure] at hrun2 ⊢
        cases hz : (zeroValue et).run P w with
        | ok a w1 =>
          rw [hz] at hrun2
          simp at hrun2
          simp [hrun2.2, hrun2.1.1, ← hrun2.1.2]
        | halt a w1 => rw [hz] at hrun2; simp at hrun2
      | some q =>
        simp at hrun2
        simp [← hrun2.1, ← hrun2.2]
    unfold Instr.lookup
    rw [Sem.run_bind, run_underlying h2, Result.andThen_ok]
    rcases hrun with ⟨rfl, rfl⟩ | ⟨b, clock, rfl, hb⟩
    · simp only [Sem.run_bind, Sem.run_pure, Result.andThen_ok, hcheck, hq]
      exact hlast
    · have hg : (getObj b).run P w = .ok (.map mes clock) w := by simp [getObj, Sem.run, hb]
      simp only [Sem.run_bind, hg, Sem.run_pure, Result.andThen_ok, hcheck, hq]
      exact hlast
  · cases ok with
    | true => exact rep_tup.2 (RepL.cons hr (RepL.cons (.bool _) (RepL.nil _ _)))
    | false => exact hr

theorem run_amax {G : Gh} {w : World} {xs : List AV} {r : AV} {vs : List Value} (at_ : Array TypeId) (ty : TypeId) (h : amax xs = some r) (hx : RepL G w xs vs) : ∃ q, (Builtin.max_ at_ ty vs.toArray).run P w = .ok q w ∧ Rep G w r q := by
  unfold amax at h
  split at h
  · rename_i k a k' b
    split at h
    · rename_i hk
      subst hk
      simp at h
      subst h
      obtain ⟨v, vs', rfl, h1, h2⟩ := hx.uncons
      obtain ⟨v', vs'', rfl, h3, h4⟩ := h2.uncons
      obtain rfl := h4.nil_inv
      cases h1; cases h3
      exact ⟨_, by simp [Builtin.max_, Builtin.max2], .int _ _⟩
    · simp at h
  · simp at h

theorem run_amin {G : Gh} {w : World} {xs : List AV} {r : AV} {vs : List Value} (at_ : Array TypeId) (ty : TypeId) (h : amin xs = some r) (hx : RepL G w xs vs) : ∃ q, (Builtin.min_ at_ ty vs.toArray).run P w = .ok q w ∧ Rep G w r q := by
  unfold amin at h
  split at h
  · rename_i k a k' b
    split at h
    · rename_i hk
      subst hk
      simp at h
      subst h
      obtain ⟨v, vs', rfl, h1, h2⟩ := hx.uncons
      obtain ⟨v', vs'', rfl, h3, h4⟩ := h2.uncons
      obtain rfl := h4.nil_inv
      cases h1; cases h3
      exact ⟨_, by simp [Builtin.min_, Builtin.min2], .int _ _⟩
    · simp at h
  · simp at h

theorem run_nilCheck {G : Gh} {w : World} {x : AV} {u : Value} {o : Operand} {ρ : Operand → Value} (hx : Rep G w x u) (ho : ρ o = u) (h : (∃ a b, x = .ptr a b) ∨ (∃ a b d e, x = .eptr a b d e) ∨ (∃ a b, x = .iptr a b) ∨ (∃ a b d, x = .fn a b d)) :
    ((match ρ o with
    | .pointer none | .nilIface | .nilFunc => runtimePanic .nilDeref
    | .func (.method name) first captured =>
      match (first[0]? : Option Value) with
      | some .nilIface => runtimePanic .nilDeref
      | some (.iface t w) => do
        if (← nilAhead ((← program).types.size + Made.depth) t w name) != some false then
          unsupported (.noEntry "op/nilCheck.the method's receiver behind this interface value is a nil pointer, or cannot be seen to be none, and the arguments act or may panic (ledger 612)")
        pure (.value (.func (.method name) first captured))
      | _ => pure (.value (.func (.method name) first captured))
    | x => pure (.value x) : Sem Next)).run P w = .ok (.value u) w := by
  subst ho
  rcases h with ⟨a, b, rfl⟩ | ⟨a, b, d, e, rfl⟩ | ⟨a, b, rfl⟩ | ⟨a, b, d, rfl⟩
  · generalize ρ o = u at hx; cases hx; rfl
  · generalize ρ o = u at hx; cases hx; rfl
  · generalize ρ o = u at hx; cases hx; rfl
  · generalize ρ o = u at hx; cases hx; rfl

theorem arr_map {α β : Type} (xs : Array α) (f : α → β) : (xs.toList.map f).toArray = xs.map f := by cases xs; simp

theorem rep_bool_inv {G : Gh} {w : World} {b : Bool} {v : Value} (h : Rep G w (.bool b) v) : v = .bool b := by cases h; rfl
theorem rep_str_inv {G : Gh} {w : World} {s : List UInt8} {v : Value} (h : Rep G w (.str s) v) : v = .string ⟨s.toArray⟩ := by cases h; rfl
theorem rep_int_inv {G : Gh} {w : World} {k : IntKind} {n : Int} {v : Value} (h : Rep G w (.int k n) v) : v = .int k n := by cases h; rfl

/-- ALL OPERATIONS THAT YIELD A VALUE. -/
theorem aval_sound (hc : CfgOk P c) {G : Gh} {S : St} {w : World} {tm : List AV} {a : Act} {o : Oper} {v : AV} (hW : Wrel G S w) (ht : RepL G w tm a.tmps.toList) (h : aval c tm o S = some v) : Comes1 P (execOp a.eval o) G S w v S := by
  have now : ∀ {u : Value}, (execOp a.eval o).run P w = .ok (.value u) w → Rep G w v u → Comes1 P (execOp a.eval o) G S w v S := fun h1 h2 => ⟨_, _, _, G, h1, .inl rfl, hW, .refl G S w, h2⟩
  have val : ∀ {s : Sem Value} {u : Value}, execOp a.eval o = (do pure (.value (← s))) → s.run P w = .ok u w → Rep G w v u → Comes1 P (execOp a.eval o) G S w v S := fun he hs hr => by rw [he]; exact comes_value hW hs hr
  obtain ⟨dst, op, type, pos, after, guard⟩ := o
  unfold aval at h
  split at h
  all_goals rename_i hop
  all_goals (simp only at hop)
  all_goals try subst hop
  · exact now (by simp [execOp]) (evalT_rep ht h)
  · exact now (by simp [execOp]) (evalT_rep ht h)
  · -- pick
    split at h
    · rename_i t hx
      have hu := rep_bool_inv (evalT_rep ht hx)
      have hz := evalT_rep ht h
      refine now ?_ hz
      simp only [execOp, hu, Sem.run_bind, asBool, Sem.run_pure, Result.andThen_ok]
      cases t <;> rfl
    · simp at h
  · -- build
    simp only [Option.bind_eq_some_iff] at h
    obtain ⟨ps, hps, h⟩ := h
    obtain ⟨q, hq, hr⟩ := run_abuild hc h (evalP_rep ht hps)
    refine val rfl (u := q) ?_ hr
    rw [← hq, arr_map]
  · -- buildSlice
    rename_i t len parts
    split at h
    · rename_i e hk
      simp only [Option.bind_eq_some_iff] at h
      obtain ⟨ei, hei, h⟩ := h
      split at h
      · rename_i hlen
        simp only [Option.bind_eq_some_iff] at h
        obtain ⟨z, hz, ps, hps, h⟩ := h
        split at h
        · rename_i hzl
          simp only [Option.map_eq_some_iff] at h
          obtain ⟨rows, hrows, rfl⟩ := h
          have := comes_buildSlice hc hW hk hei hlen hz hzl hrows (evalP_rep ht hps)
          rw [arr_map] at this
          exact this
        · simp at h
      · simp at h
    · simp at h
  · -- load
    simp only [Option.bind_eq_some_iff] at h
    obtain ⟨i, hi, p, hp, h⟩ := h
    obtain ⟨q, hq, hr⟩ := run_aload hc hW hi h (evalT_rep ht hp)
    exact val rfl hq hr
  · -- nilCheck
    simp only [Option.bind_eq_some_iff] at h
    obtain ⟨p, hp, h⟩ := h
    have hx := evalT_rep ht hp
    split at h
    case h_5 => simp at h
    all_goals
      simp at h
      subst h
      refine now ?_ hx
      simp only [execOp]
      refine run_nilCheck hx rfl ?_
      simp
  · -- binOp
    simp only [Option.bind_eq_some_iff] at h
    obtain ⟨x, hx, y, hy, h⟩ := h
    split at h
    · simp at h
    · rename_i hn
      obtain ⟨q, hq, hr⟩ := run_abin (X := _) (Y := _) hc h (evalT_rep ht hx) (evalT_rep ht hy) (fun h1 h2 => by
        simp only [h1, h2, Bool.true_and, Bool.not_eq_true', Bool.not_eq_false] at hn
        exact hn)
      exact val rfl hq hr
  · -- unOp
    simp only [Option.bind_eq_some_iff] at h
    obtain ⟨x, hx, h⟩ := h
    obtain ⟨q, hq, hr⟩ := run_aun (P := P) h (evalT_rep ht hx)
    exact val rfl hq hr
  · -- convert
    simp only [Option.bind_eq_some_iff] at h
    obtain ⟨x, hx, h⟩ := h
    obtain ⟨q, hq, hr⟩ := run_aconv hc h (evalT_rep ht hx)
    exact val rfl hq hr
  · -- makeFunc
    simp only [Option.bind_eq_some_iff, Option.map_eq_some_iff] at h
    obtain ⟨x, hx, y, hy, rfl⟩ := h
    refine val rfl (u := _) rfl ?_
    refine rep_fn ?_ ?_
    · simpa using evalL_rep ht hx
    · simpa using evalL_rep ht hy
  · -- slice
    simp only [Option.bind_eq_some_iff] at h
    obtain ⟨x, hx, l, hl, hh, hhh, h⟩ := h
    have hx' := evalT_rep ht hx
    split at h
    · rename_i s hk
      have hu := rep_str_inv hx'
      obtain ⟨q, hq, hr⟩ := run_sliceS hc hk h (evalO_rep ht hl) (evalO_rep ht hhh)
      refine val rfl (u := q) ?_ hr
      rw [hu]
      exact hq
    · rename_i e hk
      simp only [Option.bind_eq_some_iff] at h
      obtain ⟨ei, hei, h⟩ := h
      obtain ⟨q, hq, hr⟩ := run_slice hc hW hk hei h hx' (evalO_rep ht hl) (evalO_rep ht hhh)
      exact val rfl hq hr
    · simp at h
  · -- fieldAddr
    split at h
    · rename_i fs hk
      simp only [Option.bind_eq_some_iff] at h
      obtain ⟨q, hq, fi, hfi, h⟩ := h
      split at h
      · simp at h
      · rename_i h0
        simp only [Option.bind_eq_some_iff] at h
        obtain ⟨x, hx, h⟩ := h
        obtain ⟨r, hr, hrr⟩ := run_fieldAddr hc hk hq hfi h0 h (evalT_rep ht hx)
        exact val rfl hr hrr
    · simp at h
  · -- field
    split at h
    · rename_i fs hk
      simp only [Option.bind_eq_some_iff] at h
      obtain ⟨q, hq, fi, hfi, h⟩ := h
      split at h
      · rename_i cs hx
        obtain ⟨r, hr, hrr⟩ := run_field hc hk hq hfi h (evalT_rep ht hx)
        exact val rfl hr hrr
      · simp at h
    · simp at h
  · -- indexAddr
    simp only [Option.bind_eq_some_iff] at h
    obtain ⟨x, hx, y, hy, h⟩ := h
    obtain ⟨q, hq, hr⟩ := run_indexAddr hc hW h (evalT_rep ht hx) (evalT_rep ht hy)
    exact val rfl hq hr
  · -- index
    simp only [Option.bind_eq_some_iff] at h
    obtain ⟨x, hx, y, hy, h⟩ := h
    obtain ⟨q, hq, hr⟩ := run_index hc h (evalT_rep ht hx) (evalT_rep ht hy)
    exact val rfl hq hr
  · -- lookup
    simp only [Option.bind_eq_some_iff] at h
    obtain ⟨x, hx, y, hy, h⟩ := h
    obtain ⟨q, hq, hr⟩ := run_lookup hc hW h (evalT_rep ht hx) (evalT_rep ht hy)
    exact val rfl hq hr
  · -- extract
    split at h
    · rename_i vs hx
      obtain ⟨us, hu, hr⟩ := rep_tup_inv (evalT_rep ht hx)
      obtain ⟨q, hq, hrq⟩ := hr.get h
      have hq' := hq
      rw [Array.getElem?_toList] at hq'
      exact val rfl (u := q) (by simp [Instr.extract, hu, hq']) hrq
    · simp at h
  · -- len
    rename_i args argTypes
    split at h
    · rename_i x t hx1 hx2
      simp only [Option.bind_eq_some_iff] at h
      obtain ⟨y, hy, h⟩ := h
      obtain ⟨q, hq, hr⟩ := run_len (ty := type) hc hW h (evalT_rep ht hy)
      have e1 : args = #[x] := by cases args; simp_all
      have e2 : argTypes = #[t] := by cases argTypes; simp_all
      subst e1 e2
      exact now (u := q) (by simp [execOp, resolve, invoke, builtin, Sem.run_bind, hq]) hr
    · simp at h
  · -- max
    rename_i args argTypes
    simp only [Option.bind_eq_some_iff] at h
    obtain ⟨y, hy, h⟩ := h
    obtain ⟨q, hq, hr⟩ := run_amax (P := P) argTypes type h (evalL_rep ht hy)
    rw [arr_map] at hq
    exact now (u := q) (by simp [execOp, resolve, invoke, builtin, Sem.run_bind, hq]) hr
  · -- min
    rename_i args argTypes
    simp only [Option.bind_eq_some_iff] at h
    obtain ⟨y, hy, h⟩ := h
    obtain ⟨q, hq, hr⟩ := run_amin (P := P) argTypes type h (evalL_rep ht hy)
    rw [arr_map] at hq
    exact now (u := q) (by simp [execOp, resolve, invoke, builtin, Sem.run_bind, hq]) hr
  · simp at h

end Go.Am
