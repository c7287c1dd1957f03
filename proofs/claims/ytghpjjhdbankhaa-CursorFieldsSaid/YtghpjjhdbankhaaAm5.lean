/- THE ABSTRACT MACHINE, SIXTH FILE: arithmetic, comparisons, conversions. -/
import Derived.Test.YtghpjjhdbankhaaAm4
import Derived.Laws.Strings
import Derived.Laws.Strings2
set_option linter.unusedSimpArgs false
set_option linter.unusedVariables false
namespace Go.Am
open Go.RowKit
variable {P : Program} {c : Cfg}

theorem mk_size (l : List UInt8) : (⟨l.toArray⟩ : ByteArray).size = l.length := by show l.toArray.size = _; simp
theorem mk_append (a b : List UInt8) : (⟨a.toArray⟩ : ByteArray) ++ ⟨b.toArray⟩ = ⟨(a ++ b).toArray⟩ := by
  apply ByteArray.ext
  simp
theorem mk_get (l : List UInt8) (n : Nat) : (⟨l.toArray⟩ : ByteArray)[n]? = l[n]? := by
  by_cases h : n < l.length
  · rw [ByteArray.getElem?_lt' _ _ (by rw [mk_size]; exact h), List.getElem?_eq_getElem h]
    congr 1
  · rw [ByteArray.getElem?_ge' _ _ (by rw [mk_size]; exact h), List.getElem?_eq_none (by omega)]

theorem run_aint {op : BinOp} {k : IntKind} {a b : Int} {v : AV} (t : TypeId) (h : aint op k a b = some v) (w : World) (hs : op ≠ .shl) (hs' : op ≠ .shr) :
    ∃ u, (binOp op t (.int k a) (.int k b)).run P w = .ok u w ∧ ∀ G, Rep G w v u := by
  cases op <;> simp [aint] at h <;> first
    | exact absurd rfl hs
    | exact absurd rfl hs'
    | (obtain ⟨h0, rfl⟩ := h; refine ⟨_, ?_, fun G => .int _ _⟩; simp [binOp, Op.intDiv, h0])
    | (subst h; refine ⟨_, ?_, fun G => .int _ _⟩; simp [binOp, Op.intArith, Op.intBits]; done)
    | (subst h; refine ⟨_, ?_, fun G => .bool _⟩; simp [binOp, Op.intCmp]; done)

theorem run_ashift {op : BinOp} {k k' : IntKind} {a b : Int} {v : AV} (t : TypeId) (h : ashift op k a b = some v) (w : World) (ho : op = .shl ∨ op = .shr) :
    ∃ u, (binOp op t (.int k a) (.int k' b)).run P w = .ok u w ∧ ∀ G, Rep G w v u := by
  rcases ho with rfl | rfl <;> simp [ashift] at h <;> obtain ⟨h0, rfl⟩ := h <;> refine ⟨_, ?_, fun G => .int _ _⟩ <;>
    simp [binOp, Op.shift, show ¬ b < 0 by omega]

theorem run_astr {op : BinOp} {a b : List UInt8} {v : AV} (t : TypeId) (h : astr op a b = some v) (w : World) :
    ∃ u, (binOp op t (.string ⟨a.toArray⟩) (.string ⟨b.toArray⟩)).run P w = .ok u w ∧ ∀ G, Rep G w v u := by
  cases op <;> simp [astr] at h <;> first
    | (obtain ⟨h0, rfl⟩ := h
       refine ⟨.string ⟨(a ++ b).toArray⟩, ?_, fun G => .str _⟩
       have hm : ¬ ((a.length : Int) + b.length > IntKind.i64.max) := by simp [IntKind.max, IntKind.signed, IntKind.bits]; simp [maxI64] at h0; omega
       simp only [binOp, Op.stringOp, mk_size, mk_append]
       have hm' : (a.length : Int) + b.length ≤ 9223372036854775807 := h0
       simp [hm, hm', Int.natCast_add])
    | (subst h; refine ⟨_, ?_, fun G => .bool _⟩; simp [binOp, Op.stringOp]; done)

theorem run_leafEq {x y : AV} {b : Bool} (h : leafEq x y = some b) {G : Gh} {w : World} {u v : Value} (hx : Rep G w x u) (hy : Rep G w y v) :
    (∃ k a a', u = .int k a ∧ v = .int k a' ∧ b = (a == a')) ∨ (∃ a a', u = .bool a ∧ v = .bool a' ∧ b = (a == a')) ∨ (∃ a a' : List UInt8, u = .string ⟨a.toArray⟩ ∧ v = .string ⟨a'.toArray⟩ ∧ b = (a == a')) := by
  unfold leafEq at h
  split at h
  · split at h
    · rename_i hk; subst hk; cases hx; cases hy; simp at h; exact .inl ⟨_, _, _, rfl, rfl, h.symm⟩
    · simp at h
  · cases hx; cases hy; simp at h; exact .inr (.inl ⟨_, _, rfl, rfl, h.symm⟩)
  · cases hx; cases hy; simp at h; exact .inr (.inr ⟨_, _, rfl, rfl, h.symm⟩)
  · simp at h

theorem run_aeq (hc : CfgOk P c) {t : TypeId} {x y : AV} {b : Bool} (h : aeq c t x y = some b) {G : Gh} {w : World} {u v : Value} (hx : Rep G w x u) (hy : Rep G w y v) : (Op.equal t u v).run P w = .ok b w := by
  unfold aeq at h
  simp only [Option.bind_eq_some_iff] at h
  obtain ⟨i, hi, h⟩ := h
  obtain ⟨info, d, h1, h2, h3, _⟩ := ty_inv (hc.ty t i hi)
  have hd : ∀ {k : TK}, i.kind = k → tkOf d = k := fun e => by rw [← h3]; exact e
  have hmx : Op.maxDepth = 9999 + 1 := rfl
  split at h
  all_goals first
    | (simp at h; done)
    | (rename_i hk
       split at h
       · rename_i he
         obtain ⟨vs, rfl, hv, _⟩ := rep_agg_inv hx
         obtain ⟨us, rfl, hu, _⟩ := rep_agg_inv hy
         exact (hc.eqt t _ he.1 he.2).2.1 G w _ vs us b h hv hu
       · simp at h
         done)
    | (rename_i hk
       have hk := hd hk
       cases d <;> simp [tkOf] at hk
       simp at h
       subst h
       unfold Op.equal
       rw [hmx]
       generalize 9999 = dd
       cases hx <;> cases hy <;> simp [Op.equalIn, run_underlying h2])


theorem run_abin (hc : CfgOk P c) {op : BinOp} {t : TypeId} {x y : AV} {r : AV} {X Y : Operand} (h : abin c op t x y = some r) {G : Gh} {w : World} {u v : Value} (hx : Rep G w x u) (hy : Rep G w y v)
    (hn : isNili x = true → isNili y = true → (isConst X || isConst Y) = true) :
    ∃ q, (do eqGuard op t X Y u v; binOp op t u v : Sem Value).run P w = .ok q w ∧ Rep G w r q := by
  have calm : ∀ {s : Sem Value} {q : Value}, (eqGuard op t X Y u v).run P w = .ok () w → s.run P w = .ok q w → (do eqGuard op t X Y u v; s : Sem Value).run P w = .ok q w := by
    intro s q h1 h2
    simp [Sem.run_bind, h1, h2]
  unfold abin at h
  split at h
  · cases hx; cases hy
    obtain ⟨q, hq, hr⟩ := run_ashift (P := P) t h w (.inl rfl)
    exact ⟨q, calm (by simp [eqGuard]) hq, hr G⟩
  · cases hx; cases hy
    obtain ⟨q, hq, hr⟩ := run_ashift (P := P) t h w (.inr rfl)
    exact ⟨q, calm (by simp [eqGuard]) hq, hr G⟩
  · rename_i h1 h2
    split at h
    · rename_i hk
      subst hk
      cases hx; cases hy
      obtain ⟨q, hq, hr⟩ := run_aint (P := P) t h w (fun e => h1 e) (fun e => h2 e)
      refine ⟨q, calm ?_ hq, hr G⟩
      unfold eqGuard
      split <;> simp
    · simp at h
  · cases hx; cases hy
    obtain ⟨q, hq, hr⟩ := run_astr (P := P) t h w
    refine ⟨q, calm ?_ hq, hr G⟩
    unfold eqGuard
    split <;> simp
  all_goals try (simp at h; done)
  all_goals
    simp only [Option.map_eq_some_iff] at h
    obtain ⟨b, hb, rfl⟩ := h
    have he := run_aeq hc hb hx hy
    have hg : ∀ o, o = BinOp.eql ∨ o = BinOp.neq → (eqGuard o t X Y u v).run P w = .ok () w := by
      intro o ho
      unfold aeq at hb
      simp only [Option.bind_eq_some_iff] at hb
      obtain ⟨i, hi, hb⟩ := hb
      obtain ⟨info, d, k1, k2, k3, _⟩ := ty_inv (hc.ty t i hi)
      split at hb
      all_goals first
        | (simp at hb; done)
        | (split at hb
           · rename_i hq
             obtain ⟨vs, rfl, _⟩ := rep_agg_inv hx
             obtain ⟨us, rfl, _⟩ := rep_agg_inv hy
             rcases ho with rfl | rfl <;> simp [eqGuard, Sem.run_bind, (hc.eqt t _ hq.1 hq.2).1]
           · simp at hb
             done)
        | (cases hx <;> cases hy <;> rcases ho with rfl | rfl <;> rfl)
        | (have := hn rfl rfl
           cases hx
           cases hy
           simp only [Bool.or_eq_true] at this
           rcases ho with rfl | rfl <;> cases X <;> cases Y <;> simp_all [isConst, eqGuard])
    have hbin : ∀ o, o = BinOp.eql ∨ o = BinOp.neq → (binOp o t u v).run P w = .ok (.bool (if o = .eql then b else !b)) w := by
      intro o ho
      unfold aeq at hb
      simp only [Option.bind_eq_some_iff] at hb
      obtain ⟨i, hi, hb⟩ := hb
      split at hb
      all_goals first
        | (simp at hb; done)
        | (rcases ho with rfl | rfl
           · have e : binOp .eql t u v = (do pure (.bool (← Op.equal t u v))) := by cases hx <;> cases hy <;> rfl
             rw [e]
             simp [Sem.run_bind, he]
           · have e : binOp .neq t u v = (do pure (.bool (!(← Op.equal t u v)))) := by cases hx <;> cases hy <;> rfl
             rw [e]
             simp [Sem.run_bind, he])
    refine ⟨_, calm (hg _ (by simp)) (hbin _ (by simp)), ?_⟩
    simp
    exact .bool _

theorem run_aun {op : UnOp} {x r : AV} (h : aun op x = some r) {G : Gh} {w : World} {u : Value} (hx : Rep G w x u) : ∃ q, (Op.unary op u).run P w = .ok q w ∧ Rep G w r q := by
  unfold aun at h
  split at h <;> simp at h <;> subst h <;> cases hx
  · exact ⟨_, by simp [Op.unary, Op.intArith], .int _ _⟩
  · exact ⟨_, by simp [Op.unary, Op.intBits], .int _ _⟩
  · exact ⟨_, by simp [Op.unary], .bool _⟩

theorem run_aconv (hc : CfgOk P c) {s d : TypeId} {x r : AV} (h : aconv c s d x = some r) {G : Gh} {w : World} {u : Value} (hx : Rep G w x u) : ∃ q, (convert s d u).run P w = .ok q w ∧ Rep G w r q := by
  unfold aconv at h
  simp only [Option.bind_eq_some_iff] at h
  obtain ⟨i, hi, j, hj, h⟩ := h
  obtain ⟨_, di, _, h2, h3, _⟩ := ty_inv (hc.ty s i hi)
  obtain ⟨_, dj, _, k2, k3, _⟩ := ty_inv (hc.ty d j hj)
  split at h
  · rename_i hk
    simp at h
    subst h
    rw [k3] at hk
    cases dj <;> simp [tkOf] at hk
    subst hk
    cases hx
    exact ⟨_, by simp [convert, Sem.run_bind, run_underlying h2, run_underlying k2, Conv.intToInt], .int _ _⟩
  · rename_i hk
    simp at h
    subst h
    rw [k3] at hk
    cases dj <;> simp [tkOf] at hk
    cases hx
    refine ⟨_, ?_, .str _⟩
    simp [convert, Sem.run_bind, run_underlying h2, run_underlying k2]
  · simp at h

end Go.Am
