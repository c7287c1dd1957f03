/- ALL PATHS IN A ROW, by the book: R.all, R.All. -/
import Derived.Test.YtghpjjhdbankhaaC16
import Derived.Test.YtghpjjhdbankhaaC9
set_option linter.unusedSimpArgs false
set_option linter.unusedVariables false
set_option maxRecDepth 20000
namespace Go.Am.B
open Go.Proofs Go.IntWalk

variable {w : Ways}

theorem opX_raw {c : Cfg} {R : Rec} {f r : Nat} {tm : List AV} {d : Option Tmp} {ty : TypeId} {p : String} {a : Array Edge} {g : Option (Nat × Bool)} {S : St} {fn : FuncId} {x : Array Operand} {tt : Array TypeId} (he : c.ext fn = none) (hm : c.mode fn = .raw) :
    opX c R f r tm ⟨d, .call { callee := .value (.func fn), args := x, argTypes := tt }, ty, p, a, g⟩ S =
    (aeff c R f r tm ⟨d, .call { callee := .value (.func fn), args := x, argTypes := tt }, ty, p, a, g⟩ S).map fun z => (z.1, z.2, Foot.big) := by
  unfold opX
  have h1 : opQ c R tm ⟨d, .call { callee := .value (.func fn), args := x, argTypes := tt }, ty, p, a, g⟩ S = none := by
    unfold opQ
    rw [show aval c tm ⟨d, .call { callee := .value (.func fn), args := x, argTypes := tt }, ty, p, a, g⟩ S = none from rfl]
    simp [he, hm]
  rw [h1]
  have hc : calmable c tm ⟨d, .call { callee := .value (.func fn), args := x, argTypes := tt }, ty, p, a, g⟩ = false := by simp [calmable, he, hm]
  simp only [hc]
  rw [if_neg (by simp)]
  simp only [wfoot, he]

/-- Memory grew; rows are as they were. -/
structure St.Keep (S S' : St) : Prop where
  ok : S'.ok
  base : S'.base = S.base
  n : S.n ≤ S'.n
  get : ∀ o x, o < S.n → S.get o = some (.row x false) → S'.get o = some (.row x false)
theorem St.Keep.trans {A B C : St} (h : St.Keep A B) (k : St.Keep B C) : St.Keep A C :=
  ⟨k.ok, k.base.trans h.base, Nat.le_trans h.n k.n, fun o x ho hx => k.get o x (Nat.lt_of_lt_of_le ho h.n) (h.get o x ho hx)⟩
theorem St.Keep.push {S : St} (h : S.ok) (o : AObj) : St.Keep S (S.push o) :=
  ⟨St.ok_push h, St.pushB _ _, by rw [St.pushN]; omega, fun i x hi hx => by rw [St.get_pushn (by omega)]; exact hx⟩

theorem keep_tail {S : St} {o g g' : Nat} (hok : S.ok) (ho : o < S.n) (hg : S.get o = some (.tail g)) : St.Keep S (S.set o (.tail g')) :=
  ⟨St.ok_set hok, St.setB _ _ _, Nat.le_of_eq (St.setN _ _ _).symm, fun i x hi hx => by
    by_cases e : i = o
    · subst e; rw [hg] at hx; cases hx
    · rw [St.get_setn ho e]; exact hx⟩
/-- The row of paths, as it may lie in the hand. -/
def Acc (x : AV) (d : List (List Int)) (S : St) : Prop :=
  (d = [] ∧ x = .nils) ∨ ∃ (y : AV) (r : Rows) (o g : Nat), x = .own ([y] :: r) o g ∧ r.length + 1 = d.length ∧ nrmR ([y] :: r) = some (paths d) ∧ o < S.n ∧ S.get o = some (.tail g)
theorem Acc.push {x : AV} {d : List (List Int)} {S : St} (h : Acc x d S) (o : AObj) : Acc x d (S.push o) := by
  rcases h with h | ⟨y, r, q, g, h1, h2, h3, h4, h5⟩
  · exact .inl h
  · exact .inr ⟨y, r, q, g, h1, h2, h3, by rw [St.pushN]; omega, by rw [St.get_pushn (by omega)]; exact h5⟩

theorem nrm_own (p : List Int) (o g : Nat) : nrm (.own (ints p) o g) = some (.vec (ints p)) := by simp [Am.nrm, nrmR_ints]
theorem acc1 {b : AV} {p : List Int} {S : St} {o : Nat} (h : nrm b = some (.vec (ints p))) (ho : o < S.n) (hg : S.get o = some (.tail 0)) : Acc (.own [[b]] o 0) ([] ++ [p]) S :=
  .inr ⟨b, [], o, 0, rfl, rfl, by simp only [nrmR, nrmL, h, paths, Option.bind_some, Option.map_some, List.nil_append, List.map_cons, List.map_nil], ho, hg⟩
theorem acc2 {b y : AV} {p : List Int} {d : List (List Int)} {r : Rows} {S : St} {o g : Nat} (h : nrm b = some (.vec (ints p))) (hr : r.length + 1 = d.length) (hn : nrmR ([y] :: r) = some (paths d)) (ho : o < S.n) (hg : S.get o = some (.tail (g + 1))) : Acc (.own ([y] :: (r ++ [[b]])) o (g + 1)) (d ++ [p]) S :=
  .inr ⟨y, r ++ [[b]], o, g + 1, rfl, by simp only [List.length_append, List.length_cons, List.length_nil]; omega, by
    have := nrmR_append hn (nrm1 h)
    simpa [paths] using this, ho, hg⟩

theorem all71_ok (hw : Std1 w) (n : Node) : n.ok → ∀ (p : List Int) (a x : AV) (d : List (List Int)) (S : St), ((a = .nils ∧ p = []) ∨ (a = .vec (ints p) ∧ p ≠ [])) → Deep 17592186044400 n p → d.length + (allP n p).length ≤ 1000000 → Acc x d S → S.ok → S.base = 0 →
    ∃ x' S', (lim (cfg w)).call 71 [n.av, a, x] S = some (x', S') ∧ Acc x' (d ++ allP n p) S' ∧ St.Keep S S' := by
  induction n using Node.ind with
  | h n ih =>
  intro hn p a x d S ha hdeep hN hx hok hbs
  have hpl : p.length ≤ 17592186044400 := hdeep p (by rw [allP_eq]; exact List.mem_cons_self)
  have hna : nrm a = some (.vec (ints p)) := by
    rcases ha with ⟨rfl, rfl⟩ | ⟨rfl, -⟩
    · rfl
    · exact nrm_ints p
  have key : CallQ (cfg w) 71 [n.av, a, x] S fun x' S' => Acc x' (d ++ allP n p) S' ∧ St.Keep S S' := by
    refine call_of_W (fn71 w) rfl ?_
    simp only [Try.f71, List.length_cons, List.length_nil, ↓reduceIte, Int.reduceLT, Int.reduceLE, Int.reduceAdd, Int.reduceSub, Int.reduceNeg, Int.reduceMul, Int.reduceToNat, Int.reduceEq, Int.reduceNe, Int.reduceGT, Int.reduceGE, Nat.reducePow, IntKind.bits, Nat.reduceAdd, Nat.reduceSub, List.cons_append, List.nil_append]
    repeat with_reducible (first | refine E0 ?_ | refine E1 ?_ | refine E2 ?_ | refine E3 ?_ | refine E4 ?_ | refine E5 (by decide) ?_ | refine E6 ?_ | refine E7 ?_ | refine E8 ?_ | refine E9 ?_ | refine Ea ?_ | refine Eb ?_ | refine Ec ?_ | refine Ed ?_)
    refine W_region fun K hK => ?_
    simp only [KA, KB, KP, KQ, reduceCtorEq, ↓reduceIte, Int.reduceLT, Int.reduceLE, Int.reduceAdd, Int.reduceSub, Int.reduceNeg, Int.reduceMul, Int.reduceToNat, Int.reduceEq, Int.reduceNe, Int.reduceGT, Int.reduceGE, Nat.reducePow, Nat.reduceAdd, Nat.reduceSub, Nat.reduceLT, Nat.reduceMul, Nat.reduceDiv, Nat.reduceEqDiff, Nat.reduceLeDiff, KT w, hw.KF]
    refine hK _ _ ?_
    clear hK
    clear K
    repeat with_reducible (first | refine E0 ?_ | refine E1 ?_ | refine E2 ?_ | refine E3 ?_ | refine E4 ?_ | refine E5 (by decide) ?_ | refine E6 ?_ | refine E7 ?_ | refine E8 ?_ | refine E9 ?_ | refine Ea ?_ | refine Eb ?_ | refine Ec ?_ | refine Ed ?_)
    refine W_region fun K hK => ?_
    simp only [KA, KB, KP, KQ, reduceCtorEq, ↓reduceIte, Int.reduceLT, Int.reduceLE, Int.reduceAdd, Int.reduceSub, Int.reduceNeg, Int.reduceMul, Int.reduceToNat, Int.reduceEq, Int.reduceNe, Int.reduceGT, Int.reduceGE, Nat.reducePow, Nat.reduceAdd, Nat.reduceSub, Nat.reduceLT, Nat.reduceMul, Nat.reduceDiv, Nat.reduceEqDiff, Nat.reduceLeDiff, KT w, hw.KF]
    refine hK _ _ ?_
    clear hK
    clear K
    repeat with_reducible (first | refine E0 ?_ | refine E1 ?_ | refine E2 ?_ | refine E3 ?_ | refine E4 ?_ | refine E5 (by decide) ?_ | refine E6 ?_ | refine E7 ?_ | refine E8 ?_ | refine E9 ?_ | refine Ea ?_ | refine Eb ?_ | refine Ec ?_ | refine Ed ?_)
    have hcap : ∀ r : Rows, r.length + 1 = d.length → ((r.length + 1 + 1 + (r.length + 1 + 1) / 4 + 1000) * 24 ≤ 281474976710656) = True := fun r h => by simp; omega
    have hK1 : St.Keep S (S.push (.row n.cells false)) := St.Keep.push hok _
    have hg1 : (S.push (.row n.cells false)).get S.n = some (.row n.cells false) := St.get_pushe
    refine W.mono (Q := fun e fr S2 => e = .nrm ∧ ∃ (tm : List AV) (t2 : AV), fr = ⟨tm, [], none, 71⟩ ∧ tm.length = 33 ∧ tget tm 1 = a ∧ tget tm 2 = t2 ∧ tget tm 3 = .ptr S.n 0 ∧ Acc t2 (d ++ [p]) S2 ∧ St.Keep S S2 ∧ S2.get S.n = some (.row n.cells false)) ?_ ?_
    · rcases ha with ⟨rfl, rfl⟩ | ⟨rfl, hp0⟩ <;> rcases hx with ⟨rfl, rfl⟩ | ⟨y, r, o, g, rfl, hrl, hnr, hon, hto⟩
      · refine W_region fun K hK => ?_
        simp only [KA, KB, KP, KQ, reduceCtorEq, ↓reduceIte, Int.reduceLT, Int.reduceLE, Int.reduceAdd, Int.reduceSub, Int.reduceNeg, Int.reduceMul, Int.reduceToNat, Int.reduceEq, Int.reduceNe, Int.reduceGT, Int.reduceGE, Nat.reducePow, Nat.reduceAdd, Nat.reduceSub, Nat.reduceLT, Nat.reduceMul, Nat.reduceDiv, Nat.reduceEqDiff, Nat.reduceLeDiff, KT w, hw.KF, hok, hbs, splice, List.length_append]
        refine hK _ _ ?_
        clear hK
        clear K
        refine ⟨rfl, _, .own [[.nils]] (S.n + 1) 0, rfl, by simp only [KA, KP, KQ, reduceCtorEq, ↓reduceIte, Int.reduceLT, Int.reduceLE, Int.reduceAdd, Int.reduceSub, Int.reduceNeg, Int.reduceMul, Int.reduceToNat, Int.reduceEq, Int.reduceNe, Int.reduceGT, Int.reduceGE, Nat.reducePow, Nat.reduceAdd, Nat.reduceSub, Nat.reduceLT, Nat.reduceMul, Nat.reduceDiv, Nat.reduceEqDiff, Nat.reduceLeDiff, KT w, hw.KF], by simp only [KA, KP, KQ, reduceCtorEq, ↓reduceIte, Int.reduceLT, Int.reduceLE, Int.reduceAdd, Int.reduceSub, Int.reduceNeg, Int.reduceMul, Int.reduceToNat, Int.reduceEq, Int.reduceNe, Int.reduceGT, Int.reduceGE, Nat.reducePow, Nat.reduceAdd, Nat.reduceSub, Nat.reduceLT, Nat.reduceMul, Nat.reduceDiv, Nat.reduceEqDiff, Nat.reduceLeDiff, KT w, hw.KF], by simp only [KA, KP, KQ, reduceCtorEq, ↓reduceIte, Int.reduceLT, Int.reduceLE, Int.reduceAdd, Int.reduceSub, Int.reduceNeg, Int.reduceMul, Int.reduceToNat, Int.reduceEq, Int.reduceNe, Int.reduceGT, Int.reduceGE, Nat.reducePow, Nat.reduceAdd, Nat.reduceSub, Nat.reduceLT, Nat.reduceMul, Nat.reduceDiv, Nat.reduceEqDiff, Nat.reduceLeDiff, KT w, hw.KF], by simp only [KA, KP, KQ, reduceCtorEq, ↓reduceIte, Int.reduceLT, Int.reduceLE, Int.reduceAdd, Int.reduceSub, Int.reduceNeg, Int.reduceMul, Int.reduceToNat, Int.reduceEq, Int.reduceNe, Int.reduceGT, Int.reduceGE, Nat.reducePow, Nat.reduceAdd, Nat.reduceSub, Nat.reduceLT, Nat.reduceMul, Nat.reduceDiv, Nat.reduceEqDiff, Nat.reduceLeDiff, KT w, hw.KF], ?_, ?_, ?_⟩
        · exact acc1 rfl (by simp only [St.pushN]; omega) (St.get_pushq (by simp only [St.pushN]))
        · exact hK1.trans (.push hK1.ok _)
        · rw [St.get_pushn (by simp only [St.pushN]; omega)]; exact hg1
      · have hon' : (o = S.n) = False := by simp; omega
        have hle : (S.n ≤ o) = False := by simp; omega
        have hcap := hcap r hrl
        refine W_region fun K hK => ?_
        simp only [KA, KB, KP, KQ, reduceCtorEq, ↓reduceIte, Int.reduceLT, Int.reduceLE, Int.reduceAdd, Int.reduceSub, Int.reduceNeg, Int.reduceMul, Int.reduceToNat, Int.reduceEq, Int.reduceNe, Int.reduceGT, Int.reduceGE, Nat.reducePow, Nat.reduceAdd, Nat.reduceSub, Nat.reduceLT, Nat.reduceMul, Nat.reduceDiv, Nat.reduceEqDiff, Nat.reduceLeDiff, KT w, hw.KF, hok, hbs, splice, List.length_append, hto, hon, hon', hle, hcap, List.isEmpty_cons]
        refine hK _ _ ?_
        clear hK
        clear K
        refine ⟨rfl, _, .own ([y] :: (r ++ [[.nils]])) o (g + 1), rfl, by simp only [KA, KP, KQ, reduceCtorEq, ↓reduceIte, Int.reduceLT, Int.reduceLE, Int.reduceAdd, Int.reduceSub, Int.reduceNeg, Int.reduceMul, Int.reduceToNat, Int.reduceEq, Int.reduceNe, Int.reduceGT, Int.reduceGE, Nat.reducePow, Nat.reduceAdd, Nat.reduceSub, Nat.reduceLT, Nat.reduceMul, Nat.reduceDiv, Nat.reduceEqDiff, Nat.reduceLeDiff, KT w, hw.KF], by simp only [KA, KP, KQ, reduceCtorEq, ↓reduceIte, Int.reduceLT, Int.reduceLE, Int.reduceAdd, Int.reduceSub, Int.reduceNeg, Int.reduceMul, Int.reduceToNat, Int.reduceEq, Int.reduceNe, Int.reduceGT, Int.reduceGE, Nat.reducePow, Nat.reduceAdd, Nat.reduceSub, Nat.reduceLT, Nat.reduceMul, Nat.reduceDiv, Nat.reduceEqDiff, Nat.reduceLeDiff, KT w, hw.KF], by simp only [KA, KP, KQ, reduceCtorEq, ↓reduceIte, Int.reduceLT, Int.reduceLE, Int.reduceAdd, Int.reduceSub, Int.reduceNeg, Int.reduceMul, Int.reduceToNat, Int.reduceEq, Int.reduceNe, Int.reduceGT, Int.reduceGE, Nat.reducePow, Nat.reduceAdd, Nat.reduceSub, Nat.reduceLT, Nat.reduceMul, Nat.reduceDiv, Nat.reduceEqDiff, Nat.reduceLeDiff, KT w, hw.KF], by simp only [KA, KP, KQ, reduceCtorEq, ↓reduceIte, Int.reduceLT, Int.reduceLE, Int.reduceAdd, Int.reduceSub, Int.reduceNeg, Int.reduceMul, Int.reduceToNat, Int.reduceEq, Int.reduceNe, Int.reduceGT, Int.reduceGE, Nat.reducePow, Nat.reduceAdd, Nat.reduceSub, Nat.reduceLT, Nat.reduceMul, Nat.reduceDiv, Nat.reduceEqDiff, Nat.reduceLeDiff, KT w, hw.KF], ?_, ?_, ?_⟩
        · exact acc2 rfl hrl hnr (by simp only [St.pushN, St.setN]; omega) (by rw [St.get_pushn (by simp only [St.setN]; omega), St.get_sete hok hon])
        · exact (keep_tail hok hon hto).trans (.push (St.ok_set hok) _)
        · exact St.get_pushq (by simp only [St.setN])
      · obtain ⟨z, q, rfl⟩ : ∃ z q, p = z :: q := by cases p with | nil => exact absurd rfl hp0 | cons z q => exact ⟨z, q, rfl⟩
        have hcq : ((q.length + 1 + (q.length + 1) / 4 + 1000) * 8 ≤ 281474976710656) = True := by simp at hpl ⊢; omega
        simp only [ints, List.map_cons]
        refine W_region fun K hK => ?_
        simp only [KA, KB, KP, KQ, reduceCtorEq, ↓reduceIte, Int.reduceLT, Int.reduceLE, Int.reduceAdd, Int.reduceSub, Int.reduceNeg, Int.reduceMul, Int.reduceToNat, Int.reduceEq, Int.reduceNe, Int.reduceGT, Int.reduceGE, Nat.reducePow, Nat.reduceAdd, Nat.reduceSub, Nat.reduceLT, Nat.reduceMul, Nat.reduceDiv, Nat.reduceEqDiff, Nat.reduceLeDiff, KT w, hw.KF, hok, hbs, splice, List.length_append, List.length_map, hcq]
        refine hK _ _ ?_
        clear hK
        clear K
        refine ⟨rfl, _, .own [[.own ([AV.int IntKind.i64 z] :: List.map (fun x => [AV.int IntKind.i64 x]) q) (S.n + 1) 0]] (S.n + 1 + 1) 0, rfl, by simp only [KA, KP, KQ, reduceCtorEq, ↓reduceIte, Int.reduceLT, Int.reduceLE, Int.reduceAdd, Int.reduceSub, Int.reduceNeg, Int.reduceMul, Int.reduceToNat, Int.reduceEq, Int.reduceNe, Int.reduceGT, Int.reduceGE, Nat.reducePow, Nat.reduceAdd, Nat.reduceSub, Nat.reduceLT, Nat.reduceMul, Nat.reduceDiv, Nat.reduceEqDiff, Nat.reduceLeDiff, KT w, hw.KF], by simp only [KA, KP, KQ, reduceCtorEq, ↓reduceIte, Int.reduceLT, Int.reduceLE, Int.reduceAdd, Int.reduceSub, Int.reduceNeg, Int.reduceMul, Int.reduceToNat, Int.reduceEq, Int.reduceNe, Int.reduceGT, Int.reduceGE, Nat.reducePow, Nat.reduceAdd, Nat.reduceSub, Nat.reduceLT, Nat.reduceMul, Nat.reduceDiv, Nat.reduceEqDiff, Nat.reduceLeDiff, KT w, hw.KF], by simp only [KA, KP, KQ, reduceCtorEq, ↓reduceIte, Int.reduceLT, Int.reduceLE, Int.reduceAdd, Int.reduceSub, Int.reduceNeg, Int.reduceMul, Int.reduceToNat, Int.reduceEq, Int.reduceNe, Int.reduceGT, Int.reduceGE, Nat.reducePow, Nat.reduceAdd, Nat.reduceSub, Nat.reduceLT, Nat.reduceMul, Nat.reduceDiv, Nat.reduceEqDiff, Nat.reduceLeDiff, KT w, hw.KF], by simp only [KA, KP, KQ, reduceCtorEq, ↓reduceIte, Int.reduceLT, Int.reduceLE, Int.reduceAdd, Int.reduceSub, Int.reduceNeg, Int.reduceMul, Int.reduceToNat, Int.reduceEq, Int.reduceNe, Int.reduceGT, Int.reduceGE, Nat.reducePow, Nat.reduceAdd, Nat.reduceSub, Nat.reduceLT, Nat.reduceMul, Nat.reduceDiv, Nat.reduceEqDiff, Nat.reduceLeDiff, KT w, hw.KF], ?_, ?_, ?_⟩
        · exact acc1 (p := z :: q) (nrm_own (z :: q) _ _) (by simp only [St.pushN]; omega) (St.get_pushq (by simp only [St.pushN]))
        · exact (hK1.trans (.push hK1.ok _)).trans (.push (St.ok_push hK1.ok) _)
        · rw [St.get_pushn (by simp only [St.pushN]; omega), St.get_pushn (by simp only [St.pushN]; omega)]; exact hg1
      · have hon' : (o = S.n) = False := by simp; omega
        have hon2 : (o = S.n + 1) = False := by simp; omega
        have hle : (S.n ≤ o) = False := by simp; omega
        have hle2 : (S.n + 1 ≤ o) = False := by simp; omega
        have hcap := hcap r hrl
        obtain ⟨z, q, rfl⟩ : ∃ z q, p = z :: q := by cases p with | nil => exact absurd rfl hp0 | cons z q => exact ⟨z, q, rfl⟩
        have hcq : ((q.length + 1 + (q.length + 1) / 4 + 1000) * 8 ≤ 281474976710656) = True := by simp at hpl ⊢; omega
        simp only [ints, List.map_cons]
        refine W_region fun K hK => ?_
        simp only [KA, KB, KP, KQ, reduceCtorEq, ↓reduceIte, Int.reduceLT, Int.reduceLE, Int.reduceAdd, Int.reduceSub, Int.reduceNeg, Int.reduceMul, Int.reduceToNat, Int.reduceEq, Int.reduceNe, Int.reduceGT, Int.reduceGE, Nat.reducePow, Nat.reduceAdd, Nat.reduceSub, Nat.reduceLT, Nat.reduceMul, Nat.reduceDiv, Nat.reduceEqDiff, Nat.reduceLeDiff, KT w, hw.KF, hok, hbs, splice, List.length_append, List.length_map, hcq, hto, hon, hon', hon2, hle, hle2, hcap, List.isEmpty_cons]
        refine hK _ _ ?_
        clear hK
        clear K
        refine ⟨rfl, _, .own ([y] :: (r ++ [[.own ([AV.int IntKind.i64 z] :: List.map (fun x => [AV.int IntKind.i64 x]) q) (S.n + 1) 0]])) o (g + 1), rfl, by simp only [KA, KP, KQ, reduceCtorEq, ↓reduceIte, Int.reduceLT, Int.reduceLE, Int.reduceAdd, Int.reduceSub, Int.reduceNeg, Int.reduceMul, Int.reduceToNat, Int.reduceEq, Int.reduceNe, Int.reduceGT, Int.reduceGE, Nat.reducePow, Nat.reduceAdd, Nat.reduceSub, Nat.reduceLT, Nat.reduceMul, Nat.reduceDiv, Nat.reduceEqDiff, Nat.reduceLeDiff, KT w, hw.KF], by simp only [KA, KP, KQ, reduceCtorEq, ↓reduceIte, Int.reduceLT, Int.reduceLE, Int.reduceAdd, Int.reduceSub, Int.reduceNeg, Int.reduceMul, Int.reduceToNat, Int.reduceEq, Int.reduceNe, Int.reduceGT, Int.reduceGE, Nat.reducePow, Nat.reduceAdd, Nat.reduceSub, Nat.reduceLT, Nat.reduceMul, Nat.reduceDiv, Nat.reduceEqDiff, Nat.reduceLeDiff, KT w, hw.KF], by simp only [KA, KP, KQ, reduceCtorEq, ↓reduceIte, Int.reduceLT, Int.reduceLE, Int.reduceAdd, Int.reduceSub, Int.reduceNeg, Int.reduceMul, Int.reduceToNat, Int.reduceEq, Int.reduceNe, Int.reduceGT, Int.reduceGE, Nat.reducePow, Nat.reduceAdd, Nat.reduceSub, Nat.reduceLT, Nat.reduceMul, Nat.reduceDiv, Nat.reduceEqDiff, Nat.reduceLeDiff, KT w, hw.KF], by simp only [KA, KP, KQ, reduceCtorEq, ↓reduceIte, Int.reduceLT, Int.reduceLE, Int.reduceAdd, Int.reduceSub, Int.reduceNeg, Int.reduceMul, Int.reduceToNat, Int.reduceEq, Int.reduceNe, Int.reduceGT, Int.reduceGE, Nat.reducePow, Nat.reduceAdd, Nat.reduceSub, Nat.reduceLT, Nat.reduceMul, Nat.reduceDiv, Nat.reduceEqDiff, Nat.reduceLeDiff, KT w, hw.KF], ?_, ?_, ?_⟩
        · exact acc2 (p := z :: q) (nrm_own (z :: q) _ _) hrl hnr (by simp only [St.pushN, St.setN]; omega) (by rw [St.get_pushn (by simp only [St.pushN, St.setN]; omega), St.get_pushn (by simp only [St.setN]; omega), St.get_sete hok hon])
        · exact ((keep_tail hok hon hto).trans (.push (St.ok_set hok) _)).trans (.push (St.ok_push (St.ok_set hok)) _)
        · rw [St.get_pushn (by simp only [St.pushN, St.setN]; omega)]; exact St.get_pushq (by simp only [St.setN])
    · rintro e fr S2 ⟨rfl, tm, t2, rfl, htm, h1, h2, h3, hA, hK, hg⟩
      clear hcap hK1 hg1 hx
      repeat with_reducible (first | refine E0 ?_ | refine E1 ?_ | refine E2 ?_ | refine E3 ?_ | refine E4 ?_ | refine E5 (by decide) ?_ | refine E6 ?_ | refine E7 ?_ | refine E8 ?_ | refine E9 ?_ | refine Ea ?_ | refine Eb ?_ | refine Ec ?_ | refine Ed ?_)
      refine W_region fun K hK => ?_
      simp only [KA, KB, KP, KQ, reduceCtorEq, ↓reduceIte, Int.reduceLT, Int.reduceLE, Int.reduceAdd, Int.reduceSub, Int.reduceNeg, Int.reduceMul, Int.reduceToNat, Int.reduceEq, Int.reduceNe, Int.reduceGT, Int.reduceGE, Nat.reducePow, Nat.reduceAdd, Nat.reduceSub, Nat.reduceLT, Nat.reduceMul, Nat.reduceDiv, Nat.reduceEqDiff, Nat.reduceLeDiff, KT w, hw.KF, htm]
      refine hK _ _ ?_
      clear hK
      clear K
      repeat with_reducible (first | refine E0 ?_ | refine E1 ?_ | refine E2 ?_ | refine E3 ?_ | refine E4 ?_ | refine E5 (by decide) ?_ | refine E6 ?_ | refine E7 ?_ | refine E8 ?_ | refine E9 ?_ | refine Ea ?_ | refine Eb ?_ | refine Ec ?_ | refine Ed ?_)
      refine W_loop (fun k fr T' => ∃ (tm : List AV) (i : Nat) (t2 : AV) (d' : List (List Int)), fr = ⟨tm, [], none, 71⟩ ∧ k = n.kids.length - i ∧ i ≤ n.kids.length ∧ Acc t2 d' T' ∧ d' ++ allL (n.kids.drop i) p i = d ++ allP n p ∧ (∀ q ∈ allL (n.kids.drop i) p i, q.length ≤ 17592186044400) ∧ St.Keep S T' ∧ T'.get S.n = some (.row n.cells false) ∧
       tm.length = 33 ∧ tget tm 1 = a ∧ tget tm 2 = t2 ∧ tget tm 3 = .ptr S.n 0 ∧ tget tm 8 = .int .i64 i) n.kids.length
        ⟨_, 0, t2, d ++ [p], rfl, rfl, Nat.zero_le _, hA, by rw [allP_eq]; simp, fun q hq => hdeep q (by rw [allP_eq]; exact List.mem_cons_of_mem _ hq), hK, hg, ?_⟩ ?_
      · simp only [KA, KP, KQ, reduceCtorEq, ↓reduceIte, Int.reduceLT, Int.reduceLE, Int.reduceAdd, Int.reduceSub, Int.reduceNeg, Int.reduceMul, Int.reduceToNat, Int.reduceEq, Int.reduceNe, Int.reduceGT, Int.reduceGE, Nat.reducePow, Nat.reduceAdd, Nat.reduceSub, Nat.reduceLT, Nat.reduceMul, Nat.reduceDiv, Nat.reduceEqDiff, Nat.reduceLeDiff, KT w, hw.KF, htm, h1, h2, h3, Int.ofNat_zero]
      clear hA hK hg h1 h2 h3 htm
      rintro k fr T' ⟨tm, i, t2, d', rfl, rfl, hi, hA, hall, hdp, hK, hg, htm, h1, h2, h3, h8⟩
      have hkl := Node.ok_kids hn
      repeat with_reducible (first | refine E0 ?_ | refine E1 ?_ | refine E2 ?_ | refine E3 ?_ | refine E4 ?_ | refine E5 (by decide) ?_ | refine E6 ?_ | refine E7 ?_ | refine E8 ?_ | refine E9 ?_ | refine Ea ?_ | refine Eb ?_ | refine Ec ?_ | refine Ed ?_)
      refine W_region fun K hK => ?_
      simp only [KA, KB, KP, KQ, reduceCtorEq, ↓reduceIte, Int.reduceLT, Int.reduceLE, Int.reduceAdd, Int.reduceSub, Int.reduceNeg, Int.reduceMul, Int.reduceToNat, Int.reduceEq, Int.reduceNe, Int.reduceGT, Int.reduceGE, Nat.reducePow, Nat.reduceAdd, Nat.reduceSub, Nat.reduceLT, Nat.reduceMul, Nat.reduceDiv, Nat.reduceEqDiff, Nat.reduceLeDiff, KT w, hw.KF, htm, h3, h8, hg]
      refine hK _ _ ?_
      clear hK
      clear K
      repeat with_reducible (first | refine E0 ?_ | refine E1 ?_ | refine E2 ?_ | refine E3 ?_ | refine E4 ?_ | refine E5 (by decide) ?_ | refine E6 ?_ | refine E7 ?_ | refine E8 ?_ | refine E9 ?_ | refine Ea ?_ | refine Eb ?_ | refine Ec ?_ | refine Ed ?_)
      refine W_condP (p := _) (by simp only [KA, KP, KQ, reduceCtorEq, ↓reduceIte, Int.reduceLT, Int.reduceLE, Int.reduceAdd, Int.reduceSub, Int.reduceNeg, Int.reduceMul, Int.reduceToNat, Int.reduceEq, Int.reduceNe, Int.reduceGT, Int.reduceGE, Nat.reducePow, Nat.reduceAdd, Nat.reduceSub, Nat.reduceLT, Nat.reduceMul, Nat.reduceDiv, Nat.reduceEqDiff, Nat.reduceLeDiff, KT w, hw.KF, htm]; rfl) (fun hb => ?_) (fun hb => ?_)
      · obtain ⟨c, hc⟩ := get_of_lt (l := n.kids) (i := i) (by omega)
        rw [drop_of_get hc, allL] at hall hdp
        have e1 : IntKind.i64.wrap ((i : Int) + 1) = (i : Int) + 1 := i64_in _ (by omega)
        have hwith := PC_nrm (args := [a, .int .i64 i]) hw.e78 hw.m78 (by simp [nrmA, hna, nrm]) (by simp [nrmA, nrm, nrmR_ints]) (with78_ok hw.toStd p i (by omega))
        have hN' : d'.length + (allP c (p ++ [(i : Int)])).length ≤ 1000000 := by have := congrArg List.length hall; simp only [List.length_append] at this; omega
        obtain ⟨x', S2, hc2, hA2, hK2⟩ := ih c (List.mem_of_getElem? hc) (Node.ok_kid hn c (List.mem_of_getElem? hc)) (p ++ [(i : Int)]) (.vec (ints (p ++ [(i : Int)]))) t2 d' T' (.inr ⟨rfl, by simp⟩)
          (fun q hq => hdp q (List.mem_append_left _ hq)) hN' hA hK.ok (hK.base.trans hbs)
        rw [← callF_raw (c := cfg w) hw.e71 hw.m71] at hc2
        repeat with_reducible (first | refine E0 ?_ | refine E1 ?_ | refine E2 ?_ | refine E3 ?_ | refine E4 ?_ | refine E5 (by decide) ?_ | refine E6 ?_ | refine E7 ?_ | refine E8 ?_ | refine E9 ?_ | refine Ea ?_ | refine Eb ?_ | refine Ec ?_ | refine Ed ?_)
        refine W_regionD [[], [0], [], [1, 0, 2], [3, 1, 0, 2], [], [], [5, 6], [], [4, 3, 1, 0, 2, 7, 5, 6, 8], [9, 4, 3, 1, 0, 2, 7, 5, 6, 8]] (by decide +kernel) (by decide +kernel) (by decide +kernel) fun K hK => ?_
        simp only [KA, KB, KP, KQ, reduceCtorEq, ↓reduceIte, Int.reduceLT, Int.reduceLE, Int.reduceAdd, Int.reduceSub, Int.reduceNeg, Int.reduceMul, Int.reduceToNat, Int.reduceEq, Int.reduceNe, Int.reduceGT, Int.reduceGE, Nat.reducePow, Nat.reduceAdd, Nat.reduceSub, Nat.reduceLT, Nat.reduceMul, Nat.reduceDiv, Nat.reduceEqDiff, Nat.reduceLeDiff, KT w, hw.KF, A58, A59, A5a, A5b, A5c, A5d, A5e, A5f, A5g, A5h, A5i, opP, rfoot, refsO, refs, wfoot, A5j, A5k, noisyOk, pairOk, Foot.isQuiet, Foot.apart, Ft.apart, Foot.none, A5l, A5m, A48, A49, A5n, A5o, A5p, A5q, Nat.reduceBEq, htm, h1, h2, h3, h8, hg, hc, hwith, hc2, hna, Foot.big, opX_raw (c := cfg w) hw.e71 hw.m71]
        refine hK _ _ ?_
        clear hK
        clear K
        repeat with_reducible (first | refine E0 ?_ | refine E1 ?_ | refine E2 ?_ | refine E3 ?_ | refine E4 ?_ | refine E5 (by decide) ?_ | refine E6 ?_ | refine E7 ?_ | refine E8 ?_ | refine E9 ?_ | refine Ea ?_ | refine Eb ?_ | refine Ec ?_ | refine Ed ?_)
        refine W_region fun K hK => ?_
        simp only [KA, KB, KP, KQ, reduceCtorEq, ↓reduceIte, Int.reduceLT, Int.reduceLE, Int.reduceAdd, Int.reduceSub, Int.reduceNeg, Int.reduceMul, Int.reduceToNat, Int.reduceEq, Int.reduceNe, Int.reduceGT, Int.reduceGE, Nat.reducePow, Nat.reduceAdd, Nat.reduceSub, Nat.reduceLT, Nat.reduceMul, Nat.reduceDiv, Nat.reduceEqDiff, Nat.reduceLeDiff, KT w, hw.KF, htm, h8, e1]
        refine hK _ _ ?_
        clear hK
        clear K
        refine ⟨n.kids.length - (i + 1), by omega, _, i + 1, x', _, rfl, rfl, by omega, hA2, by rw [← hall, List.append_assoc], fun q hq => hdp q (List.mem_append_right _ hq), hK.trans hK2, hK2.get _ _ (Nat.lt_of_lt_of_le (by rcases Nat.lt_or_ge S.n T'.n with h | h; exact h; rw [St.get_ge h] at hg; cases hg) (Nat.le_refl _)) hg, ?_⟩
        simp only [KA, KP, KQ, reduceCtorEq, ↓reduceIte, Int.reduceLT, Int.reduceLE, Int.reduceAdd, Int.reduceSub, Int.reduceNeg, Int.reduceMul, Int.reduceToNat, Int.reduceEq, Int.reduceNe, Int.reduceGT, Int.reduceGE, Nat.reducePow, Nat.reduceAdd, Nat.reduceSub, Nat.reduceLT, Nat.reduceMul, Nat.reduceDiv, Nat.reduceEqDiff, Nat.reduceLeDiff, KT w, hw.KF, htm, h1, h2, h3, h8, Int.natCast_add, A3z]
      · repeat with_reducible (first | refine E0 ?_ | refine E1 ?_ | refine E2 ?_ | refine E3 ?_ | refine E4 ?_ | refine E5 (by decide) ?_ | refine E6 ?_ | refine E7 ?_ | refine E8 ?_ | refine E9 ?_ | refine Ea ?_ | refine Eb ?_ | refine Ec ?_ | refine Ed ?_)
        refine W_region fun K hK => ?_
        simp only [KA, KB, KP, KQ, reduceCtorEq, ↓reduceIte, Int.reduceLT, Int.reduceLE, Int.reduceAdd, Int.reduceSub, Int.reduceNeg, Int.reduceMul, Int.reduceToNat, Int.reduceEq, Int.reduceNe, Int.reduceGT, Int.reduceGE, Nat.reducePow, Nat.reduceAdd, Nat.reduceSub, Nat.reduceLT, Nat.reduceMul, Nat.reduceDiv, Nat.reduceEqDiff, Nat.reduceLeDiff, KT w, hw.KF, htm, h2]
        refine hK _ _ ?_
        clear hK
        clear K
        repeat with_reducible (first | refine E0 ?_ | refine E1 ?_ | refine E2 ?_ | refine E3 ?_ | refine E4 ?_ | refine E5 (by decide) ?_ | refine E6 ?_ | refine E7 ?_ | refine E8 ?_ | refine E9 ?_ | refine Ea ?_ | refine Eb ?_ | refine Ec ?_ | refine Ed ?_)
        refine AtEnd_of rfl ?_
        simp only [KA, KP, KQ, reduceCtorEq, ↓reduceIte, Int.reduceLT, Int.reduceLE, Int.reduceAdd, Int.reduceSub, Int.reduceNeg, Int.reduceMul, Int.reduceToNat, Int.reduceEq, Int.reduceNe, Int.reduceGT, Int.reduceGE, Nat.reducePow, Nat.reduceAdd, Nat.reduceSub, Nat.reduceLT, Nat.reduceMul, Nat.reduceDiv, Nat.reduceEqDiff, Nat.reduceLeDiff, KT w, hw.KF, htm, RS_some, aresults_nil, aresults_tmp, aresults_cell, one]
        rw [List.drop_eq_nil_of_le (by omega), allL, List.append_nil] at hall
        rw [← hall]
        exact ⟨hA, hK⟩
  obtain ⟨x', S', h1, h2, h3⟩ := key
  exact ⟨x', S', h1, h2, h3⟩

theorem all29_ok (hw : Std1 w) (n : Node) (hn : n.ok) (hdeep : Deep 17592186044400 n []) (hN : (allP n []).length ≤ 1000000) : PC (cfg w) 29 [n.av] (.vec (paths (allP n []))) := by
  refine PC_of (args' := [n.av]) hw.e29 hw.m29 (by simp [nrmA, nrm, Node.nrm_all]) ?_
  obtain ⟨x', S', h1, h2, h3⟩ := all71_ok hw n hn [] .nils .nils [] (St.nil.push (.row n.cells false)) (.inl ⟨rfl, rfl⟩) hdeep (by simpa using hN) (.inl ⟨rfl, rfl⟩) (St.ok_push St.ok_nil) rfl
  rw [← callF_raw (c := cfg w) hw.e71 hw.m71] at h1
  rw [List.nil_append] at h2
  refine call_of_W (fn29 w) rfl ?_
  simp only [Try.f29, List.length_cons, List.length_nil, ↓reduceIte, Int.reduceLT, Int.reduceLE, Int.reduceAdd, Int.reduceSub, Int.reduceNeg, Int.reduceMul, Int.reduceToNat, Int.reduceEq, Int.reduceNe, Int.reduceGT, Int.reduceGE, Nat.reducePow, IntKind.bits, Nat.reduceAdd, Nat.reduceSub, List.cons_append, List.nil_append]
  repeat with_reducible (first | refine E0 ?_ | refine E1 ?_ | refine E2 ?_ | refine E3 ?_ | refine E4 ?_ | refine E5 (by decide) ?_ | refine E6 ?_ | refine E7 ?_ | refine E8 ?_ | refine E9 ?_ | refine Ea ?_ | refine Eb ?_ | refine Ec ?_ | refine Ed ?_)
  refine W_region fun K hK => ?_
  simp only [KA, KB, KP, KQ, reduceCtorEq, ↓reduceIte, Int.reduceLT, Int.reduceLE, Int.reduceAdd, Int.reduceSub, Int.reduceNeg, Int.reduceMul, Int.reduceToNat, Int.reduceEq, Int.reduceNe, Int.reduceGT, Int.reduceGE, Nat.reducePow, Nat.reduceAdd, Nat.reduceSub, Nat.reduceLT, Nat.reduceMul, Nat.reduceDiv, Nat.reduceEqDiff, Nat.reduceLeDiff, KT w, hw.KF]
  refine hK _ _ ?_
  clear hK
  clear K
  repeat with_reducible (first | refine E0 ?_ | refine E1 ?_ | refine E2 ?_ | refine E3 ?_ | refine E4 ?_ | refine E5 (by decide) ?_ | refine E6 ?_ | refine E7 ?_ | refine E8 ?_ | refine E9 ?_ | refine Ea ?_ | refine Eb ?_ | refine Ec ?_ | refine Ed ?_)
  refine W_region fun K hK => ?_
  simp only [KA, KB, KP, KQ, reduceCtorEq, ↓reduceIte, Int.reduceLT, Int.reduceLE, Int.reduceAdd, Int.reduceSub, Int.reduceNeg, Int.reduceMul, Int.reduceToNat, Int.reduceEq, Int.reduceNe, Int.reduceGT, Int.reduceGE, Nat.reducePow, Nat.reduceAdd, Nat.reduceSub, Nat.reduceLT, Nat.reduceMul, Nat.reduceDiv, Nat.reduceEqDiff, Nat.reduceLeDiff, KT w, hw.KF, h1]
  refine hK _ _ ?_
  clear hK
  clear K
  repeat with_reducible (first | refine E0 ?_ | refine E1 ?_ | refine E2 ?_ | refine E3 ?_ | refine E4 ?_ | refine E5 (by decide) ?_ | refine E6 ?_ | refine E7 ?_ | refine E8 ?_ | refine E9 ?_ | refine Ea ?_ | refine Eb ?_ | refine Ec ?_ | refine Ed ?_)
  refine AtEnd_of rfl ?_
  simp only [KA, KP, KQ, reduceCtorEq, ↓reduceIte, Int.reduceLT, Int.reduceLE, Int.reduceAdd, Int.reduceSub, Int.reduceNeg, Int.reduceMul, Int.reduceToNat, Int.reduceEq, Int.reduceNe, Int.reduceGT, Int.reduceGE, Nat.reducePow, Nat.reduceAdd, Nat.reduceSub, Nat.reduceLT, Nat.reduceMul, Nat.reduceDiv, Nat.reduceEqDiff, Nat.reduceLeDiff, KT w, hw.KF, RS_some, aresults_nil, aresults_tmp, aresults_cell, one]
  rcases h2 with ⟨h, -⟩ | ⟨y, r, o, g, rfl, -, hr, -, -⟩
  · rw [allP_eq] at h; cases h
  · exact FZ_plain (by simp [nrm, hr]) (fun vs h => by cases h)
end Go.Am.B
