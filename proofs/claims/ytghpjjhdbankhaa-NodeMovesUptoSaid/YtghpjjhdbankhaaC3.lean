/- PATHS: UP. -/
import Derived.Test.YtghpjjhdbankhaaC2
set_option linter.unusedSimpArgs false
set_option linter.unusedVariables false
set_option maxRecDepth 20000
namespace Go.Am.B
open Go.Proofs Go.IntWalk

variable {w : Ways}

/-- A row of numbers, as it may lie in the hand. -/
def IsI (a : AV) (p : List Int) : Prop := a = .vec (ints p) ∨ (∃ o g, a = .own (ints p) o g) ∨ a = .lit (ints p) ∨ (a = .nils ∧ p = [])
theorem IsI.nrm {a : AV} {p : List Int} (h : IsI a p) : nrm a = some (.vec (ints p)) := by
  rcases h with rfl | ⟨o, g, rfl⟩ | rfl | ⟨rfl, rfl⟩
  · exact nrm_ints p
  · simp [Am.nrm, nrmR_ints]
  · simp [Am.nrm, nrmR_ints]
  · rfl

end Go.Am.B
namespace Go.Am
/-- Memory grew; what was there is as it was. -/
structure St.Ext (S S' : St) : Prop where
  ok : S.ok → S'.ok
  base : S'.base = S.base
  n : S.n ≤ S'.n
  get : ∀ o, o < S.n → S'.get o = S.get o
theorem St.Ext.refl (S : St) : S.Ext S := ⟨id, rfl, Nat.le_refl _, fun _ _ => rfl⟩
theorem St.Ext.push {S S' : St} (h : S.Ext S') (o : AObj) : S.Ext (S'.push o) :=
  ⟨fun k => St.ok_push (h.ok k), h.base, Nat.le_trans h.n (Nat.le_succ _), fun i hi => by rw [St.get_pushn (by have := h.n; omega)]; exact h.get i hi⟩

end Go.Am
namespace Go.Am.B
open Go.Proofs Go.IntWalk
variable {w : Ways}
def up (n : Node) (p : List Int) : Option (List Int) := if (find n p).isSome then (match p with | [] => none | _ => some p.dropLast) else none

/-- What is told of a path's parent besides: one may append to it. -/
def AppU (n : Node) (p : List Int) (b : AV) (S S' : St) : Prop := ∀ q, up n p = some q → ∃ ob, S' = (S.push (.row n.cells false)).push ob ∧ ((q = [] ∧ b = .lit []) ∨ (q ≠ [] ∧ b = .own (ints q) (S.n + 1) 0 ∧ ob = .tail 0))

theorem list_snoc {α : Type} (l : List α) : l = [] ∨ ∃ q x, l = q ++ [x] := by
  rcases List.eq_nil_or_concat l with h | ⟨q, x, h⟩
  · exact .inl h
  · exact .inr ⟨q, x, by simpa using h⟩

theorem up_ok (hw : Std1 w) (hc : CloneOk w) (n : Node) (p : List Int) (a : AV) (ha : IsI a p) (hp : p.length ≤ 17592186044416) (S : St) (hS : S.ok) (hb : S.base ≤ S.n) :
    ∃ b S', callF (cfg w) (lim (cfg w)) 37 [n.av, a] S = some (.tup [b, .bool (up n p).isSome], S') ∧ IsI b ((up n p).getD []) ∧ S.Ext S' ∧ AppU n p b S S' := by
  have hth := there_ok hw n p (by omega)
  have hth' : PC (cfg w) 76 [n.av, a] (thereT (find n p) p) := PC_nrm hw.e76 hw.m76 (by simp [nrmA, ha.nrm, nrm, Node.nrm_all]) (by simp [nrmA, nrm, nrmR_ints, Node.nrm_all]) hth
  unfold thereT at hth'
  rw [callF_raw (c := cfg w) hw.e37 hw.m37]
  have key : CallQ (cfg w) 37 [n.av, a] S fun v S' => ∃ b, v = .tup [b, .bool (up n p).isSome] ∧ IsI b ((up n p).getD []) ∧ S.Ext S' ∧ AppU n p b S S' := by
    generalize hr : find n p = r at hth'
    have hlen : alen (cfg w) (S.push (.row n.cells false)) 39 a = some (.int .i64 p.length) := by
      unfold alen
      rw [Tk39]
      rcases ha with rfl | ⟨o, g, rfl⟩ | rfl | ⟨rfl, rfl⟩ <;> simp [ints]
    refine call_of_W (fn37 w) rfl ?_
    simp only [Try.f37, List.length_cons, List.length_nil, ↓reduceIte, Int.reduceLT, Int.reduceLE, Int.reduceAdd, Int.reduceSub, Int.reduceNeg, Int.reduceMul, Int.reduceToNat, Int.reduceEq, Int.reduceNe, Int.reduceGT, Int.reduceGE, Nat.reducePow, IntKind.bits, Nat.reduceAdd, Nat.reduceSub, List.cons_append, List.nil_append]
    repeat with_reducible (first | refine E0 ?_ | refine E1 ?_ | refine E2 ?_ | refine E3 ?_ | refine E4 ?_ | refine E5 (by decide) ?_ | refine E6 ?_ | refine E7 ?_ | refine E8 ?_ | refine E9 ?_ | refine Ea ?_ | refine Eb ?_ | refine Ec ?_ | refine Ed ?_)
    refine W_region fun K hK => ?_
    simp only [KA, KB, KP, KQ, reduceCtorEq, ↓reduceIte, Int.reduceLT, Int.reduceLE, Int.reduceAdd, Int.reduceSub, Int.reduceNeg, Int.reduceMul, Int.reduceToNat, Int.reduceEq, Int.reduceNe, Int.reduceGT, Int.reduceGE, Nat.reducePow, Nat.reduceAdd, Nat.reduceSub, Nat.reduceLT, Nat.reduceMul, Nat.reduceDiv, Nat.reduceEqDiff, Nat.reduceLeDiff, KT w, hw.KF]
    refine hK _ _ ?_
    clear hK
    clear K
    repeat with_reducible (first | refine E0 ?_ | refine E1 ?_ | refine E2 ?_ | refine E3 ?_ | refine E4 ?_ | refine E5 (by decide) ?_ | refine E6 ?_ | refine E7 ?_ | refine E8 ?_ | refine E9 ?_ | refine Ea ?_ | refine Eb ?_ | refine Ec ?_ | refine Ed ?_)
    refine W_region fun K hK => ?_
    simp only [KA, KB, KP, KQ, reduceCtorEq, ↓reduceIte, Int.reduceLT, Int.reduceLE, Int.reduceAdd, Int.reduceSub, Int.reduceNeg, Int.reduceMul, Int.reduceToNat, Int.reduceEq, Int.reduceNe, Int.reduceGT, Int.reduceGE, Nat.reducePow, Nat.reduceAdd, Nat.reduceSub, Nat.reduceLT, Nat.reduceMul, Nat.reduceDiv, Nat.reduceEqDiff, Nat.reduceLeDiff, KT w, hw.KF, hth']
    refine hK _ _ ?_
    clear hK
    clear K
    repeat with_reducible (first | refine E0 ?_ | refine E1 ?_ | refine E2 ?_ | refine E3 ?_ | refine E4 ?_ | refine E5 (by decide) ?_ | refine E6 ?_ | refine E7 ?_ | refine E8 ?_ | refine E9 ?_ | refine Ea ?_ | refine Eb ?_ | refine Ec ?_ | refine Ed ?_)
    cases hs : r.isSome with
    | false =>
      refine W_region fun K hK => ?_
      simp only [KA, KB, KP, KQ, reduceCtorEq, ↓reduceIte, Int.reduceLT, Int.reduceLE, Int.reduceAdd, Int.reduceSub, Int.reduceNeg, Int.reduceMul, Int.reduceToNat, Int.reduceEq, Int.reduceNe, Int.reduceGT, Int.reduceGE, Nat.reducePow, Nat.reduceAdd, Nat.reduceSub, Nat.reduceLT, Nat.reduceMul, Nat.reduceDiv, Nat.reduceEqDiff, Nat.reduceLeDiff, KT w, hw.KF, hs]
      refine hK _ _ ?_
      clear hK
      clear K
      repeat with_reducible (first | refine E0 ?_ | refine E1 ?_ | refine E2 ?_ | refine E3 ?_ | refine E4 ?_ | refine E5 (by decide) ?_ | refine E6 ?_ | refine E7 ?_ | refine E8 ?_ | refine E9 ?_ | refine Ea ?_ | refine Eb ?_ | refine Ec ?_ | refine Ed ?_)
      refine W_condT (by simp only [KA, KP, KQ, reduceCtorEq, ↓reduceIte, Int.reduceLT, Int.reduceLE, Int.reduceAdd, Int.reduceSub, Int.reduceNeg, Int.reduceMul, Int.reduceToNat, Int.reduceEq, Int.reduceNe, Int.reduceGT, Int.reduceGE, Nat.reducePow, Nat.reduceAdd, Nat.reduceSub, Nat.reduceLT, Nat.reduceMul, Nat.reduceDiv, Nat.reduceEqDiff, Nat.reduceLeDiff, KT w, hw.KF, hs]) ?_
      repeat with_reducible (first | refine E0 ?_ | refine E1 ?_ | refine E2 ?_ | refine E3 ?_ | refine E4 ?_ | refine E5 (by decide) ?_ | refine E6 ?_ | refine E7 ?_ | refine E8 ?_ | refine E9 ?_ | refine Ea ?_ | refine Eb ?_ | refine Ec ?_ | refine Ed ?_)
      refine W_region fun K hK => ?_
      simp only [KA, KB, KP, KQ, reduceCtorEq, ↓reduceIte, Int.reduceLT, Int.reduceLE, Int.reduceAdd, Int.reduceSub, Int.reduceNeg, Int.reduceMul, Int.reduceToNat, Int.reduceEq, Int.reduceNe, Int.reduceGT, Int.reduceGE, Nat.reducePow, Nat.reduceAdd, Nat.reduceSub, Nat.reduceLT, Nat.reduceMul, Nat.reduceDiv, Nat.reduceEqDiff, Nat.reduceLeDiff, KT w, hw.KF, hs]
      refine hK _ _ ?_
      clear hK
      clear K
      repeat with_reducible (first | refine E0 ?_ | refine E1 ?_ | refine E2 ?_ | refine E3 ?_ | refine E4 ?_ | refine E5 (by decide) ?_ | refine E6 ?_ | refine E7 ?_ | refine E8 ?_ | refine E9 ?_ | refine Ea ?_ | refine Eb ?_ | refine Ec ?_ | refine Ed ?_)
      refine AtEnd_of rfl ?_
      simp only [KA, KP, KQ, reduceCtorEq, ↓reduceIte, Int.reduceLT, Int.reduceLE, Int.reduceAdd, Int.reduceSub, Int.reduceNeg, Int.reduceMul, Int.reduceToNat, Int.reduceEq, Int.reduceNe, Int.reduceGT, Int.reduceGE, Nat.reducePow, Nat.reduceAdd, Nat.reduceSub, Nat.reduceLT, Nat.reduceMul, Nat.reduceDiv, Nat.reduceEqDiff, Nat.reduceLeDiff, KT w, hw.KF, hs, RS_some, aresults_nil, aresults_tmp, aresults_cell, one]
      have hup : up n p = none := by unfold up; rw [hr, hs]; rfl
      have happ : ∀ b S', AppU n p b S S' := fun b S' q hq => by rw [hup] at hq; cases hq
      rw [hup]
      exact ⟨_, rfl, .inr (.inr (.inr ⟨rfl, rfl⟩)), (St.Ext.refl S).push _, happ _ _⟩
    | true =>
      rcases list_snoc p with rfl | ⟨q, x, rfl⟩
      · have hup : up n [] = none := by unfold up; rw [hr, hs]; rfl
        have happ : ∀ b S', AppU n [] b S S' := fun b S' q hq => by rw [hup] at hq; cases hq
        rw [hup]
        have ha' : a = .vec [] ∨ (∃ o g, a = .own [] o g) ∨ a = .lit [] ∨ a = .nils := by
          rcases ha with h | h | h | h
          · exact .inl h
          · exact .inr (.inl h)
          · exact .inr (.inr (.inl h))
          · exact .inr (.inr (.inr h.1))
        clear ha hth hth' hp
        rcases ha' with rfl | ⟨o, g, rfl⟩ | rfl | rfl
        all_goals
          refine W_region fun K hK => ?_
          simp only [KA, KB, KP, KQ, reduceCtorEq, ↓reduceIte, Int.reduceLT, Int.reduceLE, Int.reduceAdd, Int.reduceSub, Int.reduceNeg, Int.reduceMul, Int.reduceToNat, Int.reduceEq, Int.reduceNe, Int.reduceGT, Int.reduceGE, Nat.reducePow, Nat.reduceAdd, Nat.reduceSub, Nat.reduceLT, Nat.reduceMul, Nat.reduceDiv, Nat.reduceEqDiff, Nat.reduceLeDiff, KT w, hw.KF, hs]
          refine hK _ _ ?_
          clear hK
          clear K
          repeat with_reducible (first | refine E0 ?_ | refine E1 ?_ | refine E2 ?_ | refine E3 ?_ | refine E4 ?_ | refine E5 (by decide) ?_ | refine E6 ?_ | refine E7 ?_ | refine E8 ?_ | refine E9 ?_ | refine Ea ?_ | refine Eb ?_ | refine Ec ?_ | refine Ed ?_)
          refine W_condT (by simp only [KA, KP, KQ, reduceCtorEq, ↓reduceIte, Int.reduceLT, Int.reduceLE, Int.reduceAdd, Int.reduceSub, Int.reduceNeg, Int.reduceMul, Int.reduceToNat, Int.reduceEq, Int.reduceNe, Int.reduceGT, Int.reduceGE, Nat.reducePow, Nat.reduceAdd, Nat.reduceSub, Nat.reduceLT, Nat.reduceMul, Nat.reduceDiv, Nat.reduceEqDiff, Nat.reduceLeDiff, KT w, hw.KF, hs]) ?_
          repeat with_reducible (first | refine E0 ?_ | refine E1 ?_ | refine E2 ?_ | refine E3 ?_ | refine E4 ?_ | refine E5 (by decide) ?_ | refine E6 ?_ | refine E7 ?_ | refine E8 ?_ | refine E9 ?_ | refine Ea ?_ | refine Eb ?_ | refine Ec ?_ | refine Ed ?_)
          refine W_region fun K hK => ?_
          simp only [KA, KB, KP, KQ, reduceCtorEq, ↓reduceIte, Int.reduceLT, Int.reduceLE, Int.reduceAdd, Int.reduceSub, Int.reduceNeg, Int.reduceMul, Int.reduceToNat, Int.reduceEq, Int.reduceNe, Int.reduceGT, Int.reduceGE, Nat.reducePow, Nat.reduceAdd, Nat.reduceSub, Nat.reduceLT, Nat.reduceMul, Nat.reduceDiv, Nat.reduceEqDiff, Nat.reduceLeDiff, KT w, hw.KF, hs]
          refine hK _ _ ?_
          clear hK
          clear K
          repeat with_reducible (first | refine E0 ?_ | refine E1 ?_ | refine E2 ?_ | refine E3 ?_ | refine E4 ?_ | refine E5 (by decide) ?_ | refine E6 ?_ | refine E7 ?_ | refine E8 ?_ | refine E9 ?_ | refine Ea ?_ | refine Eb ?_ | refine Ec ?_ | refine Ed ?_)
          refine AtEnd_of rfl ?_
          simp only [KA, KP, KQ, reduceCtorEq, ↓reduceIte, Int.reduceLT, Int.reduceLE, Int.reduceAdd, Int.reduceSub, Int.reduceNeg, Int.reduceMul, Int.reduceToNat, Int.reduceEq, Int.reduceNe, Int.reduceGT, Int.reduceGE, Nat.reducePow, Nat.reduceAdd, Nat.reduceSub, Nat.reduceLT, Nat.reduceMul, Nat.reduceDiv, Nat.reduceEqDiff, Nat.reduceLeDiff, KT w, hw.KF, hs, RS_some, aresults_nil, aresults_tmp, aresults_cell, one]
          exact ⟨_, rfl, .inr (.inr (.inr ⟨rfl, rfl⟩)), (St.Ext.refl S).push _, happ _ _⟩
      · have hup : up n (q ++ [x]) = some q := by
          unfold up; rw [hr, hs]
          cases hq : q ++ [x] with
          | nil => simp at hq
          | cons y ys => rw [← hq]; simp
        rw [hup]
        have hne : ¬ (((q ++ [x]).length : Int) = 0) := by simp; omega
        have hl : (q ++ [x]).length = q.length + 1 := by simp
        have e1 : IntKind.i64.wrap (((q ++ [x]).length : Int) - 1) = q.length := by rw [i64_in _ (by omega)]; omega
        have hq1 : ((q.length : Int) ≤ ((q ++ [x]).length : Int)) := by omega
        have htk : (ints (q ++ [x])).take q.length = ints q := by simp [ints]
        have hhd : headOk 1 (ints (q ++ [x])) = true := by cases q <;> rfl
        have hln : (ints (q ++ [x])).length = (q ++ [x]).length := ints_len _
        have ha' : a = .vec (ints (q ++ [x])) ∨ (∃ o g, a = .own (ints (q ++ [x])) o g) ∨ a = .lit (ints (q ++ [x])) := by
          rcases ha with h | h | h | h
          · exact .inl h
          · exact .inr (.inl h)
          · exact .inr (.inr h)
          · have := h.2; simp at this
        have hcl : ∃ b ob, callF (cfg w) (lim (cfg w)) 77 [.vec (ints q)] (S.push (.row n.cells false)) = some (b, (S.push (.row n.cells false)).push ob) ∧ IsI b q ∧ ((q = [] ∧ b = .lit []) ∨ (q ≠ [] ∧ b = .own (ints q) (S.n + 1) 0 ∧ ob = .tail 0)) := by
          cases q with
          | nil => exact ⟨_, _, hc.nil _, .inr (.inr (.inl rfl)), .inl ⟨rfl, rfl⟩⟩
          | cons y ys => exact ⟨_, _, hc.cons y ys _ (by simp at hp; omega) (by simp; omega), .inr (.inl ⟨_, _, rfl⟩), .inr ⟨by simp, rfl, rfl⟩⟩
        obtain ⟨b, ob, hcl, hb, hap⟩ := hcl
        have happ : AppU n (q ++ [x]) b S ((S.push (.row n.cells false)).push ob) := fun q' hq' => by rw [hup] at hq'; cases hq'; exact ⟨ob, rfl, hap⟩
        clear ha hth hth' hup
        generalize q ++ [x] = p at *
        clear hap
        generalize ints p = rp at *
        rcases ha' with rfl | ⟨o, g, rfl⟩ | rfl
        all_goals
          refine W_region fun K hK => ?_
          simp only [KA, KB, KP, KQ, reduceCtorEq, ↓reduceIte, Int.reduceLT, Int.reduceLE, Int.reduceAdd, Int.reduceSub, Int.reduceNeg, Int.reduceMul, Int.reduceToNat, Int.reduceEq, Int.reduceNe, Int.reduceGT, Int.reduceGE, Nat.reducePow, Nat.reduceAdd, Nat.reduceSub, Nat.reduceLT, Nat.reduceMul, Nat.reduceDiv, Nat.reduceEqDiff, Nat.reduceLeDiff, KT w, hw.KF, hs, hne, hln]
          refine hK _ _ ?_
          clear hK
          clear K
          repeat with_reducible (first | refine E0 ?_ | refine E1 ?_ | refine E2 ?_ | refine E3 ?_ | refine E4 ?_ | refine E5 (by decide) ?_ | refine E6 ?_ | refine E7 ?_ | refine E8 ?_ | refine E9 ?_ | refine Ea ?_ | refine Eb ?_ | refine Ec ?_ | refine Ed ?_)
          refine W_condF (by simp only [KA, KP, KQ, reduceCtorEq, ↓reduceIte, Int.reduceLT, Int.reduceLE, Int.reduceAdd, Int.reduceSub, Int.reduceNeg, Int.reduceMul, Int.reduceToNat, Int.reduceEq, Int.reduceNe, Int.reduceGT, Int.reduceGE, Nat.reducePow, Nat.reduceAdd, Nat.reduceSub, Nat.reduceLT, Nat.reduceMul, Nat.reduceDiv, Nat.reduceEqDiff, Nat.reduceLeDiff, KT w, hw.KF, hs]) ?_
          repeat with_reducible (first | refine E0 ?_ | refine E1 ?_ | refine E2 ?_ | refine E3 ?_ | refine E4 ?_ | refine E5 (by decide) ?_ | refine E6 ?_ | refine E7 ?_ | refine E8 ?_ | refine E9 ?_ | refine Ea ?_ | refine Eb ?_ | refine Ec ?_ | refine Ed ?_)
          refine W_region fun K hK => ?_
          simp only [KA, KB, KP, KQ, reduceCtorEq, ↓reduceIte, Int.reduceLT, Int.reduceLE, Int.reduceAdd, Int.reduceSub, Int.reduceNeg, Int.reduceMul, Int.reduceToNat, Int.reduceEq, Int.reduceNe, Int.reduceGT, Int.reduceGE, Nat.reducePow, Nat.reduceAdd, Nat.reduceSub, Nat.reduceLT, Nat.reduceMul, Nat.reduceDiv, Nat.reduceEqDiff, Nat.reduceLeDiff, KT w, hw.KF, hs, hln, e1, hq1, htk, hhd, hcl]
          refine hK _ _ ?_
          clear hK
          clear K
          repeat with_reducible (first | refine E0 ?_ | refine E1 ?_ | refine E2 ?_ | refine E3 ?_ | refine E4 ?_ | refine E5 (by decide) ?_ | refine E6 ?_ | refine E7 ?_ | refine E8 ?_ | refine E9 ?_ | refine Ea ?_ | refine Eb ?_ | refine Ec ?_ | refine Ed ?_)
          refine AtEnd_of rfl ?_
          simp only [KA, KP, KQ, reduceCtorEq, ↓reduceIte, Int.reduceLT, Int.reduceLE, Int.reduceAdd, Int.reduceSub, Int.reduceNeg, Int.reduceMul, Int.reduceToNat, Int.reduceEq, Int.reduceNe, Int.reduceGT, Int.reduceGE, Nat.reducePow, Nat.reduceAdd, Nat.reduceSub, Nat.reduceLT, Nat.reduceMul, Nat.reduceDiv, Nat.reduceEqDiff, Nat.reduceLeDiff, KT w, hw.KF, hs, RS_some, aresults_nil, aresults_tmp, aresults_cell, one]
          exact ⟨_, rfl, hb, ((St.Ext.refl S).push _).push _, happ⟩
  obtain ⟨v, S', h1, b, rfl, h2, h3, h4⟩ := key
  exact ⟨b, S', h1, h2, h3, h4⟩
end Go.Am.B
