/- PATHS THAT ARE WRITTEN TO: UP, DOWN. -/
import Derived.Test.YtghpjjhdbankhaaD2
import Derived.Test.YtghpjjhdbankhaaC10
import Derived.Test.YtghpjjhdbankhaaC17
set_option linter.unusedSimpArgs false
set_option linter.unusedVariables false
set_option maxRecDepth 20000
namespace Go.Am.B
open Go.Proofs Go.IntWalk

variable {w : Ways}

theorem opX_push {c : Cfg} {R : Rec} {f r : Nat} {tm : List AV} {d : Option Tmp} {ty : TypeId} {p : String} {a : Array Edge} {g : Option (Nat × Bool)} {S : St} {fn : FuncId} {x : Array Operand} {tt : Array TypeId} {F : List AV → Nat → Option (AV × AObj)} (he : c.ext fn = some (.push F)) :
    opX c R f r tm ⟨d, .call { callee := .value (.func fn), args := x, argTypes := tt }, ty, p, a, g⟩ S =
    (evalL tm x.toList).bind fun l => match F l S.n with
      | some q => some (q.1, S.push q.2, ⟨.ids [S.n], .ids [S.n], true⟩)
      | none => (callM c R fn l S).map fun z => (z.1, z.2, Foot.big) := by
  unfold opX
  have h1 : opQ c R tm ⟨d, .call { callee := .value (.func fn), args := x, argTypes := tt }, ty, p, a, g⟩ S = none := by
    unfold opQ
    rw [show aval c tm ⟨d, .call { callee := .value (.func fn), args := x, argTypes := tt }, ty, p, a, g⟩ S = none from rfl]
    simp [he]
  rw [h1]
  have hc : calmable c tm ⟨d, .call { callee := .value (.func fn), args := x, argTypes := tt }, ty, p, a, g⟩ = false := by simp [calmable, he]
  simp only [hc]
  rw [if_neg (by simp)]
  cases hl : evalL tm x.toList with
  | none => simp [aeff, evalT, hl]
  | some l =>
    cases hF : F l S.n with
    | none => simp [aeff, evalT, hl, callV, callF, he, XT.run, hF, wfoot, Foot.big]
    | some q => simp [aeff, evalT, hl, callV, callF, he, XT.run, hF, wfoot]

theorem up2_ok (hw : Two w) (n : Node) (p : List Int) (hp : p.length ≤ 17592186044400) (S : St) (hS : S.ok) (hb : S.base ≤ S.n) (a : AV) (hrd : Rd S a p) :
    ∃ b S', callF (cfg w) (lim (cfg w)) 37 [n.av, a] S = some (.tup [b, .bool (up n p).isSome], S') ∧ S.Ext S' ∧ (∀ q, up n p = some q → Own S' S.n b q) := by
  obtain ⟨S1, hth, hx1⟩ := there2_ok hw n p (by omega) (S.push (.row n.cells false)) (St.ok_push hS) (by show S.base ≤ S.n + 1; omega) a (hrd.ext (.push (.refl S) _))
  have hx0 : S.Ext S1 := ⟨fun h => hx1.ok (St.ok_push h), hx1.base, by have := hx1.n; simp only [St.pushN] at this; omega, fun o ho => by
    rw [hx1.get o (by simp only [St.pushN]; omega), St.get_pushn (by omega)]⟩
  have hn1 : S.n < S1.n := by have := hx1.n; simp only [St.pushN] at this; omega
  rw [callF_raw (c := cfg w) hw.e37 hw.m37]
  have hlen : ∀ S', alen (cfg w) S' 39 a = some (.int .i64 p.length) := fun S' => by
    unfold alen
    rw [Tk39]
    rcases hrd with rfl | ⟨o, g, rows, exp, rfl, -⟩ <;> simp [ints]
  have key : CallQ (cfg w) 37 [n.av, a] S fun v S' => ∃ b, v = .tup [b, .bool (up n p).isSome] ∧ S.Ext S' ∧ (∀ q, up n p = some q → Own S' S.n b q) := by
    generalize hr : find n p = r at hth
    refine call_of_W (fn37 w) rfl ?_
    simp only [Try.f37, List.length_cons, List.length_nil, ↓reduceIte, Int.reduceLT, Int.reduceLE, Int.reduceAdd, Int.reduceSub, Int.reduceNeg, Int.reduceMul, Int.reduceToNat, Int.reduceEq, Int.reduceNe, Int.reduceGT, Int.reduceGE, Nat.reducePow, IntKind.bits, Nat.reduceAdd, Nat.reduceSub, List.cons_append, List.nil_append]
    repeat with_reducible (first | refine E0 ?_ | refine E1 ?_ | refine E2 ?_ | refine E3 ?_ | refine E4 ?_ | refine E5 (by decide) ?_ | refine E6 ?_ | refine E7 ?_ | refine E8 ?_ | refine E9 ?_ | refine Ea ?_ | refine Eb ?_ | refine Ec ?_ | refine Ed ?_)
    refine W_region fun K hK => ?_
    simp only [KA, KB, KP, KQ, reduceCtorEq, ↓reduceIte, Int.reduceLT, Int.reduceLE, Int.reduceAdd, Int.reduceSub, Int.reduceNeg, Int.reduceMul, Int.reduceToNat, Int.reduceEq, Int.reduceNe, Int.reduceGT, Int.reduceGE, Nat.reducePow, Nat.reduceAdd, Nat.reduceSub, Nat.reduceLT, Nat.reduceMul, Nat.reduceDiv, Nat.reduceEqDiff, Nat.reduceLeDiff, KT w, hw.KF]
    refine hK _ _ ?_
    clear hK
    clear K
    repeat with_reducible (first | refine E0 ?_ | refine E1 ?_ | refine E2 ?_ | refine E3 ?_ | refine E4 ?_ | refine E5 (by decide) ?_ | refine E6 ?_ | refine E7 ?_ | refine E8 ?_ | refine E9 ?_ | refine Ea ?_ | refine Eb ?_ | refine Ec ?_ | refine Ed ?_)
    refine W_region fun K hK => ?_
    simp only [KA, KB, KP, KQ, reduceCtorEq, ↓reduceIte, Int.reduceLT, Int.reduceLE, Int.reduceAdd, Int.reduceSub, Int.reduceNeg, Int.reduceMul, Int.reduceToNat, Int.reduceEq, Int.reduceNe, Int.reduceGT, Int.reduceGE, Nat.reducePow, Nat.reduceAdd, Nat.reduceSub, Nat.reduceLT, Nat.reduceMul, Nat.reduceDiv, Nat.reduceEqDiff, Nat.reduceLeDiff, KT w, hw.KF, hth]
    refine hK _ _ ?_
    clear hK
    clear K
    repeat with_reducible (first | refine E0 ?_ | refine E1 ?_ | refine E2 ?_ | refine E3 ?_ | refine E4 ?_ | refine E5 (by decide) ?_ | refine E6 ?_ | refine E7 ?_ | refine E8 ?_ | refine E9 ?_ | refine Ea ?_ | refine Eb ?_ | refine Ec ?_ | refine Ed ?_)
    cases hs : r.isSome with
    | false =>
      refine W_region fun K hK => ?_
      simp only [KA, KB, KP, KQ, reduceCtorEq, ↓reduceIte, Int.reduceLT, Int.reduceLE, Int.reduceAdd, Int.reduceSub, Int.reduceNeg, Int.reduceMul, Int.reduceToNat, Int.reduceEq, Int.reduceNe, Int.reduceGT, Int.reduceGE, Nat.reducePow, Nat.reduceAdd, Nat.reduceSub, Nat.reduceLT, Nat.reduceMul, Nat.reduceDiv, Nat.reduceEqDiff, Nat.reduceLeDiff, KT w, hw.KF, hs]
      refine hK _ _ ?_
      clear hK
      clear K
      repeat with_reducible (first | refine E0 ?_ | refine E1 ?_ | refine E2 ?_ | refine E3 ?_ | refine E4 ?_ | refine E5 (by decide) ?_ | refine E6 ?_ | refine E7 ?_ | refine E8 ?_ | refine E9 ?_ | refine Ea ?_ | refine Eb ?_ | refine Ec ?_ | refine Ed ?_)
      refine W_condT (by simp only [KA, KP, KQ, reduceCtorEq, ↓reduceIte, Int.reduceLT, Int.reduceLE, Int.reduceAdd, Int.reduceSub, Int.reduceNeg, Int.reduceMul, Int.reduceToNat, Int.reduceEq, Int.reduceNe, Int.reduceGT, Int.reduceGE, Nat.reducePow, Nat.reduceAdd, Nat.reduceSub, Nat.reduceLT, Nat.reduceMul, Nat.reduceDiv, Nat.reduceEqDiff, Nat.reduceLeDiff, KT w, hw.KF, hs]) ?_
      repeat with_reducible (first | refine E0 ?_ | refine E1 ?_ | refine E2 ?_ | refine E3 ?_ | refine E4 ?_ | refine E5 (by decide) ?_ | refine E6 ?_ | refine E7 ?_ | refine E8 ?_ | refine E9 ?_ | refine Ea ?_ | refine Eb ?_ | refine Ec ?_ | refine Ed ?_)
      refine W_region fun K hK => ?_
      simp only [KA, KB, KP, KQ, reduceCtorEq, ↓reduceIte, Int.reduceLT, Int.reduceLE, Int.reduceAdd, Int.reduceSub, Int.reduceNeg, Int.reduceMul, Int.reduceToNat, Int.reduceEq, Int.reduceNe, Int.reduceGT, Int.reduceGE, Nat.reducePow, Nat.reduceAdd, Nat.reduceSub, Nat.reduceLT, Nat.reduceMul, Nat.reduceDiv, Nat.reduceEqDiff, Nat.reduceLeDiff, KT w, hw.KF, hs]
      refine hK _ _ ?_
      clear hK
      clear K
      repeat with_reducible (first | refine E0 ?_ | refine E1 ?_ | refine E2 ?_ | refine E3 ?_ | refine E4 ?_ | refine E5 (by decide) ?_ | refine E6 ?_ | refine E7 ?_ | refine E8 ?_ | refine E9 ?_ | refine Ea ?_ | refine Eb ?_ | refine Ec ?_ | refine Ed ?_)
      refine AtEnd_of rfl ?_
      simp only [KA, KP, KQ, reduceCtorEq, ↓reduceIte, Int.reduceLT, Int.reduceLE, Int.reduceAdd, Int.reduceSub, Int.reduceNeg, Int.reduceMul, Int.reduceToNat, Int.reduceEq, Int.reduceNe, Int.reduceGT, Int.reduceGE, Nat.reducePow, Nat.reduceAdd, Nat.reduceSub, Nat.reduceLT, Nat.reduceMul, Nat.reduceDiv, Nat.reduceEqDiff, Nat.reduceLeDiff, KT w, hw.KF, hs, RS_some, aresults_nil, aresults_tmp, aresults_cell, one]
      have hup : up n p = none := by unfold up; rw [hr, hs]; rfl
      rw [hup]
      exact ⟨_, rfl, hx0, fun q hq => by cases hq⟩
    | true =>
      rcases list_snoc p with rfl | ⟨q, x, rfl⟩
      · have hup : up n [] = none := by unfold up; rw [hr, hs]; rfl
        refine W_region fun K hK => ?_
        simp only [KA, KB, KP, KQ, reduceCtorEq, ↓reduceIte, Int.reduceLT, Int.reduceLE, Int.reduceAdd, Int.reduceSub, Int.reduceNeg, Int.reduceMul, Int.reduceToNat, Int.reduceEq, Int.reduceNe, Int.reduceGT, Int.reduceGE, Nat.reducePow, Nat.reduceAdd, Nat.reduceSub, Nat.reduceLT, Nat.reduceMul, Nat.reduceDiv, Nat.reduceEqDiff, Nat.reduceLeDiff, KT w, hw.KF, hs, hlen, A2h]
        refine hK _ _ ?_
        clear hK
        clear K
        repeat with_reducible (first | refine E0 ?_ | refine E1 ?_ | refine E2 ?_ | refine E3 ?_ | refine E4 ?_ | refine E5 (by decide) ?_ | refine E6 ?_ | refine E7 ?_ | refine E8 ?_ | refine E9 ?_ | refine Ea ?_ | refine Eb ?_ | refine Ec ?_ | refine Ed ?_)
        refine W_condT (by simp only [KA, KP, KQ, reduceCtorEq, ↓reduceIte, Int.reduceLT, Int.reduceLE, Int.reduceAdd, Int.reduceSub, Int.reduceNeg, Int.reduceMul, Int.reduceToNat, Int.reduceEq, Int.reduceNe, Int.reduceGT, Int.reduceGE, Nat.reducePow, Nat.reduceAdd, Nat.reduceSub, Nat.reduceLT, Nat.reduceMul, Nat.reduceDiv, Nat.reduceEqDiff, Nat.reduceLeDiff, KT w, hw.KF, hs]) ?_
        repeat with_reducible (first | refine E0 ?_ | refine E1 ?_ | refine E2 ?_ | refine E3 ?_ | refine E4 ?_ | refine E5 (by decide) ?_ | refine E6 ?_ | refine E7 ?_ | refine E8 ?_ | refine E9 ?_ | refine Ea ?_ | refine Eb ?_ | refine Ec ?_ | refine Ed ?_)
        refine W_region fun K hK => ?_
        simp only [KA, KB, KP, KQ, reduceCtorEq, ↓reduceIte, Int.reduceLT, Int.reduceLE, Int.reduceAdd, Int.reduceSub, Int.reduceNeg, Int.reduceMul, Int.reduceToNat, Int.reduceEq, Int.reduceNe, Int.reduceGT, Int.reduceGE, Nat.reducePow, Nat.reduceAdd, Nat.reduceSub, Nat.reduceLT, Nat.reduceMul, Nat.reduceDiv, Nat.reduceEqDiff, Nat.reduceLeDiff, KT w, hw.KF, hs]
        refine hK _ _ ?_
        clear hK
        clear K
        repeat with_reducible (first | refine E0 ?_ | refine E1 ?_ | refine E2 ?_ | refine E3 ?_ | refine E4 ?_ | refine E5 (by decide) ?_ | refine E6 ?_ | refine E7 ?_ | refine E8 ?_ | refine E9 ?_ | refine Ea ?_ | refine Eb ?_ | refine Ec ?_ | refine Ed ?_)
        refine AtEnd_of rfl ?_
        simp only [KA, KP, KQ, reduceCtorEq, ↓reduceIte, Int.reduceLT, Int.reduceLE, Int.reduceAdd, Int.reduceSub, Int.reduceNeg, Int.reduceMul, Int.reduceToNat, Int.reduceEq, Int.reduceNe, Int.reduceGT, Int.reduceGE, Nat.reducePow, Nat.reduceAdd, Nat.reduceSub, Nat.reduceLT, Nat.reduceMul, Nat.reduceDiv, Nat.reduceEqDiff, Nat.reduceLeDiff, KT w, hw.KF, hs, RS_some, aresults_nil, aresults_tmp, aresults_cell, one]
        rw [hup]
        exact ⟨_, rfl, hx0, fun q hq => by cases hq⟩
      · have hup : up n (q ++ [x]) = some q := up_snoc (by rw [hr, hs])
        have hne : ¬ (((q ++ [x]).length : Int) = 0) := by simp; omega
        have hl : (q ++ [x]).length = q.length + 1 := by simp
        have e1 : IntKind.i64.wrap (((q ++ [x]).length : Int) - 1) = q.length := by rw [i64_in _ (by omega)]; omega
        have hq1 : ((q.length : Int) ≤ ((q ++ [x]).length : Int)) := by omega
        have htk : (ints (q ++ [x])).take q.length = ints q := by simp [ints]
        have hhd : headOk 1 (ints (q ++ [x])) = true := by cases q <;> rfl
        have hln : (ints (q ++ [x])).length = (q ++ [x]).length := ints_len _
        have hx1o := hx1.ok (St.ok_push hS)
        rcases hrd with rfl | ⟨o, g, rows, exp, rfl, hg, hrr, hon⟩
        · obtain ⟨u, S2, hcl, hx2, hown⟩ := clone2_ok hw q (by omega) S1 hx1o (.vec (ints q)) (.inl rfl)
          have hx3 : S.Ext S2 := ⟨fun h => hx2.ok (hx0.ok h), hx2.base.trans hx0.base, Nat.le_trans hx0.n hx2.n, fun o ho => (hx2.get o (by omega)).trans (hx0.get o ho)⟩
          have hown' : Own S2 S.n u q := by
            rcases hown with h | ⟨h1, o, g, h2, h3, h4⟩
            · exact .inl h
            · exact .inr ⟨h1, o, g, h2, by omega, h4⟩
          rw [hup]
          generalize q ++ [x] = p at *
          generalize ints p = rp at *
          refine W_region fun K hK => ?_
          simp only [KA, KB, KP, KQ, reduceCtorEq, ↓reduceIte, Int.reduceLT, Int.reduceLE, Int.reduceAdd, Int.reduceSub, Int.reduceNeg, Int.reduceMul, Int.reduceToNat, Int.reduceEq, Int.reduceNe, Int.reduceGT, Int.reduceGE, Nat.reducePow, Nat.reduceAdd, Nat.reduceSub, Nat.reduceLT, Nat.reduceMul, Nat.reduceDiv, Nat.reduceEqDiff, Nat.reduceLeDiff, KT w, hw.KF, hs, hlen, hne]
          refine hK _ _ ?_
          clear hK
          clear K
          repeat with_reducible (first | refine E0 ?_ | refine E1 ?_ | refine E2 ?_ | refine E3 ?_ | refine E4 ?_ | refine E5 (by decide) ?_ | refine E6 ?_ | refine E7 ?_ | refine E8 ?_ | refine E9 ?_ | refine Ea ?_ | refine Eb ?_ | refine Ec ?_ | refine Ed ?_)
          refine W_condF (by simp only [KA, KP, KQ, reduceCtorEq, ↓reduceIte, Int.reduceLT, Int.reduceLE, Int.reduceAdd, Int.reduceSub, Int.reduceNeg, Int.reduceMul, Int.reduceToNat, Int.reduceEq, Int.reduceNe, Int.reduceGT, Int.reduceGE, Nat.reducePow, Nat.reduceAdd, Nat.reduceSub, Nat.reduceLT, Nat.reduceMul, Nat.reduceDiv, Nat.reduceEqDiff, Nat.reduceLeDiff, KT w, hw.KF, hs]) ?_
          repeat with_reducible (first | refine E0 ?_ | refine E1 ?_ | refine E2 ?_ | refine E3 ?_ | refine E4 ?_ | refine E5 (by decide) ?_ | refine E6 ?_ | refine E7 ?_ | refine E8 ?_ | refine E9 ?_ | refine Ea ?_ | refine Eb ?_ | refine Ec ?_ | refine Ed ?_)
          refine W_region fun K hK => ?_
          simp only [KA, KB, KP, KQ, reduceCtorEq, ↓reduceIte, Int.reduceLT, Int.reduceLE, Int.reduceAdd, Int.reduceSub, Int.reduceNeg, Int.reduceMul, Int.reduceToNat, Int.reduceEq, Int.reduceNe, Int.reduceGT, Int.reduceGE, Nat.reducePow, Nat.reduceAdd, Nat.reduceSub, Nat.reduceLT, Nat.reduceMul, Nat.reduceDiv, Nat.reduceEqDiff, Nat.reduceLeDiff, KT w, hw.KF, hs, hlen, hln, e1, hq1, htk, hhd, hcl]
          refine hK _ _ ?_
          clear hK
          clear K
          repeat with_reducible (first | refine E0 ?_ | refine E1 ?_ | refine E2 ?_ | refine E3 ?_ | refine E4 ?_ | refine E5 (by decide) ?_ | refine E6 ?_ | refine E7 ?_ | refine E8 ?_ | refine E9 ?_ | refine Ea ?_ | refine Eb ?_ | refine Ec ?_ | refine Ed ?_)
          refine AtEnd_of rfl ?_
          simp only [KA, KP, KQ, reduceCtorEq, ↓reduceIte, Int.reduceLT, Int.reduceLE, Int.reduceAdd, Int.reduceSub, Int.reduceNeg, Int.reduceMul, Int.reduceToNat, Int.reduceEq, Int.reduceNe, Int.reduceGT, Int.reduceGE, Nat.reducePow, Nat.reduceAdd, Nat.reduceSub, Nat.reduceLT, Nat.reduceMul, Nat.reduceDiv, Nat.reduceEqDiff, Nat.reduceLeDiff, KT w, hw.KF, hs, RS_some, aresults_nil, aresults_tmp, aresults_cell, one]
          exact ⟨_, rfl, hx3, fun q' hq' => by cases hq'; exact hown'⟩
        · have hg1 : S1.get o = some (.seq g 1 rows exp) := by rw [hx0.get o hon]; exact hg
          have htq : rows.take q.length = ints q := by
            have := congrArg (List.take q.length) hrr
            rw [List.take_take, htk, hl] at this
            simpa using this
          obtain ⟨u, S2, hcl, hx2, hown⟩ := clone2_ok hw q (by omega) S1 hx1o (.sref o g 0 q.length) (.inr ⟨o, g, rows, exp, rfl, hg1, htq, by omega⟩)
          have hx3 : S.Ext S2 := ⟨fun h => hx2.ok (hx0.ok h), hx2.base.trans hx0.base, Nat.le_trans hx0.n hx2.n, fun o ho => (hx2.get o (by omega)).trans (hx0.get o ho)⟩
          have hown' : Own S2 S.n u q := by
            rcases hown with h | ⟨h1, o, g, h2, h3, h4⟩
            · exact .inl h
            · exact .inr ⟨h1, o, g, h2, by omega, h4⟩
          rw [hup]
          clear hrr htk hhd hln hup hown hx2
          generalize (q ++ [x]).length = pl at *
          refine W_region fun K hK => ?_
          simp only [KA, KB, KP, KQ, reduceCtorEq, ↓reduceIte, Int.reduceLT, Int.reduceLE, Int.reduceAdd, Int.reduceSub, Int.reduceNeg, Int.reduceMul, Int.reduceToNat, Int.reduceEq, Int.reduceNe, Int.reduceGT, Int.reduceGE, Nat.reducePow, Nat.reduceAdd, Nat.reduceSub, Nat.reduceLT, Nat.reduceMul, Nat.reduceDiv, Nat.reduceEqDiff, Nat.reduceLeDiff, KT w, hw.KF, hs, hlen, hne]
          refine hK _ _ ?_
          clear hK
          clear K
          repeat with_reducible (first | refine E0 ?_ | refine E1 ?_ | refine E2 ?_ | refine E3 ?_ | refine E4 ?_ | refine E5 (by decide) ?_ | refine E6 ?_ | refine E7 ?_ | refine E8 ?_ | refine E9 ?_ | refine Ea ?_ | refine Eb ?_ | refine Ec ?_ | refine Ed ?_)
          refine W_condF (by simp only [KA, KP, KQ, reduceCtorEq, ↓reduceIte, Int.reduceLT, Int.reduceLE, Int.reduceAdd, Int.reduceSub, Int.reduceNeg, Int.reduceMul, Int.reduceToNat, Int.reduceEq, Int.reduceNe, Int.reduceGT, Int.reduceGE, Nat.reducePow, Nat.reduceAdd, Nat.reduceSub, Nat.reduceLT, Nat.reduceMul, Nat.reduceDiv, Nat.reduceEqDiff, Nat.reduceLeDiff, KT w, hw.KF, hs]) ?_
          repeat with_reducible (first | refine E0 ?_ | refine E1 ?_ | refine E2 ?_ | refine E3 ?_ | refine E4 ?_ | refine E5 (by decide) ?_ | refine E6 ?_ | refine E7 ?_ | refine E8 ?_ | refine E9 ?_ | refine Ea ?_ | refine Eb ?_ | refine Ec ?_ | refine Ed ?_)
          refine W_region fun K hK => ?_
          simp only [KA, KB, KP, KQ, reduceCtorEq, ↓reduceIte, Int.reduceLT, Int.reduceLE, Int.reduceAdd, Int.reduceSub, Int.reduceNeg, Int.reduceMul, Int.reduceToNat, Int.reduceEq, Int.reduceNe, Int.reduceGT, Int.reduceGE, Nat.reducePow, Nat.reduceAdd, Nat.reduceSub, Nat.reduceLT, Nat.reduceMul, Nat.reduceDiv, Nat.reduceEqDiff, Nat.reduceLeDiff, KT w, hw.KF, hs, hlen, hg1, e1, hq1, hcl]
          refine hK _ _ ?_
          clear hK
          clear K
          repeat with_reducible (first | refine E0 ?_ | refine E1 ?_ | refine E2 ?_ | refine E3 ?_ | refine E4 ?_ | refine E5 (by decide) ?_ | refine E6 ?_ | refine E7 ?_ | refine E8 ?_ | refine E9 ?_ | refine Ea ?_ | refine Eb ?_ | refine Ec ?_ | refine Ed ?_)
          refine AtEnd_of rfl ?_
          simp only [KA, KP, KQ, reduceCtorEq, ↓reduceIte, Int.reduceLT, Int.reduceLE, Int.reduceAdd, Int.reduceSub, Int.reduceNeg, Int.reduceMul, Int.reduceToNat, Int.reduceEq, Int.reduceNe, Int.reduceGT, Int.reduceGE, Nat.reducePow, Nat.reduceAdd, Nat.reduceSub, Nat.reduceLT, Nat.reduceMul, Nat.reduceDiv, Nat.reduceEqDiff, Nat.reduceLeDiff, KT w, hw.KF, hs, RS_some, aresults_nil, aresults_tmp, aresults_cell, one]
          exact ⟨_, rfl, hx3, fun q' hq' => by cases hq'; exact hown'⟩
  obtain ⟨v, S', h1, b, rfl, h2, h3⟩ := key
  exact ⟨b, S', h1, h2, h3⟩

theorem down2_ok (hw : Two w) (n : Node) (p : List Int) (hp : p.length ≤ 17592186044400) (S : St) (hS : S.ok) (hb : S.base ≤ S.n) :
    ∃ b S', callF (cfg w) (lim (cfg w)) 38 [n.av, .vec (ints p)] S = some (.tup [b, .bool (down n p).isSome], S') ∧ S.Ext S' ∧ (∀ q, down n p = some q → Own S' S.n b q) := by
  obtain ⟨gg, hgg⟩ : ∃ gg, gg = (if (ints p).isEmpty then 0 else 1) := ⟨_, rfl⟩
  have hwi : ∀ m, withE [.vec (ints p), .int .i64 0] m = some (.sref m gg 0 (p.length + 1), .seq gg 1 (ints (p ++ [0])) 0) := fun m => by
    have h1 : headOk 1 (ints p) = true := by cases p <;> rfl
    have h2 : (ints p).length ≤ 17592186044400 := by rw [ints_len]; omega
    have h3 : ints (p ++ [0]) = ints p ++ [[.int .i64 0]] := by simp [ints]
    simp only [withE, h1, ints_len, hp, and_self, if_true, ← hgg, h3]
  have hl : (p ++ [(0 : Int)]).length = p.length + 1 := by simp
  obtain ⟨S1, hth, hx1⟩ := there2_ok hw n (p ++ [0]) (by omega) ((S.push (.row n.cells false)).push (.seq gg 1 (ints (p ++ [0])) 0)) (St.ok_push (St.ok_push hS)) (by show S.base ≤ S.n + 1 + 1; omega) (.sref (S.n + 1) gg 0 (p.length + 1))
    (.inr ⟨S.n + 1, gg, ints (p ++ [0]), 0, by rw [hl], St.get_pushq (by simp only [St.pushN]), by rw [List.take_of_length_le (by rw [ints_len]; omega)], by simp only [St.pushN]; omega⟩)
  have hx0 : S.Ext S1 := ⟨fun h => hx1.ok (St.ok_push (St.ok_push h)), hx1.base, by have := hx1.n; simp only [St.pushN] at this; omega, fun o ho => by
    rw [hx1.get o (by simp only [St.pushN]; omega), St.get_pushn (by simp only [St.pushN]; omega), St.get_pushn (by omega)]⟩
  have hown : ∀ q, down n p = some q → Own S1 S.n (if (find n (p ++ [0])).isSome then (.sref (S.n + 1) gg 0 (p.length + 1)) else .nils) q := fun q hq => by
    unfold down thereP at hq
    split at hq
    · rename_i h
      rw [if_pos h]
      simp only [Option.some.injEq] at hq
      subst hq
      refine .inr ⟨by simp, S.n + 1, gg, by rw [hl], by omega, by have := hx1.n; simp only [St.pushN] at this; omega, ?_⟩
      rw [hx1.get _ (by simp only [St.pushN]; omega)]
      exact St.get_pushq (by simp only [St.pushN])
    · simp at hq
  have hdn : (down n p).isSome = (find n (p ++ [0])).isSome := by unfold down thereP; split <;> simp_all
  rw [hdn]
  generalize (if (find n (p ++ [0])).isSome then (AV.sref (S.n + 1) gg 0 (p.length + 1)) else .nils) = b at *
  generalize (find n (p ++ [0])).isSome = bb at *
  generalize ints (p ++ [0]) = rr at *
  rw [callF_raw (c := cfg w) hw.e38 hw.m38]
  have key : CallQ (cfg w) 38 [n.av, .vec (ints p)] S fun v S' => v = .tup [b, .bool bb] ∧ S' = S1 := by
    refine call_of_W (fn38 w) rfl ?_
    simp only [Try.f38, List.length_cons, List.length_nil, ↓reduceIte, Int.reduceLT, Int.reduceLE, Int.reduceAdd, Int.reduceSub, Int.reduceNeg, Int.reduceMul, Int.reduceToNat, Int.reduceEq, Int.reduceNe, Int.reduceGT, Int.reduceGE, Nat.reducePow, IntKind.bits, Nat.reduceAdd, Nat.reduceSub, List.cons_append, List.nil_append]
    repeat with_reducible (first | refine E0 ?_ | refine E1 ?_ | refine E2 ?_ | refine E3 ?_ | refine E4 ?_ | refine E5 (by decide) ?_ | refine E6 ?_ | refine E7 ?_ | refine E8 ?_ | refine E9 ?_ | refine Ea ?_ | refine Eb ?_ | refine Ec ?_ | refine Ed ?_)
    refine W_region fun K hK => ?_
    simp only [KA, KB, KP, KQ, reduceCtorEq, ↓reduceIte, Int.reduceLT, Int.reduceLE, Int.reduceAdd, Int.reduceSub, Int.reduceNeg, Int.reduceMul, Int.reduceToNat, Int.reduceEq, Int.reduceNe, Int.reduceGT, Int.reduceGE, Nat.reducePow, Nat.reduceAdd, Nat.reduceSub, Nat.reduceLT, Nat.reduceMul, Nat.reduceDiv, Nat.reduceEqDiff, Nat.reduceLeDiff, KT w, hw.KF]
    refine hK _ _ ?_
    clear hK
    clear K
    repeat with_reducible (first | refine E0 ?_ | refine E1 ?_ | refine E2 ?_ | refine E3 ?_ | refine E4 ?_ | refine E5 (by decide) ?_ | refine E6 ?_ | refine E7 ?_ | refine E8 ?_ | refine E9 ?_ | refine Ea ?_ | refine Eb ?_ | refine Ec ?_ | refine Ed ?_)
    refine W_regionD [[], [], [1], [0, 2, 1], [3, 0, 2, 1], [3, 0, 2, 1], [4, 3, 0, 2, 1, 5], [5, 3, 0, 2, 1, 6, 4]] (by decide +kernel) (by decide +kernel) (by decide +kernel) fun K hK => ?_
    simp only [KA, KB, KP, KQ, reduceCtorEq, ↓reduceIte, Int.reduceLT, Int.reduceLE, Int.reduceAdd, Int.reduceSub, Int.reduceNeg, Int.reduceMul, Int.reduceToNat, Int.reduceEq, Int.reduceNe, Int.reduceGT, Int.reduceGE, Nat.reducePow, Nat.reduceAdd, Nat.reduceSub, Nat.reduceLT, Nat.reduceMul, Nat.reduceDiv, Nat.reduceEqDiff, Nat.reduceLeDiff, KT w, hw.KF, A58, A59, A5a, A5b, A5c, A5d, A5e, A5f, A5g, A5h, A5i, opP, rfoot, refsO, refs, wfoot, A5j, A5k, noisyOk, pairOk, Foot.isQuiet, Foot.apart, Ft.apart, Foot.none, A5l, A5m, A48, A49, A5n, A5o, A5p, A5q, Nat.reduceBEq, opX_push (c := cfg w) hw.e75, opX_raw (c := cfg w) hw.e76 hw.m76, hwi, hth, Foot.big]
    refine hK _ _ ?_
    clear hK
    clear K
    repeat with_reducible (first | refine E0 ?_ | refine E1 ?_ | refine E2 ?_ | refine E3 ?_ | refine E4 ?_ | refine E5 (by decide) ?_ | refine E6 ?_ | refine E7 ?_ | refine E8 ?_ | refine E9 ?_ | refine Ea ?_ | refine Eb ?_ | refine Ec ?_ | refine Ed ?_)
    refine AtEnd_of rfl ?_
    simp only [KA, KP, KQ, reduceCtorEq, ↓reduceIte, Int.reduceLT, Int.reduceLE, Int.reduceAdd, Int.reduceSub, Int.reduceNeg, Int.reduceMul, Int.reduceToNat, Int.reduceEq, Int.reduceNe, Int.reduceGT, Int.reduceGE, Nat.reducePow, Nat.reduceAdd, Nat.reduceSub, Nat.reduceLT, Nat.reduceMul, Nat.reduceDiv, Nat.reduceEqDiff, Nat.reduceLeDiff, KT w, hw.KF, RS_some, aresults_nil, aresults_tmp, aresults_cell, one]
  obtain ⟨v, S', h1, rfl, rfl⟩ := key
  exact ⟨b, S', h1, hx0, hown⟩
end Go.Am.B
