/- PATHS THAT ARE WRITTEN TO: ASIDE, RIGHT, LEFT. -/
import Derived.Test.YtghpjjhdbankhaaD3
set_option linter.unusedSimpArgs false
set_option linter.unusedVariables false
set_option maxRecDepth 20000
namespace Go.Am.B
open Go.Proofs Go.IntWalk

variable {w : Ways}

theorem up_last {n : Node} {p q : List Int} (hu : up n p = some q) : ∃ x, p = q ++ [x] := by
  unfold up at hu
  split at hu
  · rcases list_snoc p with rfl | ⟨q', x, rfl⟩
    · simp at hu
    · refine ⟨x, ?_⟩
      cases hq : q' ++ [x] with
      | nil => simp at hq
      | cons y ys => rw [hq] at hu; simp only [Option.some.injEq] at hu; rw [← hq] at hu; simp at hu; rw [← hq, hu]
  · simp at hu

theorem aside2_ok (hw : Two w) (n : Node) (p : List Int) (hp : p.length ≤ 17592186044400) (S : St) (hS : S.ok) (hb : S.base ≤ S.n) (a : AV) (hrd : Rd S a p) (d : Int) :
    ∃ b S', callF (cfg w) (lim (cfg w)) 79 [n.av, a, .int .i64 d] S = some (.tup [b, .bool (asideP n p d).isSome], S') ∧ S.Ext S' ∧ (∀ q, asideP n p d = some q → Own S' S.n b q) ∧ (asideP n p d = none → b = .nils) := by
  obtain ⟨u, S2, hup, hx2, hown⟩ := up2_ok hw n p hp (S.push (.row n.cells false)) (St.ok_push hS) (by show S.base ≤ S.n + 1; omega) a (hrd.ext (.push (.refl S) _))
  have hx0 : S.Ext S2 := ⟨fun h => hx2.ok (St.ok_push h), hx2.base, by have := hx2.n; simp only [St.pushN] at this; omega, fun o ho => by
    rw [hx2.get o (by simp only [St.pushN]; omega), St.get_pushn (by omega)]⟩
  have hn2 : S.n < S2.n := by have := hx2.n; simp only [St.pushN] at this; omega
  have hg2 : S2.get S.n = some (.row n.cells false) := by rw [hx2.get _ (by simp only [St.pushN]; omega)]; exact St.get_pushe
  have hok2 : S2.ok := hx0.ok hS
  have hb2 : S2.base = S.base := hx0.base
  have hlen : ∀ S', alen (cfg w) S' 39 a = some (.int .i64 p.length) := fun S' => by
    unfold alen
    rw [Tk39]
    rcases hrd with rfl | ⟨o, g, rows, exp, rfl, -⟩ <;> simp [ints]
  have hrd2 := hrd.ext hx0
  rw [callF_raw (c := cfg w) hw.e79 hw.m79]
  unfold asideP
  cases hu : up n p with
  | none =>
    rw [hu] at hup
    simp only [Option.isSome_none] at hup
    have key : CallQ (cfg w) 79 [n.av, a, .int .i64 d] S fun v S' => v = .tup [.nils, .bool false] ∧ S' = S2 := by
      refine call_of_W (fn79 w) rfl ?_
      simp only [Try.f79, List.length_cons, List.length_nil, ↓reduceIte, Int.reduceLT, Int.reduceLE, Int.reduceAdd, Int.reduceSub, Int.reduceNeg, Int.reduceMul, Int.reduceToNat, Int.reduceEq, Int.reduceNe, Int.reduceGT, Int.reduceGE, Nat.reducePow, IntKind.bits, Nat.reduceAdd, Nat.reduceSub, List.cons_append, List.nil_append]
      repeat with_reducible (first | refine E0 ?_ | refine E1 ?_ | refine E2 ?_ | refine E3 ?_ | refine E4 ?_ | refine E5 (by decide) ?_ | refine E6 ?_ | refine E7 ?_ | refine E8 ?_ | refine E9 ?_ | refine Ea ?_ | refine Eb ?_ | refine Ec ?_ | refine Ed ?_)
      refine W_region fun K hK => ?_
      simp only [KA, KB, KP, KQ, reduceCtorEq, ↓reduceIte, Int.reduceLT, Int.reduceLE, Int.reduceAdd, Int.reduceSub, Int.reduceNeg, Int.reduceMul, Int.reduceToNat, Int.reduceEq, Int.reduceNe, Int.reduceGT, Int.reduceGE, Nat.reducePow, Nat.reduceAdd, Nat.reduceSub, Nat.reduceLT, Nat.reduceMul, Nat.reduceDiv, Nat.reduceEqDiff, Nat.reduceLeDiff, KT w, hw.KF]
      refine hK _ _ ?_
      clear hK
      clear K
      repeat with_reducible (first | refine E0 ?_ | refine E1 ?_ | refine E2 ?_ | refine E3 ?_ | refine E4 ?_ | refine E5 (by decide) ?_ | refine E6 ?_ | refine E7 ?_ | refine E8 ?_ | refine E9 ?_ | refine Ea ?_ | refine Eb ?_ | refine Ec ?_ | refine Ed ?_)
      refine W_region fun K hK => ?_
      simp only [KA, KB, KP, KQ, reduceCtorEq, ↓reduceIte, Int.reduceLT, Int.reduceLE, Int.reduceAdd, Int.reduceSub, Int.reduceNeg, Int.reduceMul, Int.reduceToNat, Int.reduceEq, Int.reduceNe, Int.reduceGT, Int.reduceGE, Nat.reducePow, Nat.reduceAdd, Nat.reduceSub, Nat.reduceLT, Nat.reduceMul, Nat.reduceDiv, Nat.reduceEqDiff, Nat.reduceLeDiff, KT w, hw.KF, hup]
      refine hK _ _ ?_
      clear hK
      clear K
      repeat with_reducible (first | refine E0 ?_ | refine E1 ?_ | refine E2 ?_ | refine E3 ?_ | refine E4 ?_ | refine E5 (by decide) ?_ | refine E6 ?_ | refine E7 ?_ | refine E8 ?_ | refine E9 ?_ | refine Ea ?_ | refine Eb ?_ | refine Ec ?_ | refine Ed ?_)
      refine W_region fun K hK => ?_
      simp only [KA, KB, KP, KQ, reduceCtorEq, ↓reduceIte, Int.reduceLT, Int.reduceLE, Int.reduceAdd, Int.reduceSub, Int.reduceNeg, Int.reduceMul, Int.reduceToNat, Int.reduceEq, Int.reduceNe, Int.reduceGT, Int.reduceGE, Nat.reducePow, Nat.reduceAdd, Nat.reduceSub, Nat.reduceLT, Nat.reduceMul, Nat.reduceDiv, Nat.reduceEqDiff, Nat.reduceLeDiff, KT w, hw.KF]
      refine hK _ _ ?_
      clear hK
      clear K
      repeat with_reducible (first | refine E0 ?_ | refine E1 ?_ | refine E2 ?_ | refine E3 ?_ | refine E4 ?_ | refine E5 (by decide) ?_ | refine E6 ?_ | refine E7 ?_ | refine E8 ?_ | refine E9 ?_ | refine Ea ?_ | refine Eb ?_ | refine Ec ?_ | refine Ed ?_)
      refine W_condT (by simp only [KA, KP, KQ, reduceCtorEq, ↓reduceIte, Int.reduceLT, Int.reduceLE, Int.reduceAdd, Int.reduceSub, Int.reduceNeg, Int.reduceMul, Int.reduceToNat, Int.reduceEq, Int.reduceNe, Int.reduceGT, Int.reduceGE, Nat.reducePow, Nat.reduceAdd, Nat.reduceSub, Nat.reduceLT, Nat.reduceMul, Nat.reduceDiv, Nat.reduceEqDiff, Nat.reduceLeDiff, KT w, hw.KF]) ?_
      repeat with_reducible (first | refine E0 ?_ | refine E1 ?_ | refine E2 ?_ | refine E3 ?_ | refine E4 ?_ | refine E5 (by decide) ?_ | refine E6 ?_ | refine E7 ?_ | refine E8 ?_ | refine E9 ?_ | refine Ea ?_ | refine Eb ?_ | refine Ec ?_ | refine Ed ?_)
      refine W_region fun K hK => ?_
      simp only [KA, KB, KP, KQ, reduceCtorEq, ↓reduceIte, Int.reduceLT, Int.reduceLE, Int.reduceAdd, Int.reduceSub, Int.reduceNeg, Int.reduceMul, Int.reduceToNat, Int.reduceEq, Int.reduceNe, Int.reduceGT, Int.reduceGE, Nat.reducePow, Nat.reduceAdd, Nat.reduceSub, Nat.reduceLT, Nat.reduceMul, Nat.reduceDiv, Nat.reduceEqDiff, Nat.reduceLeDiff, KT w, hw.KF]
      refine hK _ _ ?_
      clear hK
      clear K
      repeat with_reducible (first | refine E0 ?_ | refine E1 ?_ | refine E2 ?_ | refine E3 ?_ | refine E4 ?_ | refine E5 (by decide) ?_ | refine E6 ?_ | refine E7 ?_ | refine E8 ?_ | refine E9 ?_ | refine Ea ?_ | refine Eb ?_ | refine Ec ?_ | refine Ed ?_)
      refine AtEnd_of rfl ?_
      simp only [KA, KP, KQ, reduceCtorEq, ↓reduceIte, Int.reduceLT, Int.reduceLE, Int.reduceAdd, Int.reduceSub, Int.reduceNeg, Int.reduceMul, Int.reduceToNat, Int.reduceEq, Int.reduceNe, Int.reduceGT, Int.reduceGE, Nat.reducePow, Nat.reduceAdd, Nat.reduceSub, Nat.reduceLT, Nat.reduceMul, Nat.reduceDiv, Nat.reduceEqDiff, Nat.reduceLeDiff, KT w, hw.KF, RS_some, aresults_nil, aresults_tmp, aresults_cell, one]
    obtain ⟨v, S', h1, rfl, rfl⟩ := key
    exact ⟨_, _, h1, hx0, (fun q hq => by cases hq), fun _ => rfl⟩
  | some q =>
    have hown := hown q hu
    rw [hu] at hup
    simp only [Option.isSome_some] at hup
    obtain ⟨x, hpx⟩ := up_last hu
    have hlast : p.getLastD 0 = x := by rw [hpx]; simp
    have hpl : ((p.length : Nat) : Int) = (q.length : Int) + 1 := by rw [hpx]; simp
    have e1 : IntKind.i64.wrap ((p.length : Int) - 1) = q.length := by rw [i64_in _ (by omega)]; omega
    have hpx' : p[q.length]? = some x := by rw [hpx]; simp
    rw [hlast]
    dsimp only
    generalize hy : IntKind.i64.wrap (x + d) = y
    -- what append makes of it
    have happ : ∃ S3 b, aappend 1 8 true u [[.int .i64 y]] S2 = some (b, S3) ∧ S.Ext S3 ∧ Own S3 S.n b (q ++ [y]) ∧ S3.get S.n = some (.row n.cells false) := by
      rcases hown with ⟨rfl, rfl⟩ | ⟨hq0, o, g, rfl, ho1, ho2, hg⟩
      · have he : aappend 1 8 true (.lit []) [[.int .i64 y]] S2 = some (.sref S2.n 0 0 1, S2.push (.seq 0 1 (ints ([] ++ [y])) 0)) := by
          simp [aappend, aappend.fresh, headOk, capOk, ints]
        refine ⟨_, _, he, .push hx0 _, .inr ⟨by simp, S2.n, 0, rfl, by omega, by simp only [St.pushN]; omega, St.get_pushe⟩, ?_⟩
        rw [St.get_pushn (by omega)]; exact hg2
      · have hcap : capOk (q.length + 1) 8 = true := by unfold capOk; simp; omega
        have hbo : S2.base ≤ o := by simp only [St.pushN] at ho1; omega
        have he : aappend 1 8 true (.sref o g 0 q.length) [[.int .i64 y]] S2 = some (.sref o (g + 1) 0 (q.length + 1), S2.set o (.seq (g + 1) 1 (ints (q ++ [y])) 0)) := by
          have h3 : ints (q ++ [y]) = ints q ++ [[.int .i64 y]] := by simp [ints]
          simp [aappend, headOk, hg, ints_len, hcap, hbo, h3]
        simp only [St.pushN] at ho1
        refine ⟨_, _, he, ⟨fun h => St.ok_set (hx0.ok h), hx0.base, by simp only [St.setN]; omega, fun i hi => by rw [St.get_setn ho2 (by omega), hx0.get i hi]⟩, .inr ⟨by simp, o, g + 1, by simp, by omega, by simp only [St.setN]; omega, St.get_sete hok2 ho2⟩, ?_⟩
        rw [St.get_setn ho2 (by omega)]; exact hg2
    obtain ⟨S3, u2, hap, hx3, hown3, hg3⟩ := happ
    have hrd3 : Rd S3 u2 (q ++ [y]) := by
      rcases hown3 with ⟨_, h⟩ | ⟨_, o, g, h1, h2, h3, h4⟩
      · simp at h
      · exact .inr ⟨o, g, _, 0, h1, h4, List.take_of_length_le (by rw [ints_len]; omega), h3⟩
    obtain ⟨S4, hth, hx4⟩ := there2_ok hw n (q ++ [y]) (by simp; omega) S3 (hx3.ok hS) (by have := hx3.n; rw [hx3.base]; omega) u2 hrd3
    have hx5 : S.Ext S4 := ⟨fun h => hx4.ok (hx3.ok h), hx4.base.trans hx3.base, Nat.le_trans hx3.n hx4.n, fun o ho => (hx4.get o (by have := hx3.n; omega)).trans (hx3.get o ho)⟩
    have hown5 : ∀ r, thereP n (q ++ [y]) = some r → Own S4 S.n (if (find n (q ++ [y])).isSome then u2 else .nils) r := fun r hr => by
      unfold thereP at hr
      split at hr
      · rename_i h
        rw [if_pos h]
        simp only [Option.some.injEq] at hr
        subst hr
        rcases hown3 with ⟨_, h⟩ | ⟨h0, o, g, h1, h2, h3, h4⟩
        · simp at h
        · exact .inr ⟨h0, o, g, h1, h2, by have := hx4.n; omega, by rw [hx4.get o h3]; exact h4⟩
      · simp at hr
    have hnil5 : thereP n (q ++ [y]) = none → (if (find n (q ++ [y])).isSome then u2 else .nils) = .nils := fun hr => by
      unfold thereP at hr
      split at hr
      · simp at hr
      · rename_i h; rw [if_neg h]
    have hdn : (thereP n (q ++ [y])).isSome = (find n (q ++ [y])).isSome := by unfold thereP; split <;> simp_all
    rw [hdn]
    generalize (if (find n (q ++ [y])).isSome then u2 else .nils) = b at *
    generalize (find n (q ++ [y])).isSome = bb at *
    have key : CallQ (cfg w) 79 [n.av, a, .int .i64 d] S fun v S' => v = .tup [b, .bool bb] ∧ S' = S4 := by
      clear hrd hx0 hx2 hx3 hx4 hx5 hown3 hown5 hnil5 hrd3 hdn hu hpx hlast
      have hcap : ((q.length + 1 + (q.length + 1) / 4 + 1000) * 8 ≤ 281474976710656) = True := by simp; omega
      have hap0 := hap
      rcases hrd2 with rfl | ⟨o, g, rows, exp, rfl, hgo, hrr, hon⟩
      · rcases hown with ⟨rfl, rfl⟩ | ⟨hq0, o2, g2, rfl, ho1, ho2, hgg⟩
        · simp [aappend, aappend.fresh, headOk, capOk] at hap
          obtain ⟨rfl, rfl⟩ := hap
          have hq1 : (S2.n == S.n) = false := by simp; omega
          have hq2 : (S.n == S2.n) = false := by simp; omega
          simp only [List.length_nil] at hpx' e1
          refine call_of_W (fn79 w) rfl ?_
          simp only [Try.f79, List.length_cons, List.length_nil, ↓reduceIte, Int.reduceLT, Int.reduceLE, Int.reduceAdd, Int.reduceSub, Int.reduceNeg, Int.reduceMul, Int.reduceToNat, Int.reduceEq, Int.reduceNe, Int.reduceGT, Int.reduceGE, Nat.reducePow, IntKind.bits, Nat.reduceAdd, Nat.reduceSub, List.cons_append, List.nil_append]
          repeat with_reducible (first | refine E0 ?_ | refine E1 ?_ | refine E2 ?_ | refine E3 ?_ | refine E4 ?_ | refine E5 (by decide) ?_ | refine E6 ?_ | refine E7 ?_ | refine E8 ?_ | refine E9 ?_ | refine Ea ?_ | refine Eb ?_ | refine Ec ?_ | refine Ed ?_)
          refine W_region fun K hK => ?_
          simp only [KA, KB, KP, KQ, reduceCtorEq, ↓reduceIte, Int.reduceLT, Int.reduceLE, Int.reduceAdd, Int.reduceSub, Int.reduceNeg, Int.reduceMul, Int.reduceToNat, Int.reduceEq, Int.reduceNe, Int.reduceGT, Int.reduceGE, Nat.reducePow, Nat.reduceAdd, Nat.reduceSub, Nat.reduceLT, Nat.reduceMul, Nat.reduceDiv, Nat.reduceEqDiff, Nat.reduceLeDiff, KT w, hw.KF]
          refine hK _ _ ?_
          clear hK
          clear K
          repeat with_reducible (first | refine E0 ?_ | refine E1 ?_ | refine E2 ?_ | refine E3 ?_ | refine E4 ?_ | refine E5 (by decide) ?_ | refine E6 ?_ | refine E7 ?_ | refine E8 ?_ | refine E9 ?_ | refine Ea ?_ | refine Eb ?_ | refine Ec ?_ | refine Ed ?_)
          refine W_region fun K hK => ?_
          simp only [KA, KB, KP, KQ, reduceCtorEq, ↓reduceIte, Int.reduceLT, Int.reduceLE, Int.reduceAdd, Int.reduceSub, Int.reduceNeg, Int.reduceMul, Int.reduceToNat, Int.reduceEq, Int.reduceNe, Int.reduceGT, Int.reduceGE, Nat.reducePow, Nat.reduceAdd, Nat.reduceSub, Nat.reduceLT, Nat.reduceMul, Nat.reduceDiv, Nat.reduceEqDiff, Nat.reduceLeDiff, KT w, hw.KF, hup]
          refine hK _ _ ?_
          clear hK
          clear K
          repeat with_reducible (first | refine E0 ?_ | refine E1 ?_ | refine E2 ?_ | refine E3 ?_ | refine E4 ?_ | refine E5 (by decide) ?_ | refine E6 ?_ | refine E7 ?_ | refine E8 ?_ | refine E9 ?_ | refine Ea ?_ | refine Eb ?_ | refine Ec ?_ | refine Ed ?_)
          refine W_region fun K hK => ?_
          simp only [KA, KB, KP, KQ, reduceCtorEq, ↓reduceIte, Int.reduceLT, Int.reduceLE, Int.reduceAdd, Int.reduceSub, Int.reduceNeg, Int.reduceMul, Int.reduceToNat, Int.reduceEq, Int.reduceNe, Int.reduceGT, Int.reduceGE, Nat.reducePow, Nat.reduceAdd, Nat.reduceSub, Nat.reduceLT, Nat.reduceMul, Nat.reduceDiv, Nat.reduceEqDiff, Nat.reduceLeDiff, KT w, hw.KF]
          refine hK _ _ ?_
          clear hK
          clear K
          repeat with_reducible (first | refine E0 ?_ | refine E1 ?_ | refine E2 ?_ | refine E3 ?_ | refine E4 ?_ | refine E5 (by decide) ?_ | refine E6 ?_ | refine E7 ?_ | refine E8 ?_ | refine E9 ?_ | refine Ea ?_ | refine Eb ?_ | refine Ec ?_ | refine Ed ?_)
          refine W_condF (by simp only [KA, KP, KQ, reduceCtorEq, ↓reduceIte, Int.reduceLT, Int.reduceLE, Int.reduceAdd, Int.reduceSub, Int.reduceNeg, Int.reduceMul, Int.reduceToNat, Int.reduceEq, Int.reduceNe, Int.reduceGT, Int.reduceGE, Nat.reducePow, Nat.reduceAdd, Nat.reduceSub, Nat.reduceLT, Nat.reduceMul, Nat.reduceDiv, Nat.reduceEqDiff, Nat.reduceLeDiff, KT w, hw.KF]) ?_
          repeat with_reducible (first | refine E0 ?_ | refine E1 ?_ | refine E2 ?_ | refine E3 ?_ | refine E4 ?_ | refine E5 (by decide) ?_ | refine E6 ?_ | refine E7 ?_ | refine E8 ?_ | refine E9 ?_ | refine Ea ?_ | refine Eb ?_ | refine Ec ?_ | refine Ed ?_)
          refine W_regionD [[], [], [], [], [3], [4, 3], [2, 5, 4, 3], [6, 2, 5, 4, 3], [], [7, 6, 2, 5, 4, 3, 8], [9, 7, 6, 2, 5, 4, 3, 8], [1, 10, 9, 7, 6, 2, 5, 4, 3, 8], [0, 11, 1, 10, 9, 7, 6, 2, 5, 4, 3, 8], [12, 0, 11, 1, 10, 9, 7, 6, 2, 5, 4, 3, 8], [12, 0, 11, 1, 10, 9, 7, 6, 2, 5, 4, 3, 8], [13, 12, 0, 11, 1, 10, 9, 7, 6, 2, 5, 4, 3, 8, 14], [14, 12, 0, 11, 1, 10, 9, 7, 6, 2, 5, 4, 3, 8, 15, 13]] (by decide +kernel) (by decide +kernel) (by decide +kernel) fun K hK => ?_
          simp only [KA, KB, KP, KQ, reduceCtorEq, ↓reduceIte, Int.reduceLT, Int.reduceLE, Int.reduceAdd, Int.reduceSub, Int.reduceNeg, Int.reduceMul, Int.reduceToNat, Int.reduceEq, Int.reduceNe, Int.reduceGT, Int.reduceGE, Nat.reducePow, Nat.reduceAdd, Nat.reduceSub, Nat.reduceLT, Nat.reduceMul, Nat.reduceDiv, Nat.reduceEqDiff, Nat.reduceLeDiff, KT w, hw.KF, A58, A59, A5a, A5b, A5c, A5d, A5e, A5f, A5g, A5h, A5i, opP, rfoot, refsO, refs, wfoot, A5j, A5k, noisyOk, pairOk, Foot.isQuiet, Foot.apart, Ft.apart, Foot.none, A5l, A5m, A48, A49, A5n, A5o, A5p, A5q, Nat.reduceBEq, e1, hy, hg2, hlen, hpx', hth, hq1, hq2, opX_raw (c := cfg w) hw.e76 hw.m76, Foot.big]
          refine hK _ _ ?_
          clear hK
          clear K
          repeat with_reducible (first | refine E0 ?_ | refine E1 ?_ | refine E2 ?_ | refine E3 ?_ | refine E4 ?_ | refine E5 (by decide) ?_ | refine E6 ?_ | refine E7 ?_ | refine E8 ?_ | refine E9 ?_ | refine Ea ?_ | refine Eb ?_ | refine Ec ?_ | refine Ed ?_)
          refine AtEnd_of rfl ?_
          simp only [KA, KP, KQ, reduceCtorEq, ↓reduceIte, Int.reduceLT, Int.reduceLE, Int.reduceAdd, Int.reduceSub, Int.reduceNeg, Int.reduceMul, Int.reduceToNat, Int.reduceEq, Int.reduceNe, Int.reduceGT, Int.reduceGE, Nat.reducePow, Nat.reduceAdd, Nat.reduceSub, Nat.reduceLT, Nat.reduceMul, Nat.reduceDiv, Nat.reduceEqDiff, Nat.reduceLeDiff, KT w, hw.KF, RS_some, aresults_nil, aresults_tmp, aresults_cell, one]
        · simp only [St.pushN] at ho1
          have hbo : (S2.base ≤ o2) = True := by simp; omega
          have hq1 : (o2 == S.n) = false := by simp; omega
          have hq2 : (S.n == o2) = false := by simp; omega
          have hemp : (ints q).isEmpty = false := by cases q with | nil => exact absurd rfl hq0 | cons _ _ => rfl
          have hq3 : ints q ++ [[.int .i64 y]] = ints (q ++ [y]) := by simp [ints]
          have hcap2 : capOk (q.length + 1) 8 = true := by unfold capOk; simp; omega
          simp [aappend, headOk, hgg, ints_len, hcap2, hbo, hq3] at hap
          obtain ⟨rfl, rfl⟩ := hap
          refine call_of_W (fn79 w) rfl ?_
          simp only [Try.f79, List.length_cons, List.length_nil, ↓reduceIte, Int.reduceLT, Int.reduceLE, Int.reduceAdd, Int.reduceSub, Int.reduceNeg, Int.reduceMul, Int.reduceToNat, Int.reduceEq, Int.reduceNe, Int.reduceGT, Int.reduceGE, Nat.reducePow, IntKind.bits, Nat.reduceAdd, Nat.reduceSub, List.cons_append, List.nil_append]
          repeat with_reducible (first | refine E0 ?_ | refine E1 ?_ | refine E2 ?_ | refine E3 ?_ | refine E4 ?_ | refine E5 (by decide) ?_ | refine E6 ?_ | refine E7 ?_ | refine E8 ?_ | refine E9 ?_ | refine Ea ?_ | refine Eb ?_ | refine Ec ?_ | refine Ed ?_)
          refine W_region fun K hK => ?_
          simp only [KA, KB, KP, KQ, reduceCtorEq, ↓reduceIte, Int.reduceLT, Int.reduceLE, Int.reduceAdd, Int.reduceSub, Int.reduceNeg, Int.reduceMul, Int.reduceToNat, Int.reduceEq, Int.reduceNe, Int.reduceGT, Int.reduceGE, Nat.reducePow, Nat.reduceAdd, Nat.reduceSub, Nat.reduceLT, Nat.reduceMul, Nat.reduceDiv, Nat.reduceEqDiff, Nat.reduceLeDiff, KT w, hw.KF]
          refine hK _ _ ?_
          clear hK
          clear K
          repeat with_reducible (first | refine E0 ?_ | refine E1 ?_ | refine E2 ?_ | refine E3 ?_ | refine E4 ?_ | refine E5 (by decide) ?_ | refine E6 ?_ | refine E7 ?_ | refine E8 ?_ | refine E9 ?_ | refine Ea ?_ | refine Eb ?_ | refine Ec ?_ | refine Ed ?_)
          refine W_region fun K hK => ?_
          simp only [KA, KB, KP, KQ, reduceCtorEq, ↓reduceIte, Int.reduceLT, Int.reduceLE, Int.reduceAdd, Int.reduceSub, Int.reduceNeg, Int.reduceMul, Int.reduceToNat, Int.reduceEq, Int.reduceNe, Int.reduceGT, Int.reduceGE, Nat.reducePow, Nat.reduceAdd, Nat.reduceSub, Nat.reduceLT, Nat.reduceMul, Nat.reduceDiv, Nat.reduceEqDiff, Nat.reduceLeDiff, KT w, hw.KF, hup]
          refine hK _ _ ?_
          clear hK
          clear K
          repeat with_reducible (first | refine E0 ?_ | refine E1 ?_ | refine E2 ?_ | refine E3 ?_ | refine E4 ?_ | refine E5 (by decide) ?_ | refine E6 ?_ | refine E7 ?_ | refine E8 ?_ | refine E9 ?_ | refine Ea ?_ | refine Eb ?_ | refine Ec ?_ | refine Ed ?_)
          refine W_region fun K hK => ?_
          simp only [KA, KB, KP, KQ, reduceCtorEq, ↓reduceIte, Int.reduceLT, Int.reduceLE, Int.reduceAdd, Int.reduceSub, Int.reduceNeg, Int.reduceMul, Int.reduceToNat, Int.reduceEq, Int.reduceNe, Int.reduceGT, Int.reduceGE, Nat.reducePow, Nat.reduceAdd, Nat.reduceSub, Nat.reduceLT, Nat.reduceMul, Nat.reduceDiv, Nat.reduceEqDiff, Nat.reduceLeDiff, KT w, hw.KF]
          refine hK _ _ ?_
          clear hK
          clear K
          repeat with_reducible (first | refine E0 ?_ | refine E1 ?_ | refine E2 ?_ | refine E3 ?_ | refine E4 ?_ | refine E5 (by decide) ?_ | refine E6 ?_ | refine E7 ?_ | refine E8 ?_ | refine E9 ?_ | refine Ea ?_ | refine Eb ?_ | refine Ec ?_ | refine Ed ?_)
          refine W_condF (by simp only [KA, KP, KQ, reduceCtorEq, ↓reduceIte, Int.reduceLT, Int.reduceLE, Int.reduceAdd, Int.reduceSub, Int.reduceNeg, Int.reduceMul, Int.reduceToNat, Int.reduceEq, Int.reduceNe, Int.reduceGT, Int.reduceGE, Nat.reducePow, Nat.reduceAdd, Nat.reduceSub, Nat.reduceLT, Nat.reduceMul, Nat.reduceDiv, Nat.reduceEqDiff, Nat.reduceLeDiff, KT w, hw.KF]) ?_
          repeat with_reducible (first | refine E0 ?_ | refine E1 ?_ | refine E2 ?_ | refine E3 ?_ | refine E4 ?_ | refine E5 (by decide) ?_ | refine E6 ?_ | refine E7 ?_ | refine E8 ?_ | refine E9 ?_ | refine Ea ?_ | refine Eb ?_ | refine Ec ?_ | refine Ed ?_)
          refine W_regionD [[], [], [], [], [3], [4, 3], [2, 5, 4, 3], [6, 2, 5, 4, 3], [], [7, 6, 2, 5, 4, 3, 8], [9, 7, 6, 2, 5, 4, 3, 8], [1, 10, 9, 7, 6, 2, 5, 4, 3, 8], [0, 11, 1, 10, 9, 7, 6, 2, 5, 4, 3, 8], [12, 0, 11, 1, 10, 9, 7, 6, 2, 5, 4, 3, 8], [12, 0, 11, 1, 10, 9, 7, 6, 2, 5, 4, 3, 8], [13, 12, 0, 11, 1, 10, 9, 7, 6, 2, 5, 4, 3, 8, 14], [14, 12, 0, 11, 1, 10, 9, 7, 6, 2, 5, 4, 3, 8, 15, 13]] (by decide +kernel) (by decide +kernel) (by decide +kernel) fun K hK => ?_
          simp only [KA, KB, KP, KQ, reduceCtorEq, ↓reduceIte, Int.reduceLT, Int.reduceLE, Int.reduceAdd, Int.reduceSub, Int.reduceNeg, Int.reduceMul, Int.reduceToNat, Int.reduceEq, Int.reduceNe, Int.reduceGT, Int.reduceGE, Nat.reducePow, Nat.reduceAdd, Nat.reduceSub, Nat.reduceLT, Nat.reduceMul, Nat.reduceDiv, Nat.reduceEqDiff, Nat.reduceLeDiff, KT w, hw.KF, A58, A59, A5a, A5b, A5c, A5d, A5e, A5f, A5g, A5h, A5i, opP, rfoot, refsO, refs, wfoot, A5j, A5k, noisyOk, pairOk, Foot.isQuiet, Foot.apart, Ft.apart, Foot.none, A5l, A5m, A48, A49, A5n, A5o, A5p, A5q, Nat.reduceBEq, e1, hy, hg2, hlen, hpx', hth, hgg, hq1, hq2, hq3, hbo, hok2, ho2, hcap, opX_raw (c := cfg w) hw.e76 hw.m76, Foot.big]
          refine hK _ _ ?_
          clear hK
          clear K
          repeat with_reducible (first | refine E0 ?_ | refine E1 ?_ | refine E2 ?_ | refine E3 ?_ | refine E4 ?_ | refine E5 (by decide) ?_ | refine E6 ?_ | refine E7 ?_ | refine E8 ?_ | refine E9 ?_ | refine Ea ?_ | refine Eb ?_ | refine Ec ?_ | refine Ed ?_)
          refine AtEnd_of rfl ?_
          simp only [KA, KP, KQ, reduceCtorEq, ↓reduceIte, Int.reduceLT, Int.reduceLE, Int.reduceAdd, Int.reduceSub, Int.reduceNeg, Int.reduceMul, Int.reduceToNat, Int.reduceEq, Int.reduceNe, Int.reduceGT, Int.reduceGE, Nat.reducePow, Nat.reduceAdd, Nat.reduceSub, Nat.reduceLT, Nat.reduceMul, Nat.reduceDiv, Nat.reduceEqDiff, Nat.reduceLeDiff, KT w, hw.KF, RS_some, aresults_nil, aresults_tmp, aresults_cell, one]
      · have hrow := rows_at hrr hpx'
        have hlt : ((q.length : Int) < (p.length : Nat)) = True := by simp; omega
        have hlt2 : (q.length < p.length) = True := by simp; omega
        rcases hown with ⟨rfl, rfl⟩ | ⟨hq0, o2, g2, rfl, ho1, ho2, hgg⟩
        · simp [aappend, aappend.fresh, headOk, capOk] at hap
          obtain ⟨rfl, rfl⟩ := hap
          have hq1 : (S2.n == S.n) = false := by simp; omega
          have hq2 : (S.n == S2.n) = false := by simp; omega
          simp only [List.length_nil] at hpx' e1 hrow hlt2
          have hlt : ((0 : Int) < (p.length : Nat)) = True := by simp; omega
          refine call_of_W (fn79 w) rfl ?_
          simp only [Try.f79, List.length_cons, List.length_nil, ↓reduceIte, Int.reduceLT, Int.reduceLE, Int.reduceAdd, Int.reduceSub, Int.reduceNeg, Int.reduceMul, Int.reduceToNat, Int.reduceEq, Int.reduceNe, Int.reduceGT, Int.reduceGE, Nat.reducePow, IntKind.bits, Nat.reduceAdd, Nat.reduceSub, List.cons_append, List.nil_append]
          repeat with_reducible (first | refine E0 ?_ | refine E1 ?_ | refine E2 ?_ | refine E3 ?_ | refine E4 ?_ | refine E5 (by decide) ?_ | refine E6 ?_ | refine E7 ?_ | refine E8 ?_ | refine E9 ?_ | refine Ea ?_ | refine Eb ?_ | refine Ec ?_ | refine Ed ?_)
          refine W_region fun K hK => ?_
          simp only [KA, KB, KP, KQ, reduceCtorEq, ↓reduceIte, Int.reduceLT, Int.reduceLE, Int.reduceAdd, Int.reduceSub, Int.reduceNeg, Int.reduceMul, Int.reduceToNat, Int.reduceEq, Int.reduceNe, Int.reduceGT, Int.reduceGE, Nat.reducePow, Nat.reduceAdd, Nat.reduceSub, Nat.reduceLT, Nat.reduceMul, Nat.reduceDiv, Nat.reduceEqDiff, Nat.reduceLeDiff, KT w, hw.KF]
          refine hK _ _ ?_
          clear hK
          clear K
          repeat with_reducible (first | refine E0 ?_ | refine E1 ?_ | refine E2 ?_ | refine E3 ?_ | refine E4 ?_ | refine E5 (by decide) ?_ | refine E6 ?_ | refine E7 ?_ | refine E8 ?_ | refine E9 ?_ | refine Ea ?_ | refine Eb ?_ | refine Ec ?_ | refine Ed ?_)
          refine W_region fun K hK => ?_
          simp only [KA, KB, KP, KQ, reduceCtorEq, ↓reduceIte, Int.reduceLT, Int.reduceLE, Int.reduceAdd, Int.reduceSub, Int.reduceNeg, Int.reduceMul, Int.reduceToNat, Int.reduceEq, Int.reduceNe, Int.reduceGT, Int.reduceGE, Nat.reducePow, Nat.reduceAdd, Nat.reduceSub, Nat.reduceLT, Nat.reduceMul, Nat.reduceDiv, Nat.reduceEqDiff, Nat.reduceLeDiff, KT w, hw.KF, hup]
          refine hK _ _ ?_
          clear hK
          clear K
          repeat with_reducible (first | refine E0 ?_ | refine E1 ?_ | refine E2 ?_ | refine E3 ?_ | refine E4 ?_ | refine E5 (by decide) ?_ | refine E6 ?_ | refine E7 ?_ | refine E8 ?_ | refine E9 ?_ | refine Ea ?_ | refine Eb ?_ | refine Ec ?_ | refine Ed ?_)
          refine W_region fun K hK => ?_
          simp only [KA, KB, KP, KQ, reduceCtorEq, ↓reduceIte, Int.reduceLT, Int.reduceLE, Int.reduceAdd, Int.reduceSub, Int.reduceNeg, Int.reduceMul, Int.reduceToNat, Int.reduceEq, Int.reduceNe, Int.reduceGT, Int.reduceGE, Nat.reducePow, Nat.reduceAdd, Nat.reduceSub, Nat.reduceLT, Nat.reduceMul, Nat.reduceDiv, Nat.reduceEqDiff, Nat.reduceLeDiff, KT w, hw.KF]
          refine hK _ _ ?_
          clear hK
          clear K
          repeat with_reducible (first | refine E0 ?_ | refine E1 ?_ | refine E2 ?_ | refine E3 ?_ | refine E4 ?_ | refine E5 (by decide) ?_ | refine E6 ?_ | refine E7 ?_ | refine E8 ?_ | refine E9 ?_ | refine Ea ?_ | refine Eb ?_ | refine Ec ?_ | refine Ed ?_)
          refine W_condF (by simp only [KA, KP, KQ, reduceCtorEq, ↓reduceIte, Int.reduceLT, Int.reduceLE, Int.reduceAdd, Int.reduceSub, Int.reduceNeg, Int.reduceMul, Int.reduceToNat, Int.reduceEq, Int.reduceNe, Int.reduceGT, Int.reduceGE, Nat.reducePow, Nat.reduceAdd, Nat.reduceSub, Nat.reduceLT, Nat.reduceMul, Nat.reduceDiv, Nat.reduceEqDiff, Nat.reduceLeDiff, KT w, hw.KF]) ?_
          repeat with_reducible (first | refine E0 ?_ | refine E1 ?_ | refine E2 ?_ | refine E3 ?_ | refine E4 ?_ | refine E5 (by decide) ?_ | refine E6 ?_ | refine E7 ?_ | refine E8 ?_ | refine E9 ?_ | refine Ea ?_ | refine Eb ?_ | refine Ec ?_ | refine Ed ?_)
          refine W_regionD [[], [], [], [], [3], [4, 3], [2, 5, 4, 3], [6, 2, 5, 4, 3], [], [7, 6, 2, 5, 4, 3, 8], [9, 7, 6, 2, 5, 4, 3, 8], [1, 10, 9, 7, 6, 2, 5, 4, 3, 8], [0, 11, 1, 10, 9, 7, 6, 2, 5, 4, 3, 8], [12, 0, 11, 1, 10, 9, 7, 6, 2, 5, 4, 3, 8], [12, 0, 11, 1, 10, 9, 7, 6, 2, 5, 4, 3, 8], [13, 12, 0, 11, 1, 10, 9, 7, 6, 2, 5, 4, 3, 8, 14], [14, 12, 0, 11, 1, 10, 9, 7, 6, 2, 5, 4, 3, 8, 15, 13]] (by decide +kernel) (by decide +kernel) (by decide +kernel) fun K hK => ?_
          simp only [KA, KB, KP, KQ, reduceCtorEq, ↓reduceIte, Int.reduceLT, Int.reduceLE, Int.reduceAdd, Int.reduceSub, Int.reduceNeg, Int.reduceMul, Int.reduceToNat, Int.reduceEq, Int.reduceNe, Int.reduceGT, Int.reduceGE, Nat.reducePow, Nat.reduceAdd, Nat.reduceSub, Nat.reduceLT, Nat.reduceMul, Nat.reduceDiv, Nat.reduceEqDiff, Nat.reduceLeDiff, KT w, hw.KF, A58, A59, A5a, A5b, A5c, A5d, A5e, A5f, A5g, A5h, A5i, opP, rfoot, refsO, refs, wfoot, A5j, A5k, noisyOk, pairOk, Foot.isQuiet, Foot.apart, Ft.apart, Foot.none, A5l, A5m, A48, A49, A5n, A5o, A5p, A5q, Nat.reduceBEq, e1, hy, hg2, hlen, hpx', hth, hgo, hrow, hlt, hlt2, hq1, hq2, opX_raw (c := cfg w) hw.e76 hw.m76, Foot.big]
          refine hK _ _ ?_
          clear hK
          clear K
          repeat with_reducible (first | refine E0 ?_ | refine E1 ?_ | refine E2 ?_ | refine E3 ?_ | refine E4 ?_ | refine E5 (by decide) ?_ | refine E6 ?_ | refine E7 ?_ | refine E8 ?_ | refine E9 ?_ | refine Ea ?_ | refine Eb ?_ | refine Ec ?_ | refine Ed ?_)
          refine AtEnd_of rfl ?_
          simp only [KA, KP, KQ, reduceCtorEq, ↓reduceIte, Int.reduceLT, Int.reduceLE, Int.reduceAdd, Int.reduceSub, Int.reduceNeg, Int.reduceMul, Int.reduceToNat, Int.reduceEq, Int.reduceNe, Int.reduceGT, Int.reduceGE, Nat.reducePow, Nat.reduceAdd, Nat.reduceSub, Nat.reduceLT, Nat.reduceMul, Nat.reduceDiv, Nat.reduceEqDiff, Nat.reduceLeDiff, KT w, hw.KF, RS_some, aresults_nil, aresults_tmp, aresults_cell, one]
        · simp only [St.pushN] at ho1
          have hbo : (S2.base ≤ o2) = True := by simp; omega
          have hq1 : (o2 == S.n) = false := by simp; omega
          have hq2 : (S.n == o2) = false := by simp; omega
          have hq3 : ints q ++ [[.int .i64 y]] = ints (q ++ [y]) := by simp [ints]
          have hcap2 : capOk (q.length + 1) 8 = true := by unfold capOk; simp; omega
          simp [aappend, headOk, hgg, ints_len, hcap2, hbo, hq3] at hap
          obtain ⟨rfl, rfl⟩ := hap
          refine call_of_W (fn79 w) rfl ?_
          simp only [Try.f79, List.length_cons, List.length_nil, ↓reduceIte, Int.reduceLT, Int.reduceLE, Int.reduceAdd, Int.reduceSub, Int.reduceNeg, Int.reduceMul, Int.reduceToNat, Int.reduceEq, Int.reduceNe, Int.reduceGT, Int.reduceGE, Nat.reducePow, IntKind.bits, Nat.reduceAdd, Nat.reduceSub, List.cons_append, List.nil_append]
          repeat with_reducible (first | refine E0 ?_ | refine E1 ?_ | refine E2 ?_ | refine E3 ?_ | refine E4 ?_ | refine E5 (by decide) ?_ | refine E6 ?_ | refine E7 ?_ | refine E8 ?_ | refine E9 ?_ | refine Ea ?_ | refine Eb ?_ | refine Ec ?_ | refine Ed ?_)
          refine W_region fun K hK => ?_
          simp only [KA, KB, KP, KQ, reduceCtorEq, ↓reduceIte, Int.reduceLT, Int.reduceLE, Int.reduceAdd, Int.reduceSub, Int.reduceNeg, Int.reduceMul, Int.reduceToNat, Int.reduceEq, Int.reduceNe, Int.reduceGT, Int.reduceGE, Nat.reducePow, Nat.reduceAdd, Nat.reduceSub, Nat.reduceLT, Nat.reduceMul, Nat.reduceDiv, Nat.reduceEqDiff, Nat.reduceLeDiff, KT w, hw.KF]
          refine hK _ _ ?_
          clear hK
          clear K
          repeat with_reducible (first | refine E0 ?_ | refine E1 ?_ | refine E2 ?_ | refine E3 ?_ | refine E4 ?_ | refine E5 (by decide) ?_ | refine E6 ?_ | refine E7 ?_ | refine E8 ?_ | refine E9 ?_ | refine Ea ?_ | refine Eb ?_ | refine Ec ?_ | refine Ed ?_)
          refine W_region fun K hK => ?_
          simp only [KA, KB, KP, KQ, reduceCtorEq, ↓reduceIte, Int.reduceLT, Int.reduceLE, Int.reduceAdd, Int.reduceSub, Int.reduceNeg, Int.reduceMul, Int.reduceToNat, Int.reduceEq, Int.reduceNe, Int.reduceGT, Int.reduceGE, Nat.reducePow, Nat.reduceAdd, Nat.reduceSub, Nat.reduceLT, Nat.reduceMul, Nat.reduceDiv, Nat.reduceEqDiff, Nat.reduceLeDiff, KT w, hw.KF, hup]
          refine hK _ _ ?_
          clear hK
          clear K
          repeat with_reducible (first | refine E0 ?_ | refine E1 ?_ | refine E2 ?_ | refine E3 ?_ | refine E4 ?_ | refine E5 (by decide) ?_ | refine E6 ?_ | refine E7 ?_ | refine E8 ?_ | refine E9 ?_ | refine Ea ?_ | refine Eb ?_ | refine Ec ?_ | refine Ed ?_)
          refine W_region fun K hK => ?_
          simp only [KA, KB, KP, KQ, reduceCtorEq, ↓reduceIte, Int.reduceLT, Int.reduceLE, Int.reduceAdd, Int.reduceSub, Int.reduceNeg, Int.reduceMul, Int.reduceToNat, Int.reduceEq, Int.reduceNe, Int.reduceGT, Int.reduceGE, Nat.reducePow, Nat.reduceAdd, Nat.reduceSub, Nat.reduceLT, Nat.reduceMul, Nat.reduceDiv, Nat.reduceEqDiff, Nat.reduceLeDiff, KT w, hw.KF]
          refine hK _ _ ?_
          clear hK
          clear K
          repeat with_reducible (first | refine E0 ?_ | refine E1 ?_ | refine E2 ?_ | refine E3 ?_ | refine E4 ?_ | refine E5 (by decide) ?_ | refine E6 ?_ | refine E7 ?_ | refine E8 ?_ | refine E9 ?_ | refine Ea ?_ | refine Eb ?_ | refine Ec ?_ | refine Ed ?_)
          refine W_condF (by simp only [KA, KP, KQ, reduceCtorEq, ↓reduceIte, Int.reduceLT, Int.reduceLE, Int.reduceAdd, Int.reduceSub, Int.reduceNeg, Int.reduceMul, Int.reduceToNat, Int.reduceEq, Int.reduceNe, Int.reduceGT, Int.reduceGE, Nat.reducePow, Nat.reduceAdd, Nat.reduceSub, Nat.reduceLT, Nat.reduceMul, Nat.reduceDiv, Nat.reduceEqDiff, Nat.reduceLeDiff, KT w, hw.KF]) ?_
          repeat with_reducible (first | refine E0 ?_ | refine E1 ?_ | refine E2 ?_ | refine E3 ?_ | refine E4 ?_ | refine E5 (by decide) ?_ | refine E6 ?_ | refine E7 ?_ | refine E8 ?_ | refine E9 ?_ | refine Ea ?_ | refine Eb ?_ | refine Ec ?_ | refine Ed ?_)
          refine W_regionD [[], [], [], [], [3], [4, 3], [2, 5, 4, 3], [6, 2, 5, 4, 3], [], [7, 6, 2, 5, 4, 3, 8], [9, 7, 6, 2, 5, 4, 3, 8], [1, 10, 9, 7, 6, 2, 5, 4, 3, 8], [0, 11, 1, 10, 9, 7, 6, 2, 5, 4, 3, 8], [12, 0, 11, 1, 10, 9, 7, 6, 2, 5, 4, 3, 8], [12, 0, 11, 1, 10, 9, 7, 6, 2, 5, 4, 3, 8], [13, 12, 0, 11, 1, 10, 9, 7, 6, 2, 5, 4, 3, 8, 14], [14, 12, 0, 11, 1, 10, 9, 7, 6, 2, 5, 4, 3, 8, 15, 13]] (by decide +kernel) (by decide +kernel) (by decide +kernel) fun K hK => ?_
          simp only [KA, KB, KP, KQ, reduceCtorEq, ↓reduceIte, Int.reduceLT, Int.reduceLE, Int.reduceAdd, Int.reduceSub, Int.reduceNeg, Int.reduceMul, Int.reduceToNat, Int.reduceEq, Int.reduceNe, Int.reduceGT, Int.reduceGE, Nat.reducePow, Nat.reduceAdd, Nat.reduceSub, Nat.reduceLT, Nat.reduceMul, Nat.reduceDiv, Nat.reduceEqDiff, Nat.reduceLeDiff, KT w, hw.KF, A58, A59, A5a, A5b, A5c, A5d, A5e, A5f, A5g, A5h, A5i, opP, rfoot, refsO, refs, wfoot, A5j, A5k, noisyOk, pairOk, Foot.isQuiet, Foot.apart, Ft.apart, Foot.none, A5l, A5m, A48, A49, A5n, A5o, A5p, A5q, Nat.reduceBEq, e1, hy, hg2, hlen, hpx', hth, hgo, hrow, hlt, hlt2, hgg, hq1, hq2, hq3, hbo, hok2, ho2, hcap, opX_raw (c := cfg w) hw.e76 hw.m76, Foot.big]
          refine hK _ _ ?_
          clear hK
          clear K
          repeat with_reducible (first | refine E0 ?_ | refine E1 ?_ | refine E2 ?_ | refine E3 ?_ | refine E4 ?_ | refine E5 (by decide) ?_ | refine E6 ?_ | refine E7 ?_ | refine E8 ?_ | refine E9 ?_ | refine Ea ?_ | refine Eb ?_ | refine Ec ?_ | refine Ed ?_)
          refine AtEnd_of rfl ?_
          simp only [KA, KP, KQ, reduceCtorEq, ↓reduceIte, Int.reduceLT, Int.reduceLE, Int.reduceAdd, Int.reduceSub, Int.reduceNeg, Int.reduceMul, Int.reduceToNat, Int.reduceEq, Int.reduceNe, Int.reduceGT, Int.reduceGE, Nat.reducePow, Nat.reduceAdd, Nat.reduceSub, Nat.reduceLT, Nat.reduceMul, Nat.reduceDiv, Nat.reduceEqDiff, Nat.reduceLeDiff, KT w, hw.KF, RS_some, aresults_nil, aresults_tmp, aresults_cell, one]
    obtain ⟨v, S', h1, rfl, rfl⟩ := key
    exact ⟨_, _, h1, hx5, hown5, hnil5⟩

theorem right2_ok (hw : Two w) (n : Node) (p : List Int) (hp : p.length ≤ 17592186044400) (S : St) (hS : S.ok) (hb : S.base ≤ S.n) :
    ∃ b S', callF (cfg w) (lim (cfg w)) 41 [n.av, .vec (ints p)] S = some (.tup [b, .bool (asideP n p 1).isSome], S') ∧ S.Ext S' ∧ (∀ q, asideP n p 1 = some q → Own S' S.n b q) := by
  obtain ⟨b, S2, hc, hx2, hown, -⟩ := aside2_ok hw n p hp (S.push (.row n.cells false)) (St.ok_push hS) (by show S.base ≤ S.n + 1; omega) (.vec (ints p)) (.inl rfl) 1
  have hx0 : S.Ext S2 := ⟨fun h => hx2.ok (St.ok_push h), hx2.base, by have := hx2.n; simp only [St.pushN] at this; omega, fun o ho => by
    rw [hx2.get o (by simp only [St.pushN]; omega), St.get_pushn (by omega)]⟩
  have hown' : ∀ q, asideP n p 1 = some q → Own S2 S.n b q := fun q hq => by
    rcases hown q hq with h | ⟨h1, o, g, h2, h3, h4⟩
    · exact .inl h
    · exact .inr ⟨h1, o, g, h2, by simp only [St.pushN] at h3; omega, h4⟩
  rw [callF_raw (c := cfg w) hw.e41 hw.m41]
  generalize (asideP n p 1).isSome = bb at *
  have key : CallQ (cfg w) 41 [n.av, .vec (ints p)] S fun v S' => v = .tup [b, .bool bb] ∧ S' = S2 := by
    refine call_of_W (fn41 w) rfl ?_
    simp only [Try.f41, List.length_cons, List.length_nil, ↓reduceIte, Int.reduceLT, Int.reduceLE, Int.reduceAdd, Int.reduceSub, Int.reduceNeg, Int.reduceMul, Int.reduceToNat, Int.reduceEq, Int.reduceNe, Int.reduceGT, Int.reduceGE, Nat.reducePow, IntKind.bits, Nat.reduceAdd, Nat.reduceSub, List.cons_append, List.nil_append]
    repeat with_reducible (first | refine E0 ?_ | refine E1 ?_ | refine E2 ?_ | refine E3 ?_ | refine E4 ?_ | refine E5 (by decide) ?_ | refine E6 ?_ | refine E7 ?_ | refine E8 ?_ | refine E9 ?_ | refine Ea ?_ | refine Eb ?_ | refine Ec ?_ | refine Ed ?_)
    refine W_region fun K hK => ?_
    simp only [KA, KB, KP, KQ, reduceCtorEq, ↓reduceIte, Int.reduceLT, Int.reduceLE, Int.reduceAdd, Int.reduceSub, Int.reduceNeg, Int.reduceMul, Int.reduceToNat, Int.reduceEq, Int.reduceNe, Int.reduceGT, Int.reduceGE, Nat.reducePow, Nat.reduceAdd, Nat.reduceSub, Nat.reduceLT, Nat.reduceMul, Nat.reduceDiv, Nat.reduceEqDiff, Nat.reduceLeDiff, KT w, hw.KF]
    refine hK _ _ ?_
    clear hK
    clear K
    repeat with_reducible (first | refine E0 ?_ | refine E1 ?_ | refine E2 ?_ | refine E3 ?_ | refine E4 ?_ | refine E5 (by decide) ?_ | refine E6 ?_ | refine E7 ?_ | refine E8 ?_ | refine E9 ?_ | refine Ea ?_ | refine Eb ?_ | refine Ec ?_ | refine Ed ?_)
    refine W_region fun K hK => ?_
    simp only [KA, KB, KP, KQ, reduceCtorEq, ↓reduceIte, Int.reduceLT, Int.reduceLE, Int.reduceAdd, Int.reduceSub, Int.reduceNeg, Int.reduceMul, Int.reduceToNat, Int.reduceEq, Int.reduceNe, Int.reduceGT, Int.reduceGE, Nat.reducePow, Nat.reduceAdd, Nat.reduceSub, Nat.reduceLT, Nat.reduceMul, Nat.reduceDiv, Nat.reduceEqDiff, Nat.reduceLeDiff, KT w, hw.KF, hc]
    refine hK _ _ ?_
    clear hK
    clear K
    repeat with_reducible (first | refine E0 ?_ | refine E1 ?_ | refine E2 ?_ | refine E3 ?_ | refine E4 ?_ | refine E5 (by decide) ?_ | refine E6 ?_ | refine E7 ?_ | refine E8 ?_ | refine E9 ?_ | refine Ea ?_ | refine Eb ?_ | refine Ec ?_ | refine Ed ?_)
    refine AtEnd_of rfl ?_
    simp only [KA, KP, KQ, reduceCtorEq, ↓reduceIte, Int.reduceLT, Int.reduceLE, Int.reduceAdd, Int.reduceSub, Int.reduceNeg, Int.reduceMul, Int.reduceToNat, Int.reduceEq, Int.reduceNe, Int.reduceGT, Int.reduceGE, Nat.reducePow, Nat.reduceAdd, Nat.reduceSub, Nat.reduceLT, Nat.reduceMul, Nat.reduceDiv, Nat.reduceEqDiff, Nat.reduceLeDiff, KT w, hw.KF, RS_some, aresults_nil, aresults_tmp, aresults_cell, one]
  obtain ⟨v, S', h1, rfl, rfl⟩ := key
  exact ⟨_, _, h1, hx0, hown'⟩

/-- A function whose result is told as plain data, all that it made thrown away. -/
theorem callF_temp2 {c : Cfg} {f : FuncId} {args : List AV} {S : St} {v : AV} (he : c.ext f = none) (hm : c.mode f = .temp) (h : CallQ c f args S.reb fun r S' => ∃ l, frz S' r = some (v, l) ∧ ∀ q ∈ l, S.n ≤ q.1) : callF c (lim c) f args S = some (v, S) := by
  obtain ⟨r, S', h1, l, h2, h3⟩ := h
  unfold St.reb at h1
  have h4 : l.filter (fun q => decide (q.1 < S.n)) = [] := by
    rw [List.filter_eq_nil_iff]
    intro q hq
    have := h3 q hq
    simp; omega
  simp [callF, callM, he, hm, h1, h2, h4, St.lockAll]

theorem left2_ok (hw : Two w) (n : Node) (p : List Int) (hp : p.length ≤ 17592186044400) (S : St) (hS : S.ok) (a : AV) (hrd : Rd S a p) :
    callF (cfg w) (lim (cfg w)) 43 [n.av, a] S = some (resT (asideP n p (-1)), S) := by
  have hex : S.Ext S.reb → True := fun _ => trivial
  have hrdb : Rd (S.reb.push (.row n.cells false)) a p := by
    rcases hrd with rfl | ⟨o, g, rows, exp, h1, h2, h3, h4⟩
    · exact .inl rfl
    · refine .inr ⟨o, g, rows, exp, h1, ?_, h3, by simp only [St.pushN, St.reb_n]; omega⟩
      rw [St.get_pushn (by simp only [St.reb_n]; omega), St.reb_get]; exact h2
  obtain ⟨b, S2, hc, hx2, hown, hnil⟩ := aside2_ok hw n p hp (S.reb.push (.row n.cells false)) (St.ok_push (St.reb_ok hS)) (by simp only [St.pushB, St.pushN, St.reb_base, St.reb_n]; omega) a hrdb (-1)
  refine callF_temp2 hw.e43 hw.m43 ?_
  have hfz : ∃ l, frz S2 (.tup [b, .bool (asideP n p (-1)).isSome]) = some (resT (asideP n p (-1)), l) ∧ ∀ q ∈ l, S.n ≤ q.1 := by
    cases has : asideP n p (-1) with
    | none => rw [hnil has]; exact ⟨[], rfl, fun q hq => by cases hq⟩
    | some r =>
      rcases hown r has with ⟨rfl, rfl⟩ | ⟨h1, o, g, rfl, h3, h4, h5⟩
      · exact ⟨[], rfl, fun q hq => by cases hq⟩
      · refine ⟨[(o, 0 + r.length)], ?_, fun q hq => ?_⟩
        · have hrow : S2.rows o g 0 r.length = some (ints r) := by
            unfold St.rows
            rw [h5]
            simp [ints_len, List.take_of_length_le]
          simp [frz, frzLA, frzA, frz1, hrow, nrmR_ints, nrm, resT]
        · simp only [List.mem_singleton] at hq
          subst hq
          simp only [St.pushN, St.reb_n] at h3
          show S.n ≤ o
          omega
  generalize (asideP n p (-1)).isSome = bb at *
  generalize resT (asideP n p (-1)) = rt at *
  refine call_of_W (fn43 w) rfl ?_
  simp only [Try.f43, List.length_cons, List.length_nil, ↓reduceIte, Int.reduceLT, Int.reduceLE, Int.reduceAdd, Int.reduceSub, Int.reduceNeg, Int.reduceMul, Int.reduceToNat, Int.reduceEq, Int.reduceNe, Int.reduceGT, Int.reduceGE, Nat.reducePow, IntKind.bits, Nat.reduceAdd, Nat.reduceSub, List.cons_append, List.nil_append]
  repeat with_reducible (first | refine E0 ?_ | refine E1 ?_ | refine E2 ?_ | refine E3 ?_ | refine E4 ?_ | refine E5 (by decide) ?_ | refine E6 ?_ | refine E7 ?_ | refine E8 ?_ | refine E9 ?_ | refine Ea ?_ | refine Eb ?_ | refine Ec ?_ | refine Ed ?_)
  refine W_region fun K hK => ?_
  simp only [KA, KB, KP, KQ, reduceCtorEq, ↓reduceIte, Int.reduceLT, Int.reduceLE, Int.reduceAdd, Int.reduceSub, Int.reduceNeg, Int.reduceMul, Int.reduceToNat, Int.reduceEq, Int.reduceNe, Int.reduceGT, Int.reduceGE, Nat.reducePow, Nat.reduceAdd, Nat.reduceSub, Nat.reduceLT, Nat.reduceMul, Nat.reduceDiv, Nat.reduceEqDiff, Nat.reduceLeDiff, KT w, hw.KF]
  refine hK _ _ ?_
  clear hK
  clear K
  repeat with_reducible (first | refine E0 ?_ | refine E1 ?_ | refine E2 ?_ | refine E3 ?_ | refine E4 ?_ | refine E5 (by decide) ?_ | refine E6 ?_ | refine E7 ?_ | refine E8 ?_ | refine E9 ?_ | refine Ea ?_ | refine Eb ?_ | refine Ec ?_ | refine Ed ?_)
  refine W_region fun K hK => ?_
  simp only [KA, KB, KP, KQ, reduceCtorEq, ↓reduceIte, Int.reduceLT, Int.reduceLE, Int.reduceAdd, Int.reduceSub, Int.reduceNeg, Int.reduceMul, Int.reduceToNat, Int.reduceEq, Int.reduceNe, Int.reduceGT, Int.reduceGE, Nat.reducePow, Nat.reduceAdd, Nat.reduceSub, Nat.reduceLT, Nat.reduceMul, Nat.reduceDiv, Nat.reduceEqDiff, Nat.reduceLeDiff, KT w, hw.KF, hc]
  refine hK _ _ ?_
  clear hK
  clear K
  repeat with_reducible (first | refine E0 ?_ | refine E1 ?_ | refine E2 ?_ | refine E3 ?_ | refine E4 ?_ | refine E5 (by decide) ?_ | refine E6 ?_ | refine E7 ?_ | refine E8 ?_ | refine E9 ?_ | refine Ea ?_ | refine Eb ?_ | refine Ec ?_ | refine Ed ?_)
  refine AtEnd_of rfl ?_
  simp only [KA, KP, KQ, reduceCtorEq, ↓reduceIte, Int.reduceLT, Int.reduceLE, Int.reduceAdd, Int.reduceSub, Int.reduceNeg, Int.reduceMul, Int.reduceToNat, Int.reduceEq, Int.reduceNe, Int.reduceGT, Int.reduceGE, Nat.reducePow, Nat.reduceAdd, Nat.reduceSub, Nat.reduceLT, Nat.reduceMul, Nat.reduceDiv, Nat.reduceEqDiff, Nat.reduceLeDiff, KT w, hw.KF, RS_some, aresults_nil, aresults_tmp, aresults_cell, one]
  exact hfz
end Go.Am.B
