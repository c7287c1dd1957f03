/- ALL PATHS IN A ROW: cursor.All and R.All. -/
import Derived.Test.YtghpjjhdbankhaaC15
set_option linter.unusedSimpArgs false
set_option linter.unusedVariables false
set_option maxRecDepth 20000
namespace Go.Am.B
open Go.Proofs Go.IntWalk

variable {w : Ways}

/-- A row of paths. -/
def paths (l : List (List Int)) : Rows := l.map fun p => [.vec (ints p)]
theorem nrm1 {a b : AV} (h : nrm a = some b) : nrmR [[a]] = some [[b]] := by simp only [nrmR, nrmL, h, Option.bind_some, Option.map_some]
def AllJ (L : Lp) (d : List (List Int)) (S : St) : Prop := 4 < S.n ∧ S.get 3 = some .dfr ∧ S.get 4 = some (L.at .ready .nrm) ∧
  ((d = [] ∧ S.get 1 = some (.row [.nils] false)) ∨ ∃ (x : AV) (r : Rows) (o g : Nat), r.length + 1 = d.length ∧ S.get 1 = some (.row [.own ([x] :: r) o g] false) ∧ nrmR ([x] :: r) = some (paths d) ∧ o < S.n ∧ 4 < o ∧ S.get o = some (.tail g))

theorem AllJ.push {L : Lp} (d : List (List Int)) (S : St) (o : AObj) (h : AllJ L d S) : AllJ L d (S.push o) := by
  obtain ⟨h1, h5, h2, h3⟩ := h
  refine ⟨by show 4 < S.n + 1; omega, by rw [St.get_pushn (by omega)]; exact h5, by rw [St.get_pushn (by omega)]; exact h2, ?_⟩
  rcases h3 with ⟨h3, h4⟩ | ⟨x, r, q, g, b, c, e, f, i, j⟩
  · exact .inl ⟨h3, by rw [St.get_pushn (by omega)]; exact h4⟩
  · exact .inr ⟨x, r, q, g, b, by rw [St.get_pushn (by omega)]; exact c, e, by show q < S.n + 1; omega, i, by rw [St.get_pushn (by omega)]; exact j⟩

theorem left0 {S : St} {B X t : AObj} (hok : S.ok) (hn : 4 < S.n) : (((S.set 4 B).set 1 X).push t).get 4 = some B := by
  rw [St.get_pushn (by simp only [St.setN]; omega), St.get_setn (by simp only [St.setN]; omega) (by omega), St.get_sete hok hn]
theorem left0' {S : St} {B X t : AObj} {q : Nat} (hok : S.ok) (hn : 4 < S.n) (hq : q < S.n) (h4 : 4 < q) : (((S.set 4 B).set q t).set 1 X).get 4 = some B := by
  rw [St.get_setn (by simp only [St.setN]; omega) (by omega), St.get_setn (by simp only [St.setN]; omega) (by omega), St.get_sete hok hn]
/-- What is left when one has been taken: the first. -/
theorem left1 {S : St} {B R X t : AObj} (hok : S.ok) (hn : 4 < S.n) : let S1 := (((S.set 4 B).set 1 X).push t).set 4 R
    S1.ok ∧ S1.base = S.base ∧ S1.n = S.n + 1 ∧ S1.get 1 = some X ∧ S1.get 4 = some R ∧ S1.get S.n = some t ∧ ∀ o, o ≠ 1 → o ≠ 4 → o ≠ S.n → S1.get o = S.get o := by
  have k1 : ((S.set 4 B).set 1 X).ok := St.ok_set (St.ok_set hok)
  have k2 : (((S.set 4 B).set 1 X).push t).ok := St.ok_push k1
  refine ⟨St.ok_set k2, by simp only [St.setB, St.pushB], by simp only [St.setN, St.pushN], ?_, ?_, ?_, fun o h1 h4 hS => ?_⟩
  · rw [St.get_setn (by simp only [St.pushN, St.setN]; omega) (by omega), St.get_pushn (by simp only [St.setN]; omega), St.get_sete (St.ok_set hok) (by simp only [St.setN]; omega)]
  · rw [St.get_sete k2 (by simp only [St.pushN, St.setN]; omega)]
  · rw [St.get_setn (by simp only [St.pushN, St.setN]; omega) (by omega), St.get_pushq (by simp only [St.setN])]
  · rw [St.get_setn (by simp only [St.pushN, St.setN]; omega) h4, St.get_pushn (by simp only [St.setN]; omega), St.get_setn (by simp only [St.setN]; omega) h1, St.get_setn (by omega) h4]
/-- What is left when one has been taken: one more. -/
theorem left2 {S : St} {B R X t : AObj} {q : Nat} (hok : S.ok) (hn : 4 < S.n) (hq : q < S.n) (h4 : 4 < q) : let S1 := (((S.set 4 B).set q t).set 1 X).set 4 R
    S1.ok ∧ S1.base = S.base ∧ S1.n = S.n ∧ S1.get 1 = some X ∧ S1.get 4 = some R ∧ S1.get q = some t ∧ ∀ o, o ≠ 1 → o ≠ 4 → o ≠ q → S1.get o = S.get o := by
  have k0 : ((S.set 4 B).set q t).ok := St.ok_set (St.ok_set hok)
  have k1 : (((S.set 4 B).set q t).set 1 X).ok := St.ok_set k0
  refine ⟨St.ok_set k1, by simp only [St.setB], by simp only [St.setN], ?_, ?_, ?_, fun o h1 h4 hS => ?_⟩
  · rw [St.get_setn (by simp only [St.setN]; omega) (by omega), St.get_sete k0 (by simp only [St.setN]; omega)]
  · rw [St.get_sete k1 (by simp only [St.setN]; omega)]
  · rw [St.get_setn (by simp only [St.setN]; omega) (by omega), St.get_setn (by simp only [St.setN]; omega) (by omega), St.get_sete (St.ok_set hok) (by simp only [St.setN]; omega)]
  · rw [St.get_setn (by simp only [St.setN]; omega) h4, St.get_setn (by simp only [St.setN]; omega) h1, St.get_setn (by simp only [St.setN]; omega) hS, St.get_setn (by omega) h4]

theorem yield_true {c : Cfg} {l : Nat} {L : Lp} {p : Ex} {args : List AV} {S : St} {Q : St → Prop} (hg : S.get l = some (L.at .ready p)) (hl : args.length = L.ps.length)
    (h : W c L.asg ⟨(L.ps.zip args).foldl (fun t pa => tput t pa.1 pa.2) L.tm, [], some l, L.fn⟩ S (YA c l L fun v S' => v = .bool true ∧ Q S')) : ∃ S', yieldS (lim c) l args S = some (.bool true, S') ∧ Q S' := by
  obtain ⟨v, S', h1, rfl, h2⟩ := yield_of hg hl h
  exact ⟨S', h1, h2⟩

theorem all_ok (hw : Std1 w) (hc : CloneOk w) (n : Node) (hn : n.ok) (hdeep : Deep 17592186044400 n []) (hN : (allP n []).length ≤ 1000000) : PC (cfg w) 28 [n.av] (.vec (paths (allP n []))) := by
  refine PC_of (args' := [n.av]) hw.e28 hw.m28 (by simp [nrmA, nrm, Node.nrm_all]) ?_
  have hwalk := walk_ok hw n
  refine call_of_W (fn28 w) rfl ?_
  simp only [Try.f28, List.length_cons, List.length_nil, ↓reduceIte, Int.reduceLT, Int.reduceLE, Int.reduceAdd, Int.reduceSub, Int.reduceNeg, Int.reduceMul, Int.reduceToNat, Int.reduceEq, Int.reduceNe, Int.reduceGT, Int.reduceGE, Nat.reducePow, IntKind.bits, Nat.reduceAdd, Nat.reduceSub, List.cons_append, List.nil_append]
  repeat with_reducible (first | refine E0 ?_ | refine E1 ?_ | refine E2 ?_ | refine E3 ?_ | refine E4 ?_ | refine E5 (by decide) ?_ | refine E6 ?_ | refine E7 ?_ | refine E8 ?_ | refine E9 ?_ | refine Ea ?_ | refine Eb ?_ | refine Ec ?_ | refine Ed ?_)
  refine W_region fun K hK => ?_
  simp only [KA, KB, KP, KQ, reduceCtorEq, ↓reduceIte, Int.reduceLT, Int.reduceLE, Int.reduceAdd, Int.reduceSub, Int.reduceNeg, Int.reduceMul, Int.reduceToNat, Int.reduceEq, Int.reduceNe, Int.reduceGT, Int.reduceGE, Nat.reducePow, Nat.reduceAdd, Nat.reduceSub, Nat.reduceLT, Nat.reduceMul, Nat.reduceDiv, Nat.reduceEqDiff, Nat.reduceLeDiff, KT w, hw.KF]
  refine hK _ _ ?_
  clear hK
  clear K
  repeat with_reducible (first | refine E0 ?_ | refine E1 ?_ | refine E2 ?_ | refine E3 ?_ | refine E4 ?_ | refine E5 (by decide) ?_ | refine E6 ?_ | refine E7 ?_ | refine E8 ?_ | refine E9 ?_ | refine Ea ?_ | refine Eb ?_ | refine Ec ?_ | refine Ed ?_)
  refine W_region fun K hK => ?_
  simp only [KA, KB, KP, KQ, reduceCtorEq, ↓reduceIte, Int.reduceLT, Int.reduceLE, Int.reduceAdd, Int.reduceSub, Int.reduceNeg, Int.reduceMul, Int.reduceToNat, Int.reduceEq, Int.reduceNe, Int.reduceGT, Int.reduceGE, Nat.reducePow, Nat.reduceAdd, Nat.reduceSub, Nat.reduceLT, Nat.reduceMul, Nat.reduceDiv, Nat.reduceEqDiff, Nat.reduceLeDiff, KT w, hw.KF]
  refine hK _ _ ?_
  clear hK
  clear K
  repeat with_reducible (first | refine E0 ?_ | refine E1 ?_ | refine E2 ?_ | refine E3 ?_ | refine E4 ?_ | refine E5 (by decide) ?_ | refine E6 ?_ | refine E7 ?_ | refine E8 ?_ | refine E9 ?_ | refine Ea ?_ | refine Eb ?_ | refine Ec ?_ | refine Ed ?_)
  refine W_region fun K hK => ?_
  simp only [KA, KB, KP, KQ, reduceCtorEq, ↓reduceIte, Int.reduceLT, Int.reduceLE, Int.reduceAdd, Int.reduceSub, Int.reduceNeg, Int.reduceMul, Int.reduceToNat, Int.reduceEq, Int.reduceNe, Int.reduceGT, Int.reduceGE, Nat.reducePow, Nat.reduceAdd, Nat.reduceSub, Nat.reduceLT, Nat.reduceMul, Nat.reduceDiv, Nat.reduceEqDiff, Nat.reduceLeDiff, KT w, hw.KF, hwalk]
  refine hK _ _ ?_
  clear hK
  clear K
  repeat with_reducible (first | refine E0 ?_ | refine E1 ?_ | refine E2 ?_ | refine E3 ?_ | refine E4 ?_ | refine E5 (by decide) ?_ | refine E6 ?_ | refine E7 ?_ | refine E8 ?_ | refine E9 ?_ | refine Ea ?_ | refine Eb ?_ | refine Ec ?_ | refine Ed ?_)
  refine W_range (by simp only [KA, KP, KQ, reduceCtorEq, ↓reduceIte, Int.reduceLT, Int.reduceLE, Int.reduceAdd, Int.reduceSub, Int.reduceNeg, Int.reduceMul, Int.reduceToNat, Int.reduceEq, Int.reduceNe, Int.reduceGT, Int.reduceGE, Nat.reducePow, Nat.reduceAdd, Nat.reduceSub, Nat.reduceLT, Nat.reduceMul, Nat.reduceDiv, Nat.reduceEqDiff, Nat.reduceLeDiff, KT w, hw.KF]; rfl) fun L hL => ?_
  have hps := congrArg Lp.ps hL
  have hasg := congrArg Lp.asg hL
  have hbody := congrArg Lp.body hL
  have hfn := congrArg Lp.fn hL
  have hl : L.tm.length = 13 := by rw [hL]; simp only [KA, KP, KQ, reduceCtorEq, ↓reduceIte, Int.reduceLT, Int.reduceLE, Int.reduceAdd, Int.reduceSub, Int.reduceNeg, Int.reduceMul, Int.reduceToNat, Int.reduceEq, Int.reduceNe, Int.reduceGT, Int.reduceGE, Nat.reducePow, Nat.reduceAdd, Nat.reduceSub, Nat.reduceLT, Nat.reduceMul, Nat.reduceDiv, Nat.reduceEqDiff, Nat.reduceLeDiff, KT w, hw.KF]
  have h3 : tget L.tm 3 = .ptr 1 0 := by rw [hL]; simp only [KA, KP, KQ, reduceCtorEq, ↓reduceIte, Int.reduceLT, Int.reduceLE, Int.reduceAdd, Int.reduceSub, Int.reduceNeg, Int.reduceMul, Int.reduceToNat, Int.reduceEq, Int.reduceNe, Int.reduceGT, Int.reduceGE, Nat.reducePow, Nat.reduceAdd, Nat.reduceSub, Nat.reduceLT, Nat.reduceMul, Nat.reduceDiv, Nat.reduceEqDiff, Nat.reduceLeDiff, KT w, hw.KF]
  simp only at hps hasg hbody hfn
  clear hL
  have T : Taker w 4 1000000 (AllJ L) := by
    refine ⟨AllJ.push, ?_⟩
    rintro d S p a ⟨hn4, hdf, hg, hh⟩ hd hok hbs - hpl ha
    have hna := ha.nrm
    have hne1 : (1 = S.n) = False := by simp; omega
    have hne4 : (4 = S.n) = False := by simp; omega
    have hle1 : (S.n ≤ 1) = False := by simp; omega
    rcases hh with ⟨rfl, h1⟩ | ⟨x, r, o, g, hrl, h1, hnr, hon, h4o, hto⟩
    · rcases ha with rfl | ⟨o', g', rfl⟩ | rfl | ⟨rfl, rfl⟩
      all_goals
        refine yield_true hg (by rw [hps]; rfl) ?_
        rw [hasg, hps, hfn]
        simp only [List.zip_cons_cons, List.zip_nil_right, List.foldl]
        repeat with_reducible (first | refine E0 ?_ | refine E1 ?_ | refine E2 ?_ | refine E3 ?_ | refine E4 ?_ | refine E5 (by decide) ?_ | refine E6 ?_ | refine E7 ?_ | refine E8 ?_ | refine E9 ?_ | refine Ea ?_ | refine Eb ?_ | refine Ec ?_ | refine Ed ?_)
        refine W_region fun K hK => ?_
        simp only [KA, KB, KP, KQ, reduceCtorEq, ↓reduceIte, Int.reduceLT, Int.reduceLE, Int.reduceAdd, Int.reduceSub, Int.reduceNeg, Int.reduceMul, Int.reduceToNat, Int.reduceEq, Int.reduceNe, Int.reduceGT, Int.reduceGE, Nat.reducePow, Nat.reduceAdd, Nat.reduceSub, Nat.reduceLT, Nat.reduceMul, Nat.reduceDiv, Nat.reduceEqDiff, Nat.reduceLeDiff, KT w, hw.KF, hl]
        refine hK _ _ ?_
        clear hK
        clear K
        refine ⟨rfl, .nrm, hg, by omega, ?_⟩
        rw [hbody]
        repeat with_reducible (first | refine E0 ?_ | refine E1 ?_ | refine E2 ?_ | refine E3 ?_ | refine E4 ?_ | refine E5 (by decide) ?_ | refine E6 ?_ | refine E7 ?_ | refine E8 ?_ | refine E9 ?_ | refine Ea ?_ | refine Eb ?_ | refine Ec ?_ | refine Ed ?_)
        refine W_region fun K hK => ?_
        simp only [KA, KB, KP, KQ, reduceCtorEq, ↓reduceIte, Int.reduceLT, Int.reduceLE, Int.reduceAdd, Int.reduceSub, Int.reduceNeg, Int.reduceMul, Int.reduceToNat, Int.reduceEq, Int.reduceNe, Int.reduceGT, Int.reduceGE, Nat.reducePow, Nat.reduceAdd, Nat.reduceSub, Nat.reduceLT, Nat.reduceMul, Nat.reduceDiv, Nat.reduceEqDiff, Nat.reduceLeDiff, KT w, hw.KF, hl, h3, h1, hok, hn4, hbs, hne1, hle1, splice, List.length_append]
        refine hK _ _ ?_
        clear hK
        clear K
        repeat with_reducible (first | refine E0 ?_ | refine E1 ?_ | refine E2 ?_ | refine E3 ?_ | refine E4 ?_ | refine E5 (by decide) ?_ | refine E6 ?_ | refine E7 ?_ | refine E8 ?_ | refine E9 ?_ | refine Ea ?_ | refine Eb ?_ | refine Ec ?_ | refine Ed ?_)
        refine ⟨⟨.busy, .nrm, left0 hok hn4⟩, by show S.base ≤ 4; omega, ?_⟩
        simp only [decide_true, if_true]
        obtain ⟨l1, l2, l3, l4, l5, l6, l7⟩ := left1 (B := L.at LoopState.busy Ex.nrm) (R := L.at LoopState.ready Ex.nrm) (X := AObj.row [AV.own [[_]] S.n 0] false) (t := AObj.tail 0) hok hn4
        refine ⟨trivial, ⟨by omega, by rw [l7 3 (by omega) (by omega) (by omega)]; exact hdf, l5, .inr ⟨_, [], S.n, 0, rfl, l4, by simp only [nrmR, nrmL, hna, paths, Option.bind_some, Option.map_some, List.nil_append, List.map_cons, List.map_nil], by omega, hn4, l6⟩⟩, l1, l2, by omega, fun o y ho hn' hy => by rw [l7 o (by omega) (by omega) (by omega)]; exact hy⟩
    · have ho4 : (o = 4) = False := by simp; omega
      have ho1 : (1 = o) = False := by simp; omega
      have hcap : ((r.length + 1 + 1 + (r.length + 1 + 1) / 4 + 1000) * 24 ≤ 281474976710656) = True := by simp; omega
      rcases ha with rfl | ⟨o', g', rfl⟩ | rfl | ⟨rfl, rfl⟩
      all_goals
        refine yield_true hg (by rw [hps]; rfl) ?_
        rw [hasg, hps, hfn]
        simp only [List.zip_cons_cons, List.zip_nil_right, List.foldl]
        repeat with_reducible (first | refine E0 ?_ | refine E1 ?_ | refine E2 ?_ | refine E3 ?_ | refine E4 ?_ | refine E5 (by decide) ?_ | refine E6 ?_ | refine E7 ?_ | refine E8 ?_ | refine E9 ?_ | refine Ea ?_ | refine Eb ?_ | refine Ec ?_ | refine Ed ?_)
        refine W_region fun K hK => ?_
        simp only [KA, KB, KP, KQ, reduceCtorEq, ↓reduceIte, Int.reduceLT, Int.reduceLE, Int.reduceAdd, Int.reduceSub, Int.reduceNeg, Int.reduceMul, Int.reduceToNat, Int.reduceEq, Int.reduceNe, Int.reduceGT, Int.reduceGE, Nat.reducePow, Nat.reduceAdd, Nat.reduceSub, Nat.reduceLT, Nat.reduceMul, Nat.reduceDiv, Nat.reduceEqDiff, Nat.reduceLeDiff, KT w, hw.KF, hl]
        refine hK _ _ ?_
        clear hK
        clear K
        refine ⟨rfl, .nrm, hg, by omega, ?_⟩
        rw [hbody]
        repeat with_reducible (first | refine E0 ?_ | refine E1 ?_ | refine E2 ?_ | refine E3 ?_ | refine E4 ?_ | refine E5 (by decide) ?_ | refine E6 ?_ | refine E7 ?_ | refine E8 ?_ | refine E9 ?_ | refine Ea ?_ | refine Eb ?_ | refine Ec ?_ | refine Ed ?_)
        refine W_region fun K hK => ?_
        simp only [KA, KB, KP, KQ, reduceCtorEq, ↓reduceIte, Int.reduceLT, Int.reduceLE, Int.reduceAdd, Int.reduceSub, Int.reduceNeg, Int.reduceMul, Int.reduceToNat, Int.reduceEq, Int.reduceNe, Int.reduceGT, Int.reduceGE, Nat.reducePow, Nat.reduceAdd, Nat.reduceSub, Nat.reduceLT, Nat.reduceMul, Nat.reduceDiv, Nat.reduceEqDiff, Nat.reduceLeDiff, KT w, hw.KF, hl, h3, h1, hok, hn4, hbs, splice, List.length_append, hto, hon, ho4, ho1, hcap, List.isEmpty_cons]
        refine hK _ _ ?_
        clear hK
        clear K
        repeat with_reducible (first | refine E0 ?_ | refine E1 ?_ | refine E2 ?_ | refine E3 ?_ | refine E4 ?_ | refine E5 (by decide) ?_ | refine E6 ?_ | refine E7 ?_ | refine E8 ?_ | refine E9 ?_ | refine Ea ?_ | refine Eb ?_ | refine Ec ?_ | refine Ed ?_)
        refine ⟨⟨.busy, .nrm, left0' hok hn4 hon h4o⟩, by show S.base ≤ 4; omega, ?_⟩
        simp only [decide_true, if_true]
        obtain ⟨l1, l2, l3, l4, l5, l6, l7⟩ := left2 (B := L.at LoopState.busy Ex.nrm) (R := L.at LoopState.ready Ex.nrm) (X := AObj.row [AV.own ([x] :: (r ++ [[_]])) o (g + 1)] false) (t := AObj.tail (g + 1)) hok hn4 hon h4o
        refine ⟨trivial, ⟨by omega, by rw [l7 3 (by omega) (by omega) (by omega)]; exact hdf, l5, .inr ⟨x, r ++ [[_]], o, g + 1, by simp only [List.length_append, List.length_cons, List.length_nil]; omega, l4, ?_, by omega, h4o, l6⟩⟩, l1, l2, by omega, fun o2 y ho hn' hy => ?_⟩
        · have hx := nrm1 hna
          have := nrmR_append hnr hx
          simpa [paths] using this
        · by_cases e : o2 = o
          · subst e; rw [hto] at hy; cases hy
          · rw [l7 _ (by omega) (by omega) e]; exact hy
  obtain ⟨S', r, hr, hJ, hA⟩ := walk_call hw hc T n hn hdeep hN (b := 2) (((((St.nil.push (AObj.row n.cells false)).push (AObj.row [AV.nils] false)).push (AObj.row n.cells false)).push AObj.dfr).push (L.at LoopState.ready Ex.nrm)) (by
      refine ⟨by simp only [KA, KP, KQ, reduceCtorEq, ↓reduceIte, Int.reduceLT, Int.reduceLE, Int.reduceAdd, Int.reduceSub, Int.reduceNeg, Int.reduceMul, Int.reduceToNat, Int.reduceEq, Int.reduceNe, Int.reduceGT, Int.reduceGE, Nat.reducePow, Nat.reduceAdd, Nat.reduceSub, Nat.reduceLT, Nat.reduceMul, Nat.reduceDiv, Nat.reduceEqDiff, Nat.reduceLeDiff, KT w, hw.KF], by simp only [KA, KP, KQ, reduceCtorEq, ↓reduceIte, Int.reduceLT, Int.reduceLE, Int.reduceAdd, Int.reduceSub, Int.reduceNeg, Int.reduceMul, Int.reduceToNat, Int.reduceEq, Int.reduceNe, Int.reduceGT, Int.reduceGE, Nat.reducePow, Nat.reduceAdd, Nat.reduceSub, Nat.reduceLT, Nat.reduceMul, Nat.reduceDiv, Nat.reduceEqDiff, Nat.reduceLeDiff, KT w, hw.KF], by simp only [KA, KP, KQ, reduceCtorEq, ↓reduceIte, Int.reduceLT, Int.reduceLE, Int.reduceAdd, Int.reduceSub, Int.reduceNeg, Int.reduceMul, Int.reduceToNat, Int.reduceEq, Int.reduceNe, Int.reduceGT, Int.reduceGE, Nat.reducePow, Nat.reduceAdd, Nat.reduceSub, Nat.reduceLT, Nat.reduceMul, Nat.reduceDiv, Nat.reduceEqDiff, Nat.reduceLeDiff, KT w, hw.KF], .inl ⟨rfl, by simp only [KA, KP, KQ, reduceCtorEq, ↓reduceIte, Int.reduceLT, Int.reduceLE, Int.reduceAdd, Int.reduceSub, Int.reduceNeg, Int.reduceMul, Int.reduceToNat, Int.reduceEq, Int.reduceNe, Int.reduceGT, Int.reduceGE, Nat.reducePow, Nat.reduceAdd, Nat.reduceSub, Nat.reduceLT, Nat.reduceMul, Nat.reduceDiv, Nat.reduceEqDiff, Nat.reduceLeDiff, KT w, hw.KF]⟩⟩) (St.ok_push (St.ok_push (St.ok_push (St.ok_push (St.ok_push St.ok_nil))))) rfl (by simp only [KA, KP, KQ, reduceCtorEq, ↓reduceIte, Int.reduceLT, Int.reduceLE, Int.reduceAdd, Int.reduceSub, Int.reduceNeg, Int.reduceMul, Int.reduceToNat, Int.reduceEq, Int.reduceNe, Int.reduceGT, Int.reduceGE, Nat.reducePow, Nat.reduceAdd, Nat.reduceSub, Nat.reduceLT, Nat.reduceMul, Nat.reduceDiv, Nat.reduceEqDiff, Nat.reduceLeDiff, KT w, hw.KF]) (by simp only [KA, KP, KQ, reduceCtorEq, ↓reduceIte, Int.reduceLT, Int.reduceLE, Int.reduceAdd, Int.reduceSub, Int.reduceNeg, Int.reduceMul, Int.reduceToNat, Int.reduceEq, Int.reduceNe, Int.reduceGT, Int.reduceGE, Nat.reducePow, Nat.reduceAdd, Nat.reduceSub, Nat.reduceLT, Nat.reduceMul, Nat.reduceDiv, Nat.reduceEqDiff, Nat.reduceLeDiff, KT w, hw.KF]) (by simp only [KA, KP, KQ, reduceCtorEq, ↓reduceIte, Int.reduceLT, Int.reduceLE, Int.reduceAdd, Int.reduceSub, Int.reduceNeg, Int.reduceMul, Int.reduceToNat, Int.reduceEq, Int.reduceNe, Int.reduceGT, Int.reduceGE, Nat.reducePow, Nat.reduceAdd, Nat.reduceSub, Nat.reduceLT, Nat.reduceMul, Nat.reduceDiv, Nat.reduceEqDiff, Nat.reduceLeDiff, KT w, hw.KF])
  refine ⟨r, S', hr, .ready, .nrm, hJ.2.2.1, by simp, by have := hA.base; simp only [St.pushB, St.nil_base] at this; omega, ?_⟩
  have hb' := hA.base
  have hn' := hA.n
  have hok' := hA.ok
  simp only [St.pushB, St.pushN, St.nil_base, St.nil_n] at hb' hn'
  obtain ⟨k1, k2, k3, k4⟩ := hJ
  have hg1 : ∃ v, S'.get 1 = some (.row [v] false) ∧ nrm v = some (.vec (paths (allP n []))) := by
    rcases k4 with ⟨h, -⟩ | ⟨x, r, o, g, -, h, h', -⟩
    · rw [allP_eq] at h; cases h
    · exact ⟨_, h, by simp [nrm, h']⟩
  obtain ⟨v, hv, hv'⟩ := hg1
  repeat with_reducible (first | refine E0 ?_ | refine E1 ?_ | refine E2 ?_ | refine E3 ?_ | refine E4 ?_ | refine E5 (by decide) ?_ | refine E6 ?_ | refine E7 ?_ | refine E8 ?_ | refine E9 ?_ | refine Ea ?_ | refine Eb ?_ | refine Ec ?_ | refine Ed ?_)
  refine W_region fun K hK => ?_
  simp only [KA, KB, KP, KQ, reduceCtorEq, ↓reduceIte, Int.reduceLT, Int.reduceLE, Int.reduceAdd, Int.reduceSub, Int.reduceNeg, Int.reduceMul, Int.reduceToNat, Int.reduceEq, Int.reduceNe, Int.reduceGT, Int.reduceGE, Nat.reducePow, Nat.reduceAdd, Nat.reduceSub, Nat.reduceLT, Nat.reduceMul, Nat.reduceDiv, Nat.reduceEqDiff, Nat.reduceLeDiff, KT w, hw.KF, hv, k1, hok', hb']
  refine hK _ _ ?_
  clear hK
  clear K
  repeat with_reducible (first | refine E0 ?_ | refine E1 ?_ | refine E2 ?_ | refine E3 ?_ | refine E4 ?_ | refine E5 (by decide) ?_ | refine E6 ?_ | refine E7 ?_ | refine E8 ?_ | refine E9 ?_ | refine Ea ?_ | refine Eb ?_ | refine Ec ?_ | refine Ed ?_)
  have h3' : (S'.set 4 (L.at LoopState.exhausted Ex.nrm)).get 3 = some .dfr := by rw [St.get_setn (by omega) (by omega)]; exact k2
  simp only [St.pushN, St.nil_n]
  refine AtEnd_one rfl h3' (by show S'.base ≤ 3; omega) ?_
  simp only [KA, KP, KQ, reduceCtorEq, ↓reduceIte, Int.reduceLT, Int.reduceLE, Int.reduceAdd, Int.reduceSub, Int.reduceNeg, Int.reduceMul, Int.reduceToNat, Int.reduceEq, Int.reduceNe, Int.reduceGT, Int.reduceGE, Nat.reducePow, Nat.reduceAdd, Nat.reduceSub, Nat.reduceLT, Nat.reduceMul, Nat.reduceDiv, Nat.reduceEqDiff, Nat.reduceLeDiff, KT w, hw.KF, RS_some, aresults_nil, aresults_tmp, aresults_cell, one]
  exact FZ_plain hv' (fun vs h => by subst h; simp [nrm] at hv')
end Go.Am.B
