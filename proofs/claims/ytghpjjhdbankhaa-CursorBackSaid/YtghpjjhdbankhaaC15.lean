/- ALL PATHS, ONE AFTER ANOTHER: cursor.walk. -/
import Derived.Test.YtghpjjhdbankhaaC3
import Derived.Test.YtghpjjhdbankhaaS0b
set_option linter.unusedSimpArgs false
set_option linter.unusedVariables false
set_option maxRecDepth 20000
namespace Go.Am.B
open Go.Proofs Go.IntWalk

variable {w : Ways}

theorem opX_tmp {c : Cfg} {R : Rec} {f r : Nat} {tm : List AV} {d : Option Tmp} {ty : TypeId} {p : String} {a : Array Edge} {g : Option (Nat × Bool)} {S : St} {t : Tmp} {x : Array Operand} {tt : Array TypeId} :
    opX c R f r tm ⟨d, .call { callee := .value (.tmp t), args := x, argTypes := tt }, ty, p, a, g⟩ S =
    (aeff c R f r tm ⟨d, .call { callee := .value (.tmp t), args := x, argTypes := tt }, ty, p, a, g⟩ S).map fun z => (z.1, z.2, Foot.big) := by
  unfold opX
  rw [show opQ c R tm ⟨d, .call { callee := .value (.tmp t), args := x, argTypes := tt }, ty, p, a, g⟩ S = none from rfl]
  have hc : calmable c tm ⟨d, .call { callee := .value (.tmp t), args := x, argTypes := tt }, ty, p, a, g⟩ = false := rfl
  simp only [hc]
  rw [if_neg (by simp)]
  rfl

mutual
def allP : Node → List Int → List (List Int)
  | .mk _ _ _ _ _ _ ks, p => p :: allL ks p 0
def allL : List Node → List Int → Nat → List (List Int)
  | [], _, _ => []
  | k :: ks, p, i => allP k (p ++ [(i : Int)]) ++ allL ks p (i + 1)
end
theorem allP_eq (n : Node) (p : List Int) : allP n p = p :: allL n.kids p 0 := by cases n; simp [allP, Node.kids]

/-- Memory above l is as it was. -/
structure St.Above (l : Nat) (S S' : St) : Prop where
  ok : S'.ok
  base : S'.base = S.base
  n : S.n ≤ S'.n
  get : ∀ o x, l < o → o < S.n → S.get o = some (.row x false) → S'.get o = some (.row x false)
theorem St.Above.trans {l : Nat} {A B C : St} (h : St.Above l A B) (k : St.Above l B C) : St.Above l A C :=
  ⟨k.ok, k.base.trans h.base, Nat.le_trans h.n k.n, fun o x ho hn hx => k.get o x ho (Nat.lt_of_lt_of_le hn h.n) (h.get o x ho hn hx)⟩

/-- One who takes all that is handed out. -/
structure Taker (w : Ways) (l N : Nat) (J : List (List Int) → St → Prop) : Prop where
  push : ∀ d S o, J d S → J d (S.push o)
  step : ∀ d S p a, J d S → d.length < N → S.ok → S.base = 0 → l < S.n → p.length ≤ 17592186044410 → IsI a p → ∃ S', yieldS (lim (cfg w)) l [a] S = some (.bool true, S') ∧ J (d ++ [p]) S' ∧ St.Above l S S'

/-- How deep a tree is. -/
def Deep (b : Nat) (n : Node) (p : List Int) : Prop := ∀ q ∈ allP n p, q.length ≤ b

theorem visit_ok (hw : Std1 w) (hc : CloneOk w) {l y v N : Nat} {J : List (List Int) → St → Prop} (T : Taker w l N J) (hy : l < y) (hv : l < v) (n : Node) : n.ok → ∀ (p : List Int) (a : AV) (d : List (List Int)) (S : St), IsI a p → Deep 17592186044400 n p → d.length + (allP n p).length ≤ N → J d S → S.ok → S.base = 0 → y < S.n → v < S.n →
    S.get y = some (.row [.yield l] false) → S.get v = some (.row [.fn 92 [] [.ptr y 0, .ptr v 0]] false) →
    ∃ S', (lim (cfg w)).call 92 [n.av, a, .ptr y 0, .ptr v 0] S = some (.bool true, S') ∧ J (d ++ allP n p) S' ∧ St.Above l S S' := by
  induction n using Node.ind with
  | h n ih =>
  intro hn p a d S ha hdeep hN hJ hok hbs hyn hvn hgy hgv
  have hna := ha.nrm
  have hpl : p.length ≤ 17592186044400 := hdeep p (by rw [allP_eq]; exact List.mem_cons_self)
  obtain ⟨S1, hy1, hJ1, hA1⟩ := T.step d (S.push (.row n.cells false)) p a (T.push _ _ _ hJ) (by rw [allP_eq, List.length_cons] at hN; omega) (St.ok_push hok) hbs (by show l < S.n + 1; omega) (by omega) ha
  have hyne : (y = S.n) = False := by simp; omega
  have hvne : (v = S.n) = False := by simp; omega
  have key : CallQ (cfg w) 92 [n.av, a, .ptr y 0, .ptr v 0] S fun r S' => r = .bool true ∧ J (d ++ allP n p) S' ∧ St.Above l S S' := by
    refine call_of_W (fn92 w) rfl ?_
    simp only [Try.f92, List.length_cons, List.length_nil, ↓reduceIte, Int.reduceLT, Int.reduceLE, Int.reduceAdd, Int.reduceSub, Int.reduceNeg, Int.reduceMul, Int.reduceToNat, Int.reduceEq, Int.reduceNe, Int.reduceGT, Int.reduceGE, Nat.reducePow, IntKind.bits, Nat.reduceAdd, Nat.reduceSub, List.cons_append, List.nil_append]
    repeat with_reducible (first | refine E0 ?_ | refine E1 ?_ | refine E2 ?_ | refine E3 ?_ | refine E4 ?_ | refine E5 (by decide) ?_ | refine E6 ?_ | refine E7 ?_ | refine E8 ?_ | refine E9 ?_ | refine Ea ?_ | refine Eb ?_ | refine Ec ?_ | refine Ed ?_)
    refine W_region fun K hK => ?_
    simp only [KA, KB, KP, KQ, reduceCtorEq, ↓reduceIte, Int.reduceLT, Int.reduceLE, Int.reduceAdd, Int.reduceSub, Int.reduceNeg, Int.reduceMul, Int.reduceToNat, Int.reduceEq, Int.reduceNe, Int.reduceGT, Int.reduceGE, Nat.reducePow, Nat.reduceAdd, Nat.reduceSub, Nat.reduceLT, Nat.reduceMul, Nat.reduceDiv, Nat.reduceEqDiff, Nat.reduceLeDiff, KT w, hw.KF]
    refine hK _ _ ?_
    clear hK
    clear K
    repeat with_reducible (first | refine E0 ?_ | refine E1 ?_ | refine E2 ?_ | refine E3 ?_ | refine E4 ?_ | refine E5 (by decide) ?_ | refine E6 ?_ | refine E7 ?_ | refine E8 ?_ | refine E9 ?_ | refine Ea ?_ | refine Eb ?_ | refine Ec ?_ | refine Ed ?_)
    refine W_region fun K hK => ?_
    simp only [KA, KB, KP, KQ, reduceCtorEq, ↓reduceIte, Int.reduceLT, Int.reduceLE, Int.reduceAdd, Int.reduceSub, Int.reduceNeg, Int.reduceMul, Int.reduceToNat, Int.reduceEq, Int.reduceNe, Int.reduceGT, Int.reduceGE, Nat.reducePow, Nat.reduceAdd, Nat.reduceSub, Nat.reduceLT, Nat.reduceMul, Nat.reduceDiv, Nat.reduceEqDiff, Nat.reduceLeDiff, KT w, hw.KF, hgy, hyne, hy1]
    refine hK _ _ ?_
    clear hK
    clear K
    repeat with_reducible (first | refine E0 ?_ | refine E1 ?_ | refine E2 ?_ | refine E3 ?_ | refine E4 ?_ | refine E5 (by decide) ?_ | refine E6 ?_ | refine E7 ?_ | refine E8 ?_ | refine E9 ?_ | refine Ea ?_ | refine Eb ?_ | refine Ec ?_ | refine Ed ?_)
    refine W_condF (by simp only [KA, KP, KQ, reduceCtorEq, ↓reduceIte, Int.reduceLT, Int.reduceLE, Int.reduceAdd, Int.reduceSub, Int.reduceNeg, Int.reduceMul, Int.reduceToNat, Int.reduceEq, Int.reduceNe, Int.reduceGT, Int.reduceGE, Nat.reducePow, Nat.reduceAdd, Nat.reduceSub, Nat.reduceLT, Nat.reduceMul, Nat.reduceDiv, Nat.reduceEqDiff, Nat.reduceLeDiff, KT w, hw.KF]) ?_
    repeat with_reducible (first | refine E0 ?_ | refine E1 ?_ | refine E2 ?_ | refine E3 ?_ | refine E4 ?_ | refine E5 (by decide) ?_ | refine E6 ?_ | refine E7 ?_ | refine E8 ?_ | refine E9 ?_ | refine Ea ?_ | refine Eb ?_ | refine Ec ?_ | refine Ed ?_)
    have hA0 : St.Above l S S1 := ⟨hA1.ok, hA1.base, by have := hA1.n; simp only [St.pushN] at this; omega, fun o x ho hn hx =>
      hA1.get o x ho (by show o < S.n + 1; omega) (by rw [St.get_pushn (by omega)]; exact hx)⟩
    have hg4 : S1.get S.n = some (.row n.cells false) := hA1.get S.n _ (by omega) (by show S.n < S.n + 1; omega) St.get_pushe
    refine W_region fun K hK => ?_
    simp only [KA, KB, KP, KQ, reduceCtorEq, ↓reduceIte, Int.reduceLT, Int.reduceLE, Int.reduceAdd, Int.reduceSub, Int.reduceNeg, Int.reduceMul, Int.reduceToNat, Int.reduceEq, Int.reduceNe, Int.reduceGT, Int.reduceGE, Nat.reducePow, Nat.reduceAdd, Nat.reduceSub, Nat.reduceLT, Nat.reduceMul, Nat.reduceDiv, Nat.reduceEqDiff, Nat.reduceLeDiff, KT w, hw.KF, hg4]
    refine hK _ _ ?_
    clear hK
    clear K
    repeat with_reducible (first | refine E0 ?_ | refine E1 ?_ | refine E2 ?_ | refine E3 ?_ | refine E4 ?_ | refine E5 (by decide) ?_ | refine E6 ?_ | refine E7 ?_ | refine E8 ?_ | refine E9 ?_ | refine Ea ?_ | refine Eb ?_ | refine Ec ?_ | refine Ed ?_)
    have hn1 : S.n < S1.n := by have := hA1.n; simp only [St.pushN] at this; omega
    refine W_loop (fun k fr T' => ∃ (tm : List AV) (i : Nat) (d' : List (List Int)), fr = ⟨tm, [], none, 92⟩ ∧ k = n.kids.length - i ∧ i ≤ n.kids.length ∧ J d' T' ∧ d' ++ allL (n.kids.drop i) p i = d ++ allP n p ∧ (∀ q ∈ allL (n.kids.drop i) p i, q.length ≤ 17592186044400) ∧ St.Above l S T' ∧
       tm.length = 29 ∧ tget tm 1 = a ∧ tget tm 2 = .ptr y 0 ∧ tget tm 3 = .ptr v 0 ∧ tget tm 14 = .vec (Node.rows n.kids) ∧ tget tm 15 = .int .i64 n.kids.length ∧ tget tm 16 = .int .i64 i) n.kids.length
      ⟨_, 0, d ++ [p], rfl, rfl, Nat.zero_le _, hJ1, by rw [allP_eq]; simp, fun q hq => hdeep q (by rw [allP_eq]; exact List.mem_cons_of_mem _ hq), hA0, ?_⟩ ?_
    · simp only [KA, KP, KQ, reduceCtorEq, ↓reduceIte, Int.reduceLT, Int.reduceLE, Int.reduceAdd, Int.reduceSub, Int.reduceNeg, Int.reduceMul, Int.reduceToNat, Int.reduceEq, Int.reduceNe, Int.reduceGT, Int.reduceGE, Nat.reducePow, Nat.reduceAdd, Nat.reduceSub, Nat.reduceLT, Nat.reduceMul, Nat.reduceDiv, Nat.reduceEqDiff, Nat.reduceLeDiff, KT w, hw.KF, Int.ofNat_zero]
    clear hy1 hJ1 hA1 hg4 hn1 hA0 hJ
    rintro k fr T' ⟨tm, i, d', rfl, rfl, hi, hJ', hall, hdp, hAb, htm, h1, h2, h3, h14, h15, h16⟩
    have hkl := Node.ok_kids hn
    repeat with_reducible (first | refine E0 ?_ | refine E1 ?_ | refine E2 ?_ | refine E3 ?_ | refine E4 ?_ | refine E5 (by decide) ?_ | refine E6 ?_ | refine E7 ?_ | refine E8 ?_ | refine E9 ?_ | refine Ea ?_ | refine Eb ?_ | refine Ec ?_ | refine Ed ?_)
    refine W_region fun K hK => ?_
    simp only [KA, KB, KP, KQ, reduceCtorEq, ↓reduceIte, Int.reduceLT, Int.reduceLE, Int.reduceAdd, Int.reduceSub, Int.reduceNeg, Int.reduceMul, Int.reduceToNat, Int.reduceEq, Int.reduceNe, Int.reduceGT, Int.reduceGE, Nat.reducePow, Nat.reduceAdd, Nat.reduceSub, Nat.reduceLT, Nat.reduceMul, Nat.reduceDiv, Nat.reduceEqDiff, Nat.reduceLeDiff, KT w, hw.KF, htm, h15, h16]
    refine hK _ _ ?_
    clear hK
    clear K
    repeat with_reducible (first | refine E0 ?_ | refine E1 ?_ | refine E2 ?_ | refine E3 ?_ | refine E4 ?_ | refine E5 (by decide) ?_ | refine E6 ?_ | refine E7 ?_ | refine E8 ?_ | refine E9 ?_ | refine Ea ?_ | refine Eb ?_ | refine Ec ?_ | refine Ed ?_)
    refine W_condP (p := _) (by simp only [KA, KP, KQ, reduceCtorEq, ↓reduceIte, Int.reduceLT, Int.reduceLE, Int.reduceAdd, Int.reduceSub, Int.reduceNeg, Int.reduceMul, Int.reduceToNat, Int.reduceEq, Int.reduceNe, Int.reduceGT, Int.reduceGE, Nat.reducePow, Nat.reduceAdd, Nat.reduceSub, Nat.reduceLT, Nat.reduceMul, Nat.reduceDiv, Nat.reduceEqDiff, Nat.reduceLeDiff, KT w, hw.KF, htm]; rfl) (fun hb => ?_) (fun hb => ?_)
    · obtain ⟨x, hx⟩ := get_of_lt (l := n.kids) (i := i) (by omega)
      rw [drop_of_get hx, allL] at hall hdp
      have e1 : IntKind.i64.wrap ((i : Int) + 1) = (i : Int) + 1 := i64_in _ (by omega)
      have hwith := PC_nrm (args := [a, .int .i64 i]) hw.e75 hw.m75 (by simp [nrmA, ha.nrm, nrm]) (by simp [nrmA, nrm, nrmR_ints]) (with_ok hw hc p i (by omega))
      have hgv' : T'.get v = some (.row [.fn 92 [] [.ptr y 0, .ptr v 0]] false) := hAb.get v _ hv hvn hgv
      have hgy' : T'.get y = some (.row [.yield l] false) := hAb.get y _ hy hyn hgy
      have hTn := hAb.n
      have hv2 : (v = T'.n) = False := by simp; omega
      have hb' : T'.base = 0 := hAb.base.trans hbs
      have hN' : d'.length + (allP x (p ++ [(i : Int)])).length ≤ N := by have := congrArg List.length hall; simp only [List.length_append] at this; omega
      obtain ⟨S2, hc2, hJ2, hA2⟩ := ih x (List.mem_of_getElem? hx) (Node.ok_kid hn x (List.mem_of_getElem? hx)) (p ++ [(i : Int)]) (.vec (ints (p ++ [(i : Int)]))) d' (T'.push (.row x.cells false)) (.inl rfl)
        (fun q hq => hdp q (List.mem_append_left _ hq)) hN' (T.push _ _ _ hJ') (St.ok_push hAb.ok) hb' (by show y < T'.n + 1; omega) (by show v < T'.n + 1; omega)
        (by rw [St.get_pushn (by omega)]; exact hgy') (by rw [St.get_pushn (by omega)]; exact hgv')
      rw [← callF_raw (c := cfg w) hw.e92 hw.m92] at hc2
      repeat with_reducible (first | refine E0 ?_ | refine E1 ?_ | refine E2 ?_ | refine E3 ?_ | refine E4 ?_ | refine E5 (by decide) ?_ | refine E6 ?_ | refine E7 ?_ | refine E8 ?_ | refine E9 ?_ | refine Ea ?_ | refine Eb ?_ | refine Ec ?_ | refine Ed ?_)
      refine W_region fun K hK => ?_
      simp only [KA, KB, KP, KQ, reduceCtorEq, ↓reduceIte, Int.reduceLT, Int.reduceLE, Int.reduceAdd, Int.reduceSub, Int.reduceNeg, Int.reduceMul, Int.reduceToNat, Int.reduceEq, Int.reduceNe, Int.reduceGT, Int.reduceGE, Nat.reducePow, Nat.reduceAdd, Nat.reduceSub, Nat.reduceLT, Nat.reduceMul, Nat.reduceDiv, Nat.reduceEqDiff, Nat.reduceLeDiff, KT w, hw.KF, htm, h14, h16, hx, hb', hAb.ok, splice, List.length_append]
      refine hK _ _ ?_
      clear hK
      clear K
      repeat with_reducible (first | refine E0 ?_ | refine E1 ?_ | refine E2 ?_ | refine E3 ?_ | refine E4 ?_ | refine E5 (by decide) ?_ | refine E6 ?_ | refine E7 ?_ | refine E8 ?_ | refine E9 ?_ | refine Ea ?_ | refine Eb ?_ | refine Ec ?_ | refine Ed ?_)
      refine W_regionD [[], [], [], [], [2, 3], [0, 1, 4, 2, 3], [5, 0, 1, 4, 2, 3]] (by decide +kernel) (by decide +kernel) (by decide +kernel) fun K hK => ?_
      simp only [KA, KB, KP, KQ, reduceCtorEq, ↓reduceIte, Int.reduceLT, Int.reduceLE, Int.reduceAdd, Int.reduceSub, Int.reduceNeg, Int.reduceMul, Int.reduceToNat, Int.reduceEq, Int.reduceNe, Int.reduceGT, Int.reduceGE, Nat.reducePow, Nat.reduceAdd, Nat.reduceSub, Nat.reduceLT, Nat.reduceMul, Nat.reduceDiv, Nat.reduceEqDiff, Nat.reduceLeDiff, KT w, hw.KF, A58, A59, A5a, A5b, A5c, A5d, A5e, A5f, A5g, A5h, A5i, opP, rfoot, refsO, refs, wfoot, A5j, A5k, noisyOk, pairOk, Foot.isQuiet, Foot.apart, Ft.apart, Foot.none, A5l, A5m, A48, A49, A5n, A5o, A5p, A5q, Nat.reduceBEq, htm, h1, h3, hgv', hv2, hwith, hc2, hna, opX_tmp, Foot.big]
      refine hK _ _ ?_
      clear hK
      clear K
      repeat with_reducible (first | refine E0 ?_ | refine E1 ?_ | refine E2 ?_ | refine E3 ?_ | refine E4 ?_ | refine E5 (by decide) ?_ | refine E6 ?_ | refine E7 ?_ | refine E8 ?_ | refine E9 ?_ | refine Ea ?_ | refine Eb ?_ | refine Ec ?_ | refine Ed ?_)
      refine W_condF (by simp only [KA, KP, KQ, reduceCtorEq, ↓reduceIte, Int.reduceLT, Int.reduceLE, Int.reduceAdd, Int.reduceSub, Int.reduceNeg, Int.reduceMul, Int.reduceToNat, Int.reduceEq, Int.reduceNe, Int.reduceGT, Int.reduceGE, Nat.reducePow, Nat.reduceAdd, Nat.reduceSub, Nat.reduceLT, Nat.reduceMul, Nat.reduceDiv, Nat.reduceEqDiff, Nat.reduceLeDiff, KT w, hw.KF, htm]) ?_
      repeat with_reducible (first | refine E0 ?_ | refine E1 ?_ | refine E2 ?_ | refine E3 ?_ | refine E4 ?_ | refine E5 (by decide) ?_ | refine E6 ?_ | refine E7 ?_ | refine E8 ?_ | refine E9 ?_ | refine Ea ?_ | refine Eb ?_ | refine Ec ?_ | refine Ed ?_)
      refine W_region fun K hK => ?_
      simp only [KA, KB, KP, KQ, reduceCtorEq, ↓reduceIte, Int.reduceLT, Int.reduceLE, Int.reduceAdd, Int.reduceSub, Int.reduceNeg, Int.reduceMul, Int.reduceToNat, Int.reduceEq, Int.reduceNe, Int.reduceGT, Int.reduceGE, Nat.reducePow, Nat.reduceAdd, Nat.reduceSub, Nat.reduceLT, Nat.reduceMul, Nat.reduceDiv, Nat.reduceEqDiff, Nat.reduceLeDiff, KT w, hw.KF, htm, h16, e1]
      refine hK _ _ ?_
      clear hK
      clear K
      have hA3 : St.Above l S S2 := hAb.trans ⟨hA2.ok, hA2.base, by have := hA2.n; simp only [St.pushN] at this; omega, fun o x ho hn' hx =>
        hA2.get o x ho (by show o < T'.n + 1; omega) (by rw [St.get_pushn (by omega)]; exact hx)⟩
      refine ⟨n.kids.length - (i + 1), by omega, _, i + 1, _, rfl, rfl, by omega, hJ2, by rw [← hall, List.append_assoc], fun q hq => hdp q (List.mem_append_right _ hq), hA3, ?_⟩
      simp only [KA, KP, KQ, reduceCtorEq, ↓reduceIte, Int.reduceLT, Int.reduceLE, Int.reduceAdd, Int.reduceSub, Int.reduceNeg, Int.reduceMul, Int.reduceToNat, Int.reduceEq, Int.reduceNe, Int.reduceGT, Int.reduceGE, Nat.reducePow, Nat.reduceAdd, Nat.reduceSub, Nat.reduceLT, Nat.reduceMul, Nat.reduceDiv, Nat.reduceEqDiff, Nat.reduceLeDiff, KT w, hw.KF, htm, h1, h2, h3, h14, h15, Int.natCast_add, A3z]
    · repeat with_reducible (first | refine E0 ?_ | refine E1 ?_ | refine E2 ?_ | refine E3 ?_ | refine E4 ?_ | refine E5 (by decide) ?_ | refine E6 ?_ | refine E7 ?_ | refine E8 ?_ | refine E9 ?_ | refine Ea ?_ | refine Eb ?_ | refine Ec ?_ | refine Ed ?_)
      refine W_region fun K hK => ?_
      simp only [KA, KB, KP, KQ, reduceCtorEq, ↓reduceIte, Int.reduceLT, Int.reduceLE, Int.reduceAdd, Int.reduceSub, Int.reduceNeg, Int.reduceMul, Int.reduceToNat, Int.reduceEq, Int.reduceNe, Int.reduceGT, Int.reduceGE, Nat.reducePow, Nat.reduceAdd, Nat.reduceSub, Nat.reduceLT, Nat.reduceMul, Nat.reduceDiv, Nat.reduceEqDiff, Nat.reduceLeDiff, KT w, hw.KF, htm]
      refine hK _ _ ?_
      clear hK
      clear K
      repeat with_reducible (first | refine E0 ?_ | refine E1 ?_ | refine E2 ?_ | refine E3 ?_ | refine E4 ?_ | refine E5 (by decide) ?_ | refine E6 ?_ | refine E7 ?_ | refine E8 ?_ | refine E9 ?_ | refine Ea ?_ | refine Eb ?_ | refine Ec ?_ | refine Ed ?_)
      refine AtEnd_of rfl ?_
      simp only [KA, KP, KQ, reduceCtorEq, ↓reduceIte, Int.reduceLT, Int.reduceLE, Int.reduceAdd, Int.reduceSub, Int.reduceNeg, Int.reduceMul, Int.reduceToNat, Int.reduceEq, Int.reduceNe, Int.reduceGT, Int.reduceGE, Nat.reducePow, Nat.reduceAdd, Nat.reduceSub, Nat.reduceLT, Nat.reduceMul, Nat.reduceDiv, Nat.reduceEqDiff, Nat.reduceLeDiff, KT w, hw.KF, htm, RS_some, aresults_nil, aresults_tmp, aresults_cell, one]
      rw [List.drop_eq_nil_of_le (by omega), allL, List.append_nil] at hall
      rw [← hall]
      exact ⟨hJ', hAb⟩
  obtain ⟨r, S', h1, rfl, h2⟩ := key
  exact ⟨S', h1, h2⟩

theorem walk_ok (hw : Std1 w) (n : Node) (S : St) : callF (cfg w) (lim (cfg w)) 70 [n.av] S = some (.fn 91 [] [.ptr S.n 0], S.push (.row n.cells false)) := by
  rw [callF_raw (c := cfg w) hw.e70 hw.m70]
  refine call_eq_of ?_
  refine call_of_W (fn70 w) rfl ?_
  simp only [Try.f70, List.length_cons, List.length_nil, ↓reduceIte, Int.reduceLT, Int.reduceLE, Int.reduceAdd, Int.reduceSub, Int.reduceNeg, Int.reduceMul, Int.reduceToNat, Int.reduceEq, Int.reduceNe, Int.reduceGT, Int.reduceGE, Nat.reducePow, IntKind.bits, Nat.reduceAdd, Nat.reduceSub, List.cons_append, List.nil_append]
  repeat with_reducible (first | refine E0 ?_ | refine E1 ?_ | refine E2 ?_ | refine E3 ?_ | refine E4 ?_ | refine E5 (by decide) ?_ | refine E6 ?_ | refine E7 ?_ | refine E8 ?_ | refine E9 ?_ | refine Ea ?_ | refine Eb ?_ | refine Ec ?_ | refine Ed ?_)
  refine W_region fun K hK => ?_
  simp only [KA, KB, KP, KQ, reduceCtorEq, ↓reduceIte, Int.reduceLT, Int.reduceLE, Int.reduceAdd, Int.reduceSub, Int.reduceNeg, Int.reduceMul, Int.reduceToNat, Int.reduceEq, Int.reduceNe, Int.reduceGT, Int.reduceGE, Nat.reducePow, Nat.reduceAdd, Nat.reduceSub, Nat.reduceLT, Nat.reduceMul, Nat.reduceDiv, Nat.reduceEqDiff, Nat.reduceLeDiff, KT w, hw.KF]
  refine hK _ _ ?_
  clear hK
  clear K
  repeat with_reducible (first | refine E0 ?_ | refine E1 ?_ | refine E2 ?_ | refine E3 ?_ | refine E4 ?_ | refine E5 (by decide) ?_ | refine E6 ?_ | refine E7 ?_ | refine E8 ?_ | refine E9 ?_ | refine Ea ?_ | refine Eb ?_ | refine Ec ?_ | refine Ed ?_)
  refine W_region fun K hK => ?_
  simp only [KA, KB, KP, KQ, reduceCtorEq, ↓reduceIte, Int.reduceLT, Int.reduceLE, Int.reduceAdd, Int.reduceSub, Int.reduceNeg, Int.reduceMul, Int.reduceToNat, Int.reduceEq, Int.reduceNe, Int.reduceGT, Int.reduceGE, Nat.reducePow, Nat.reduceAdd, Nat.reduceSub, Nat.reduceLT, Nat.reduceMul, Nat.reduceDiv, Nat.reduceEqDiff, Nat.reduceLeDiff, KT w, hw.KF]
  refine hK _ _ ?_
  clear hK
  clear K
  repeat with_reducible (first | refine E0 ?_ | refine E1 ?_ | refine E2 ?_ | refine E3 ?_ | refine E4 ?_ | refine E5 (by decide) ?_ | refine E6 ?_ | refine E7 ?_ | refine E8 ?_ | refine E9 ?_ | refine Ea ?_ | refine Eb ?_ | refine Ec ?_ | refine Ed ?_)
  refine AtEnd_of rfl ?_
  simp only [KA, KP, KQ, reduceCtorEq, ↓reduceIte, Int.reduceLT, Int.reduceLE, Int.reduceAdd, Int.reduceSub, Int.reduceNeg, Int.reduceMul, Int.reduceToNat, Int.reduceEq, Int.reduceNe, Int.reduceGT, Int.reduceGE, Nat.reducePow, Nat.reduceAdd, Nat.reduceSub, Nat.reduceLT, Nat.reduceMul, Nat.reduceDiv, Nat.reduceEqDiff, Nat.reduceLeDiff, KT w, hw.KF, RS_some, aresults_nil, aresults_tmp, aresults_cell, one]

theorem walk_call (hw : Std1 w) (hc : CloneOk w) {l b N : Nat} {J : List (List Int) → St → Prop} (T : Taker w l N J) (n : Node) (hn : n.ok) (hdeep : Deep 17592186044400 n []) (hN : (allP n []).length ≤ N) (S : St) (hJ : J [] S) (hok : S.ok) (hbs : S.base = 0) (hl : l < S.n) (hbl : b < S.n)
    (hgb : S.get b = some (.row n.cells false)) : ∃ S' r, (lim (cfg w)).call 91 [.yield l, .ptr b 0] S = some (r, S') ∧ J (allP n []) S' ∧ St.Above l S S' := by
  have hb1 : (b = S.n) = False := by simp; omega
  have hb2 : (b = S.n + 1) = False := by simp; omega
  obtain ⟨S2, hv, hJ2, hA2⟩ := visit_ok hw hc (y := S.n) (v := S.n + 1) T hl (by omega) n hn [] .nils [] ((S.push (.row [.yield l] false)).push (.row [.fn 92 [] [.ptr S.n 0, .ptr (S.n + 1) 0]] false)) (.inr (.inr (.inr ⟨rfl, rfl⟩))) hdeep (by simpa using hN) (T.push _ _ _ (T.push _ _ _ hJ))
    (St.ok_push (St.ok_push hok)) hbs (by show S.n < S.n + 1 + 1; omega) (by show S.n + 1 < S.n + 1 + 1; omega) (by rw [St.get_pushn (by show S.n ≠ S.n + 1; omega)]; exact St.get_pushe) St.get_pushe
  rw [← callF_raw (c := cfg w) hw.e92 hw.m92] at hv
  have key : CallQ (cfg w) 91 [.yield l, .ptr b 0] S fun r S' => J (allP n []) S' ∧ St.Above l S S' := by
    refine call_of_W (fn91 w) rfl ?_
    simp only [Try.f91, List.length_cons, List.length_nil, ↓reduceIte, Int.reduceLT, Int.reduceLE, Int.reduceAdd, Int.reduceSub, Int.reduceNeg, Int.reduceMul, Int.reduceToNat, Int.reduceEq, Int.reduceNe, Int.reduceGT, Int.reduceGE, Nat.reducePow, IntKind.bits, Nat.reduceAdd, Nat.reduceSub, List.cons_append, List.nil_append]
    repeat with_reducible (first | refine E0 ?_ | refine E1 ?_ | refine E2 ?_ | refine E3 ?_ | refine E4 ?_ | refine E5 (by decide) ?_ | refine E6 ?_ | refine E7 ?_ | refine E8 ?_ | refine E9 ?_ | refine Ea ?_ | refine Eb ?_ | refine Ec ?_ | refine Ed ?_)
    refine W_region fun K hK => ?_
    simp only [KA, KB, KP, KQ, reduceCtorEq, ↓reduceIte, Int.reduceLT, Int.reduceLE, Int.reduceAdd, Int.reduceSub, Int.reduceNeg, Int.reduceMul, Int.reduceToNat, Int.reduceEq, Int.reduceNe, Int.reduceGT, Int.reduceGE, Nat.reducePow, Nat.reduceAdd, Nat.reduceSub, Nat.reduceLT, Nat.reduceMul, Nat.reduceDiv, Nat.reduceEqDiff, Nat.reduceLeDiff, KT w, hw.KF]
    refine hK _ _ ?_
    clear hK
    clear K
    repeat with_reducible (first | refine E0 ?_ | refine E1 ?_ | refine E2 ?_ | refine E3 ?_ | refine E4 ?_ | refine E5 (by decide) ?_ | refine E6 ?_ | refine E7 ?_ | refine E8 ?_ | refine E9 ?_ | refine Ea ?_ | refine Eb ?_ | refine Ec ?_ | refine Ed ?_)
    refine W_region fun K hK => ?_
    simp only [KA, KB, KP, KQ, reduceCtorEq, ↓reduceIte, Int.reduceLT, Int.reduceLE, Int.reduceAdd, Int.reduceSub, Int.reduceNeg, Int.reduceMul, Int.reduceToNat, Int.reduceEq, Int.reduceNe, Int.reduceGT, Int.reduceGE, Nat.reducePow, Nat.reduceAdd, Nat.reduceSub, Nat.reduceLT, Nat.reduceMul, Nat.reduceDiv, Nat.reduceEqDiff, Nat.reduceLeDiff, KT w, hw.KF]
    refine hK _ _ ?_
    clear hK
    clear K
    repeat with_reducible (first | refine E0 ?_ | refine E1 ?_ | refine E2 ?_ | refine E3 ?_ | refine E4 ?_ | refine E5 (by decide) ?_ | refine E6 ?_ | refine E7 ?_ | refine E8 ?_ | refine E9 ?_ | refine Ea ?_ | refine Eb ?_ | refine Ec ?_ | refine Ed ?_)
    refine W_region fun K hK => ?_
    simp only [KA, KB, KP, KQ, reduceCtorEq, ↓reduceIte, Int.reduceLT, Int.reduceLE, Int.reduceAdd, Int.reduceSub, Int.reduceNeg, Int.reduceMul, Int.reduceToNat, Int.reduceEq, Int.reduceNe, Int.reduceGT, Int.reduceGE, Nat.reducePow, Nat.reduceAdd, Nat.reduceSub, Nat.reduceLT, Nat.reduceMul, Nat.reduceDiv, Nat.reduceEqDiff, Nat.reduceLeDiff, KT w, hw.KF, splice, List.length_append, hok, hbs]
    refine hK _ _ ?_
    clear hK
    clear K
    repeat with_reducible (first | refine E0 ?_ | refine E1 ?_ | refine E2 ?_ | refine E3 ?_ | refine E4 ?_ | refine E5 (by decide) ?_ | refine E6 ?_ | refine E7 ?_ | refine E8 ?_ | refine E9 ?_ | refine Ea ?_ | refine Eb ?_ | refine Ec ?_ | refine Ed ?_)
    refine W_region fun K hK => ?_
    simp only [KA, KB, KP, KQ, reduceCtorEq, ↓reduceIte, Int.reduceLT, Int.reduceLE, Int.reduceAdd, Int.reduceSub, Int.reduceNeg, Int.reduceMul, Int.reduceToNat, Int.reduceEq, Int.reduceNe, Int.reduceGT, Int.reduceGE, Nat.reducePow, Nat.reduceAdd, Nat.reduceSub, Nat.reduceLT, Nat.reduceMul, Nat.reduceDiv, Nat.reduceEqDiff, Nat.reduceLeDiff, KT w, hw.KF, hgb, hb1, hb2, hv]
    refine hK _ _ ?_
    clear hK
    clear K
    repeat with_reducible (first | refine E0 ?_ | refine E1 ?_ | refine E2 ?_ | refine E3 ?_ | refine E4 ?_ | refine E5 (by decide) ?_ | refine E6 ?_ | refine E7 ?_ | refine E8 ?_ | refine E9 ?_ | refine Ea ?_ | refine Eb ?_ | refine Ec ?_ | refine Ed ?_)
    refine AtEnd_of rfl ?_
    simp only [KA, KP, KQ, reduceCtorEq, ↓reduceIte, Int.reduceLT, Int.reduceLE, Int.reduceAdd, Int.reduceSub, Int.reduceNeg, Int.reduceMul, Int.reduceToNat, Int.reduceEq, Int.reduceNe, Int.reduceGT, Int.reduceGE, Nat.reducePow, Nat.reduceAdd, Nat.reduceSub, Nat.reduceLT, Nat.reduceMul, Nat.reduceDiv, Nat.reduceEqDiff, Nat.reduceLeDiff, KT w, hw.KF, RS_some, aresults_nil, aresults_tmp, aresults_cell, one]
    refine ⟨hJ2, hA2.ok, hA2.base, by have := hA2.n; simp only [St.pushN] at this; omega, fun o x ho hn' hx => ?_⟩
    exact hA2.get o x ho (by show o < S.n + 1 + 1; omega) (by rw [St.get_pushn (by show o ≠ S.n + 1; omega), St.get_pushn (by omega)]; exact hx)
  obtain ⟨r, S', h1, h2⟩ := key
  exact ⟨S', r, h1, h2⟩
end Go.Am.B
