/- ALL NODES, ONE AFTER ANOTHER: node.walk. -/
import Derived.Test.YtghpjjhdbankhaaC1
import Derived.Test.YtghpjjhdbankhaaS0b
set_option linter.unusedSimpArgs false
set_option linter.unusedVariables false
set_option maxRecDepth 20000
namespace Go.Am.B
open Go.Proofs Go.IntWalk

variable {w : Ways}

mutual
/-- All nodes, each with how deep it is. -/
def preN : Node → Nat → List (Nat × Node)
  | .mk k nm fl a b dd ks, d => (d, .mk k nm fl a b dd ks) :: preL ks (d + 1)
def preL : List Node → Nat → List (Nat × Node)
  | [], _ => []
  | k :: ks, d => preN k d ++ preL ks d
end
theorem preN_eq (n : Node) (d : Nat) : preN n d = (d, n) :: preL n.kids (d + 1) := by cases n; simp [preN, Node.kids]

/-- One after another, till one is refused. -/
def runT {σ : Type} (stp : σ → Nat × Node → σ × Bool) : List (Nat × Node) → σ → σ × Bool
  | [], s => (s, true)
  | x :: xs, s => if (stp s x).2 then runT stp xs (stp s x).1 else ((stp s x).1, false)
theorem runT_t {σ : Type} {stp : σ → Nat × Node → σ × Bool} {x : Nat × Node} {xs : List (Nat × Node)} {s : σ} (h : (stp s x).2 = true) : runT stp (x :: xs) s = runT stp xs (stp s x).1 := by
  rw [runT, if_pos h]
theorem runT_f {σ : Type} {stp : σ → Nat × Node → σ × Bool} {x : Nat × Node} {xs : List (Nat × Node)} {s : σ} (h : ¬ (stp s x).2 = true) : runT stp (x :: xs) s = ((stp s x).1, false) := by
  rw [runT, if_neg h]
theorem runT_app {σ : Type} (stp : σ → Nat × Node → σ × Bool) (a b : List (Nat × Node)) (s : σ) : runT stp (a ++ b) s = if (runT stp a s).2 then runT stp b (runT stp a s).1 else runT stp a s := by
  induction a generalizing s with
  | nil => simp [runT]
  | cons x xs ih =>
    rw [List.cons_append]
    by_cases h : (stp s x).2 = true
    · rw [runT_t h, runT_t h]; exact ih _
    · rw [runT_f h, runT_f h]; simp
theorem runT_len {σ : Type} {stp : σ → Nat × Node → σ × Bool} {len : σ → Nat} (hg : ∀ s x, len (stp s x).1 ≤ len s + 1) (l : List (Nat × Node)) (s : σ) : len (runT stp l s).1 ≤ len s + l.length := by
  induction l generalizing s with
  | nil => simp [runT]
  | cons x xs ih =>
    simp only [runT]
    have h1 := hg s x
    split
    · have := ih (stp s x).1; simp only [List.length_cons]; omega
    · simp only [List.length_cons]; omega

/-- Memory above l is as it was. -/
structure St.Abv (l : Nat) (S S' : St) : Prop where
  ok : S'.ok
  base : S'.base = S.base
  n : S.n ≤ S'.n
  get : ∀ o x, l < o → o < S.n → S.get o = some (.row x false) → S'.get o = some (.row x false)
theorem St.Abv.trans {l : Nat} {A B C : St} (h : St.Abv l A B) (k : St.Abv l B C) : St.Abv l A C :=
  ⟨k.ok, k.base.trans h.base, Nat.le_trans h.n k.n, fun o x ho hn hx => k.get o x ho (Nat.lt_of_lt_of_le hn h.n) (h.get o x ho hn hx)⟩

structure Tak (w : Ways) (l N : Nat) {σ : Type} (stp : σ → Nat × Node → σ × Bool) (len : σ → Nat) (J : Bool → σ → St → Prop) : Prop where
  grow : ∀ s x, len (stp s x).1 ≤ len s + 1
  push : ∀ b s S o, J b s S → J b s (S.push o)
  step : ∀ s S d n, J true s S → n.ok → len s < N → d ≤ 1000000 → S.ok → S.base = 0 → l < S.n → ∃ S', yieldS (lim (cfg w)) l [.int .i64 (d : Nat), n.av] S = some (.bool (stp s (d, n)).2, S') ∧ J (stp s (d, n)).2 (stp s (d, n)).1 S' ∧ St.Abv l S S'

theorem visitN_ok (hw : Std w) {l y v N : Nat} {σ : Type} {stp : σ → Nat × Node → σ × Bool} {len : σ → Nat} {J : Bool → σ → St → Prop} (T : Tak w l N stp len J) (hy : l < y) (hv : l < v) (n : Node) : n.ok → ∀ (d : Nat) (s : σ) (S : St), d + (preN n d).length ≤ 1000000 → len s + (preN n d).length ≤ N → J true s S → S.ok → S.base = 0 → y < S.n → v < S.n →
    S.get y = some (.row [.yield l] false) → S.get v = some (.row [.fn 95 [] [.ptr y 0, .ptr v 0]] false) →
    ∃ S', (lim (cfg w)).call 95 [n.av, .int .i64 (d : Nat), .ptr y 0, .ptr v 0] S = some (.bool (runT stp (preN n d) s).2, S') ∧ J (runT stp (preN n d) s).2 (runT stp (preN n d) s).1 S' ∧ St.Abv l S S' := by
  induction n using Node.ind with
  | h n ih =>
  intro hn d s S hdeep hN hJ hok hbs hyn hvn hgy hgv
  have hkl := Node.ok_kids hn
  have hpl : (preN n d).length = (preL n.kids (d + 1)).length + 1 := by rw [preN_eq]; rfl
  obtain ⟨S1, hy1, hJ1, hA1⟩ := T.step s (S.push (.row n.cells false)) d n (T.push _ _ _ _ hJ) hn (by omega) (by omega) (St.ok_push hok) hbs (by show l < S.n + 1; omega)
  have hyne : (y = S.n) = False := by simp; omega
  have hvne : (v = S.n) = False := by simp; omega
  have hA0 : St.Abv l S S1 := ⟨hA1.ok, hA1.base, by have := hA1.n; simp only [St.pushN] at this; omega, fun o x ho hn hx =>
    hA1.get o x ho (by show o < S.n + 1; omega) (by rw [St.get_pushn (by omega)]; exact hx)⟩
  have hg4 : S1.get S.n = some (.row n.cells false) := hA1.get S.n _ (by omega) (by show S.n < S.n + 1; omega) St.get_pushe
  have hn1 : S.n < S1.n := by have := hA1.n; simp only [St.pushN] at this; omega
  have hrun : runT stp (preN n d) s = if (stp s (d, n)).2 then runT stp (preL n.kids (d + 1)) (stp s (d, n)).1 else ((stp s (d, n)).1, false) := by rw [preN_eq]; rfl
  have hgr := T.grow s (d, n)
  have key : CallQ (cfg w) 95 [n.av, .int .i64 (d : Nat), .ptr y 0, .ptr v 0] S fun r S' => r = .bool (runT stp (preN n d) s).2 ∧ J (runT stp (preN n d) s).2 (runT stp (preN n d) s).1 S' ∧ St.Abv l S S' := by
    rw [hrun]
    generalize (stp s (d, n)).2 = b0 at *
    generalize (stp s (d, n)).1 = s1 at *
    cases b0 with
    | false =>
      refine call_of_W (fn95 w) rfl ?_
      simp only [Try.f95, List.length_cons, List.length_nil, ↓reduceIte, Int.reduceLT, Int.reduceLE, Int.reduceAdd, Int.reduceSub, Int.reduceNeg, Int.reduceMul, Int.reduceToNat, Int.reduceEq, Int.reduceNe, Int.reduceGT, Int.reduceGE, Nat.reducePow, IntKind.bits, Nat.reduceAdd, Nat.reduceSub, List.cons_append, List.nil_append]
      repeat with_reducible (first | refine E0 ?_ | refine E1 ?_ | refine E2 ?_ | refine E3 ?_ | refine E4 ?_ | refine E5 (by decide) ?_ | refine E6 ?_ | refine E7 ?_ | refine E8 ?_ | refine E9 ?_ | refine Ea ?_ | refine Eb ?_ | refine Ec ?_ | refine Ed ?_)
      refine W_region fun K hK => ?_
      simp only [KA, KB, KP, KQ, reduceCtorEq, ↓reduceIte, Int.reduceLT, Int.reduceLE, Int.reduceAdd, Int.reduceSub, Int.reduceNeg, Int.reduceMul, Int.reduceToNat, Int.reduceEq, Int.reduceNe, Int.reduceGT, Int.reduceGE, Nat.reducePow, Nat.reduceAdd, Nat.reduceSub, Nat.reduceLT, Nat.reduceMul, Nat.reduceDiv, Nat.reduceEqDiff, Nat.reduceLeDiff, KT w, hw.KF]
      refine hK _ _ ?_
      clear hK
      clear K
      repeat with_reducible (first | refine E0 ?_ | refine E1 ?_ | refine E2 ?_ | refine E3 ?_ | refine E4 ?_ | refine E5 (by decide) ?_ | refine E6 ?_ | refine E7 ?_ | refine E8 ?_ | refine E9 ?_ | refine Ea ?_ | refine Eb ?_ | refine Ec ?_ | refine Ed ?_)
      refine W_region fun K hK => ?_
      simp only [KA, KB, KP, KQ, reduceCtorEq, ↓reduceIte, Int.reduceLT, Int.reduceLE, Int.reduceAdd, Int.reduceSub, Int.reduceNeg, Int.reduceMul, Int.reduceToNat, Int.reduceEq, Int.reduceNe, Int.reduceGT, Int.reduceGE, Nat.reducePow, Nat.reduceAdd, Nat.reduceSub, Nat.reduceLT, Nat.reduceMul, Nat.reduceDiv, Nat.reduceEqDiff, Nat.reduceLeDiff, KT w, hw.KF, hgy, hyne, hy1]
      refine hK _ _ ?_
      clear hK
      clear K
      repeat with_reducible (first | refine E0 ?_ | refine E1 ?_ | refine E2 ?_ | refine E3 ?_ | refine E4 ?_ | refine E5 (by decide) ?_ | refine E6 ?_ | refine E7 ?_ | refine E8 ?_ | refine E9 ?_ | refine Ea ?_ | refine Eb ?_ | refine Ec ?_ | refine Ed ?_)
      refine W_condT (by simp only [KA, KP, KQ, reduceCtorEq, ↓reduceIte, Int.reduceLT, Int.reduceLE, Int.reduceAdd, Int.reduceSub, Int.reduceNeg, Int.reduceMul, Int.reduceToNat, Int.reduceEq, Int.reduceNe, Int.reduceGT, Int.reduceGE, Nat.reducePow, Nat.reduceAdd, Nat.reduceSub, Nat.reduceLT, Nat.reduceMul, Nat.reduceDiv, Nat.reduceEqDiff, Nat.reduceLeDiff, KT w, hw.KF]) ?_
      repeat with_reducible (first | refine E0 ?_ | refine E1 ?_ | refine E2 ?_ | refine E3 ?_ | refine E4 ?_ | refine E5 (by decide) ?_ | refine E6 ?_ | refine E7 ?_ | refine E8 ?_ | refine E9 ?_ | refine Ea ?_ | refine Eb ?_ | refine Ec ?_ | refine Ed ?_)
      refine W_region fun K hK => ?_
      simp only [KA, KB, KP, KQ, reduceCtorEq, ↓reduceIte, Int.reduceLT, Int.reduceLE, Int.reduceAdd, Int.reduceSub, Int.reduceNeg, Int.reduceMul, Int.reduceToNat, Int.reduceEq, Int.reduceNe, Int.reduceGT, Int.reduceGE, Nat.reducePow, Nat.reduceAdd, Nat.reduceSub, Nat.reduceLT, Nat.reduceMul, Nat.reduceDiv, Nat.reduceEqDiff, Nat.reduceLeDiff, KT w, hw.KF]
      refine hK _ _ ?_
      clear hK
      clear K
      repeat with_reducible (first | refine E0 ?_ | refine E1 ?_ | refine E2 ?_ | refine E3 ?_ | refine E4 ?_ | refine E5 (by decide) ?_ | refine E6 ?_ | refine E7 ?_ | refine E8 ?_ | refine E9 ?_ | refine Ea ?_ | refine Eb ?_ | refine Ec ?_ | refine Ed ?_)
      refine AtEnd_of rfl ?_
      simp only [KA, KP, KQ, reduceCtorEq, ↓reduceIte, Int.reduceLT, Int.reduceLE, Int.reduceAdd, Int.reduceSub, Int.reduceNeg, Int.reduceMul, Int.reduceToNat, Int.reduceEq, Int.reduceNe, Int.reduceGT, Int.reduceGE, Nat.reducePow, Nat.reduceAdd, Nat.reduceSub, Nat.reduceLT, Nat.reduceMul, Nat.reduceDiv, Nat.reduceEqDiff, Nat.reduceLeDiff, KT w, hw.KF, RS_some, aresults_nil, aresults_tmp, aresults_cell, one]
      exact ⟨hJ1, hA0⟩
    | true =>
      refine call_of_W (fn95 w) rfl ?_
      simp only [Try.f95, List.length_cons, List.length_nil, ↓reduceIte, Int.reduceLT, Int.reduceLE, Int.reduceAdd, Int.reduceSub, Int.reduceNeg, Int.reduceMul, Int.reduceToNat, Int.reduceEq, Int.reduceNe, Int.reduceGT, Int.reduceGE, Nat.reducePow, IntKind.bits, Nat.reduceAdd, Nat.reduceSub, List.cons_append, List.nil_append]
      repeat with_reducible (first | refine E0 ?_ | refine E1 ?_ | refine E2 ?_ | refine E3 ?_ | refine E4 ?_ | refine E5 (by decide) ?_ | refine E6 ?_ | refine E7 ?_ | refine E8 ?_ | refine E9 ?_ | refine Ea ?_ | refine Eb ?_ | refine Ec ?_ | refine Ed ?_)
      refine W_region fun K hK => ?_
      simp only [KA, KB, KP, KQ, reduceCtorEq, ↓reduceIte, Int.reduceLT, Int.reduceLE, Int.reduceAdd, Int.reduceSub, Int.reduceNeg, Int.reduceMul, Int.reduceToNat, Int.reduceEq, Int.reduceNe, Int.reduceGT, Int.reduceGE, Nat.reducePow, Nat.reduceAdd, Nat.reduceSub, Nat.reduceLT, Nat.reduceMul, Nat.reduceDiv, Nat.reduceEqDiff, Nat.reduceLeDiff, KT w, hw.KF]
      refine hK _ _ ?_
      clear hK
      clear K
      repeat with_reducible (first | refine E0 ?_ | refine E1 ?_ | refine E2 ?_ | refine E3 ?_ | refine E4 ?_ | refine E5 (by decide) ?_ | refine E6 ?_ | refine E7 ?_ | refine E8 ?_ | refine E9 ?_ | refine Ea ?_ | refine Eb ?_ | refine Ec ?_ | refine Ed ?_)
      refine W_region fun K hK => ?_
      simp only [KA, KB, KP, KQ, reduceCtorEq, ↓reduceIte, Int.reduceLT, Int.reduceLE, Int.reduceAdd, Int.reduceSub, Int.reduceNeg, Int.reduceMul, Int.reduceToNat, Int.reduceEq, Int.reduceNe, Int.reduceGT, Int.reduceGE, Nat.reducePow, Nat.reduceAdd, Nat.reduceSub, Nat.reduceLT, Nat.reduceMul, Nat.reduceDiv, Nat.reduceEqDiff, Nat.reduceLeDiff, KT w, hw.KF, hgy, hyne, hy1]
      refine hK _ _ ?_
      clear hK
      clear K
      repeat with_reducible (first | refine E0 ?_ | refine E1 ?_ | refine E2 ?_ | refine E3 ?_ | refine E4 ?_ | refine E5 (by decide) ?_ | refine E6 ?_ | refine E7 ?_ | refine E8 ?_ | refine E9 ?_ | refine Ea ?_ | refine Eb ?_ | refine Ec ?_ | refine Ed ?_)
      refine W_condF (by simp only [KA, KP, KQ, reduceCtorEq, ↓reduceIte, Int.reduceLT, Int.reduceLE, Int.reduceAdd, Int.reduceSub, Int.reduceNeg, Int.reduceMul, Int.reduceToNat, Int.reduceEq, Int.reduceNe, Int.reduceGT, Int.reduceGE, Nat.reducePow, Nat.reduceAdd, Nat.reduceSub, Nat.reduceLT, Nat.reduceMul, Nat.reduceDiv, Nat.reduceEqDiff, Nat.reduceLeDiff, KT w, hw.KF]) ?_
      repeat with_reducible (first | refine E0 ?_ | refine E1 ?_ | refine E2 ?_ | refine E3 ?_ | refine E4 ?_ | refine E5 (by decide) ?_ | refine E6 ?_ | refine E7 ?_ | refine E8 ?_ | refine E9 ?_ | refine Ea ?_ | refine Eb ?_ | refine Ec ?_ | refine Ed ?_)
      refine W_region fun K hK => ?_
      simp only [KA, KB, KP, KQ, reduceCtorEq, ↓reduceIte, Int.reduceLT, Int.reduceLE, Int.reduceAdd, Int.reduceSub, Int.reduceNeg, Int.reduceMul, Int.reduceToNat, Int.reduceEq, Int.reduceNe, Int.reduceGT, Int.reduceGE, Nat.reducePow, Nat.reduceAdd, Nat.reduceSub, Nat.reduceLT, Nat.reduceMul, Nat.reduceDiv, Nat.reduceEqDiff, Nat.reduceLeDiff, KT w, hw.KF, hg4]
      refine hK _ _ ?_
      clear hK
      clear K
      repeat with_reducible (first | refine E0 ?_ | refine E1 ?_ | refine E2 ?_ | refine E3 ?_ | refine E4 ?_ | refine E5 (by decide) ?_ | refine E6 ?_ | refine E7 ?_ | refine E8 ?_ | refine E9 ?_ | refine Ea ?_ | refine Eb ?_ | refine Ec ?_ | refine Ed ?_)
      generalize hR : runT stp (preL n.kids (d + 1)) s1 = R at *
      refine W_loop (fun k fr T' => ∃ (tm : List AV) (i : Nat) (s' : σ), fr = ⟨tm, [], none, 95⟩ ∧ k = n.kids.length - i ∧ i ≤ n.kids.length ∧ J true s' T' ∧ runT stp (preL (n.kids.drop i) (d + 1)) s' = R ∧ len s' + (preL (n.kids.drop i) (d + 1)).length ≤ N ∧ d + 1 + (preL (n.kids.drop i) (d + 1)).length ≤ 1000000 ∧ St.Abv l S T' ∧
         tm.length = 28 ∧ tget tm 1 = .int .i64 (d : Nat) ∧ tget tm 2 = .ptr y 0 ∧ tget tm 3 = .ptr v 0 ∧ tget tm 15 = .vec (Node.rows n.kids) ∧ tget tm 16 = .int .i64 n.kids.length ∧ tget tm 17 = .int .i64 i) n.kids.length
        ⟨_, 0, s1, rfl, rfl, Nat.zero_le _, hJ1, by simpa using hR, by simp only [List.drop_zero]; omega, by simp only [List.drop_zero]; omega, hA0, ?_⟩ ?_
      · simp only [KA, KP, KQ, reduceCtorEq, ↓reduceIte, Int.reduceLT, Int.reduceLE, Int.reduceAdd, Int.reduceSub, Int.reduceNeg, Int.reduceMul, Int.reduceToNat, Int.reduceEq, Int.reduceNe, Int.reduceGT, Int.reduceGE, Nat.reducePow, Nat.reduceAdd, Nat.reduceSub, Nat.reduceLT, Nat.reduceMul, Nat.reduceDiv, Nat.reduceEqDiff, Nat.reduceLeDiff, KT w, hw.KF, Int.ofNat_zero]
      clear hy1 hJ1 hA1 hg4 hn1 hA0 hJ hR hgr hrun
      rintro k fr T' ⟨tm, i, s', rfl, rfl, hi, hJ', hall, hlen, hdp, hAb, htm, h1, h2, h3, h15, h16, h17⟩
      repeat with_reducible (first | refine E0 ?_ | refine E1 ?_ | refine E2 ?_ | refine E3 ?_ | refine E4 ?_ | refine E5 (by decide) ?_ | refine E6 ?_ | refine E7 ?_ | refine E8 ?_ | refine E9 ?_ | refine Ea ?_ | refine Eb ?_ | refine Ec ?_ | refine Ed ?_)
      refine W_region fun K hK => ?_
      simp only [KA, KB, KP, KQ, reduceCtorEq, ↓reduceIte, Int.reduceLT, Int.reduceLE, Int.reduceAdd, Int.reduceSub, Int.reduceNeg, Int.reduceMul, Int.reduceToNat, Int.reduceEq, Int.reduceNe, Int.reduceGT, Int.reduceGE, Nat.reducePow, Nat.reduceAdd, Nat.reduceSub, Nat.reduceLT, Nat.reduceMul, Nat.reduceDiv, Nat.reduceEqDiff, Nat.reduceLeDiff, KT w, hw.KF, htm, h16, h17]
      refine hK _ _ ?_
      clear hK
      clear K
      repeat with_reducible (first | refine E0 ?_ | refine E1 ?_ | refine E2 ?_ | refine E3 ?_ | refine E4 ?_ | refine E5 (by decide) ?_ | refine E6 ?_ | refine E7 ?_ | refine E8 ?_ | refine E9 ?_ | refine Ea ?_ | refine Eb ?_ | refine Ec ?_ | refine Ed ?_)
      refine W_condP (p := _) (by simp only [KA, KP, KQ, reduceCtorEq, ↓reduceIte, Int.reduceLT, Int.reduceLE, Int.reduceAdd, Int.reduceSub, Int.reduceNeg, Int.reduceMul, Int.reduceToNat, Int.reduceEq, Int.reduceNe, Int.reduceGT, Int.reduceGE, Nat.reducePow, Nat.reduceAdd, Nat.reduceSub, Nat.reduceLT, Nat.reduceMul, Nat.reduceDiv, Nat.reduceEqDiff, Nat.reduceLeDiff, KT w, hw.KF, htm]; rfl) (fun hb => ?_) (fun hb => ?_)
      · obtain ⟨x, hx⟩ := get_of_lt (l := n.kids) (i := i) (by omega)
        rw [drop_of_get hx, preL] at hall hlen hdp
        rw [List.length_append] at hlen hdp
        rw [runT_app] at hall
        have e1 : IntKind.i64.wrap ((i : Int) + 1) = (i : Int) + 1 := i64_in _ (by omega)
        have e2 : IntKind.i64.wrap ((d : Int) + 1) = ((d + 1 : Nat) : Int) := by rw [i64_in _ (by omega)]; omega
        have hgv' : T'.get v = some (.row [.fn 95 [] [.ptr y 0, .ptr v 0]] false) := hAb.get v _ hv hvn hgv
        have hgy' : T'.get y = some (.row [.yield l] false) := hAb.get y _ hy hyn hgy
        have hTn := hAb.n
        have hv2 : (v = T'.n) = False := by simp; omega
        have hb' : T'.base = 0 := hAb.base.trans hbs
        have hok' := hAb.ok
        have hrl := runT_len T.grow (preN x (d + 1)) s'
        obtain ⟨S2, hc2, hJ2, hA2⟩ := ih x (List.mem_of_getElem? hx) (Node.ok_kid hn x (List.mem_of_getElem? hx)) (d + 1) s' (T'.push (.row x.cells false)) (by omega) (by omega) (T.push _ _ _ _ hJ') (St.ok_push hAb.ok) hb' (by show y < T'.n + 1; omega) (by show v < T'.n + 1; omega)
          (by rw [St.get_pushn (by omega)]; exact hgy') (by rw [St.get_pushn (by omega)]; exact hgv')
        rw [← callF_raw (c := cfg w) hw.e95 hw.m95] at hc2
        have hA3 : St.Abv l S S2 := hAb.trans ⟨hA2.ok, hA2.base, by have := hA2.n; simp only [St.pushN] at this; omega, fun o x ho hn' hx =>
          hA2.get o x ho (by show o < T'.n + 1; omega) (by rw [St.get_pushn (by omega)]; exact hx)⟩
        generalize runT stp (preN x (d + 1)) s' = R1 at *
        obtain ⟨s2, b2⟩ := R1
        simp only at hall hc2 hJ2 hrl
        cases b2 with
        | true =>
          simp only [if_true] at hall
          repeat with_reducible (first | refine E0 ?_ | refine E1 ?_ | refine E2 ?_ | refine E3 ?_ | refine E4 ?_ | refine E5 (by decide) ?_ | refine E6 ?_ | refine E7 ?_ | refine E8 ?_ | refine E9 ?_ | refine Ea ?_ | refine Eb ?_ | refine Ec ?_ | refine Ed ?_)
          refine W_region fun K hK => ?_
          simp only [KA, KB, KP, KQ, reduceCtorEq, ↓reduceIte, Int.reduceLT, Int.reduceLE, Int.reduceAdd, Int.reduceSub, Int.reduceNeg, Int.reduceMul, Int.reduceToNat, Int.reduceEq, Int.reduceNe, Int.reduceGT, Int.reduceGE, Nat.reducePow, Nat.reduceAdd, Nat.reduceSub, Nat.reduceLT, Nat.reduceMul, Nat.reduceDiv, Nat.reduceEqDiff, Nat.reduceLeDiff, KT w, hw.KF, htm, h15, h17, hx, hb', hok', splice, List.length_append]
          refine hK _ _ ?_
          clear hK
          clear K
          repeat with_reducible (first | refine E0 ?_ | refine E1 ?_ | refine E2 ?_ | refine E3 ?_ | refine E4 ?_ | refine E5 (by decide) ?_ | refine E6 ?_ | refine E7 ?_ | refine E8 ?_ | refine E9 ?_ | refine Ea ?_ | refine Eb ?_ | refine Ec ?_ | refine Ed ?_)
          refine W_region fun K hK => ?_
          simp only [KA, KB, KP, KQ, reduceCtorEq, ↓reduceIte, Int.reduceLT, Int.reduceLE, Int.reduceAdd, Int.reduceSub, Int.reduceNeg, Int.reduceMul, Int.reduceToNat, Int.reduceEq, Int.reduceNe, Int.reduceGT, Int.reduceGE, Nat.reducePow, Nat.reduceAdd, Nat.reduceSub, Nat.reduceLT, Nat.reduceMul, Nat.reduceDiv, Nat.reduceEqDiff, Nat.reduceLeDiff, KT w, hw.KF, htm, h1, h3, hgv', hv2, e2, hc2]
          refine hK _ _ ?_
          clear hK
          clear K
          repeat with_reducible (first | refine E0 ?_ | refine E1 ?_ | refine E2 ?_ | refine E3 ?_ | refine E4 ?_ | refine E5 (by decide) ?_ | refine E6 ?_ | refine E7 ?_ | refine E8 ?_ | refine E9 ?_ | refine Ea ?_ | refine Eb ?_ | refine Ec ?_ | refine Ed ?_)
          refine W_condF (by simp only [KA, KP, KQ, reduceCtorEq, ↓reduceIte, Int.reduceLT, Int.reduceLE, Int.reduceAdd, Int.reduceSub, Int.reduceNeg, Int.reduceMul, Int.reduceToNat, Int.reduceEq, Int.reduceNe, Int.reduceGT, Int.reduceGE, Nat.reducePow, Nat.reduceAdd, Nat.reduceSub, Nat.reduceLT, Nat.reduceMul, Nat.reduceDiv, Nat.reduceEqDiff, Nat.reduceLeDiff, KT w, hw.KF, htm]) ?_
          repeat with_reducible (first | refine E0 ?_ | refine E1 ?_ | refine E2 ?_ | refine E3 ?_ | refine E4 ?_ | refine E5 (by decide) ?_ | refine E6 ?_ | refine E7 ?_ | refine E8 ?_ | refine E9 ?_ | refine Ea ?_ | refine Eb ?_ | refine Ec ?_ | refine Ed ?_)
          refine W_region fun K hK => ?_
          simp only [KA, KB, KP, KQ, reduceCtorEq, ↓reduceIte, Int.reduceLT, Int.reduceLE, Int.reduceAdd, Int.reduceSub, Int.reduceNeg, Int.reduceMul, Int.reduceToNat, Int.reduceEq, Int.reduceNe, Int.reduceGT, Int.reduceGE, Nat.reducePow, Nat.reduceAdd, Nat.reduceSub, Nat.reduceLT, Nat.reduceMul, Nat.reduceDiv, Nat.reduceEqDiff, Nat.reduceLeDiff, KT w, hw.KF, htm, h17, e1]
          refine hK _ _ ?_
          clear hK
          clear K
          refine ⟨n.kids.length - (i + 1), by omega, _, i + 1, s2, rfl, rfl, by omega, hJ2, hall, by omega, by omega, hA3, ?_⟩
          simp only [KA, KP, KQ, reduceCtorEq, ↓reduceIte, Int.reduceLT, Int.reduceLE, Int.reduceAdd, Int.reduceSub, Int.reduceNeg, Int.reduceMul, Int.reduceToNat, Int.reduceEq, Int.reduceNe, Int.reduceGT, Int.reduceGE, Nat.reducePow, Nat.reduceAdd, Nat.reduceSub, Nat.reduceLT, Nat.reduceMul, Nat.reduceDiv, Nat.reduceEqDiff, Nat.reduceLeDiff, KT w, hw.KF, htm, h1, h2, h3, h15, h16, Int.natCast_add, A3z]
        | false =>
          simp only [Bool.false_eq_true, if_false] at hall
          subst hall
          repeat with_reducible (first | refine E0 ?_ | refine E1 ?_ | refine E2 ?_ | refine E3 ?_ | refine E4 ?_ | refine E5 (by decide) ?_ | refine E6 ?_ | refine E7 ?_ | refine E8 ?_ | refine E9 ?_ | refine Ea ?_ | refine Eb ?_ | refine Ec ?_ | refine Ed ?_)
          refine W_region fun K hK => ?_
          simp only [KA, KB, KP, KQ, reduceCtorEq, ↓reduceIte, Int.reduceLT, Int.reduceLE, Int.reduceAdd, Int.reduceSub, Int.reduceNeg, Int.reduceMul, Int.reduceToNat, Int.reduceEq, Int.reduceNe, Int.reduceGT, Int.reduceGE, Nat.reducePow, Nat.reduceAdd, Nat.reduceSub, Nat.reduceLT, Nat.reduceMul, Nat.reduceDiv, Nat.reduceEqDiff, Nat.reduceLeDiff, KT w, hw.KF, htm, h15, h17, hx, hb', hok', splice, List.length_append]
          refine hK _ _ ?_
          clear hK
          clear K
          repeat with_reducible (first | refine E0 ?_ | refine E1 ?_ | refine E2 ?_ | refine E3 ?_ | refine E4 ?_ | refine E5 (by decide) ?_ | refine E6 ?_ | refine E7 ?_ | refine E8 ?_ | refine E9 ?_ | refine Ea ?_ | refine Eb ?_ | refine Ec ?_ | refine Ed ?_)
          refine W_region fun K hK => ?_
          simp only [KA, KB, KP, KQ, reduceCtorEq, ↓reduceIte, Int.reduceLT, Int.reduceLE, Int.reduceAdd, Int.reduceSub, Int.reduceNeg, Int.reduceMul, Int.reduceToNat, Int.reduceEq, Int.reduceNe, Int.reduceGT, Int.reduceGE, Nat.reducePow, Nat.reduceAdd, Nat.reduceSub, Nat.reduceLT, Nat.reduceMul, Nat.reduceDiv, Nat.reduceEqDiff, Nat.reduceLeDiff, KT w, hw.KF, htm, h1, h3, hgv', hv2, e2, hc2]
          refine hK _ _ ?_
          clear hK
          clear K
          repeat with_reducible (first | refine E0 ?_ | refine E1 ?_ | refine E2 ?_ | refine E3 ?_ | refine E4 ?_ | refine E5 (by decide) ?_ | refine E6 ?_ | refine E7 ?_ | refine E8 ?_ | refine E9 ?_ | refine Ea ?_ | refine Eb ?_ | refine Ec ?_ | refine Ed ?_)
          refine W_condT (by simp only [KA, KP, KQ, reduceCtorEq, ↓reduceIte, Int.reduceLT, Int.reduceLE, Int.reduceAdd, Int.reduceSub, Int.reduceNeg, Int.reduceMul, Int.reduceToNat, Int.reduceEq, Int.reduceNe, Int.reduceGT, Int.reduceGE, Nat.reducePow, Nat.reduceAdd, Nat.reduceSub, Nat.reduceLT, Nat.reduceMul, Nat.reduceDiv, Nat.reduceEqDiff, Nat.reduceLeDiff, KT w, hw.KF, htm]) ?_
          repeat with_reducible (first | refine E0 ?_ | refine E1 ?_ | refine E2 ?_ | refine E3 ?_ | refine E4 ?_ | refine E5 (by decide) ?_ | refine E6 ?_ | refine E7 ?_ | refine E8 ?_ | refine E9 ?_ | refine Ea ?_ | refine Eb ?_ | refine Ec ?_ | refine Ed ?_)
          refine W_region fun K hK => ?_
          simp only [KA, KB, KP, KQ, reduceCtorEq, ↓reduceIte, Int.reduceLT, Int.reduceLE, Int.reduceAdd, Int.reduceSub, Int.reduceNeg, Int.reduceMul, Int.reduceToNat, Int.reduceEq, Int.reduceNe, Int.reduceGT, Int.reduceGE, Nat.reducePow, Nat.reduceAdd, Nat.reduceSub, Nat.reduceLT, Nat.reduceMul, Nat.reduceDiv, Nat.reduceEqDiff, Nat.reduceLeDiff, KT w, hw.KF]
          refine hK _ _ ?_
          clear hK
          clear K
          repeat with_reducible (first | refine E0 ?_ | refine E1 ?_ | refine E2 ?_ | refine E3 ?_ | refine E4 ?_ | refine E5 (by decide) ?_ | refine E6 ?_ | refine E7 ?_ | refine E8 ?_ | refine E9 ?_ | refine Ea ?_ | refine Eb ?_ | refine Ec ?_ | refine Ed ?_)
          refine AtEnd_of rfl ?_
          simp only [KA, KP, KQ, reduceCtorEq, ↓reduceIte, Int.reduceLT, Int.reduceLE, Int.reduceAdd, Int.reduceSub, Int.reduceNeg, Int.reduceMul, Int.reduceToNat, Int.reduceEq, Int.reduceNe, Int.reduceGT, Int.reduceGE, Nat.reducePow, Nat.reduceAdd, Nat.reduceSub, Nat.reduceLT, Nat.reduceMul, Nat.reduceDiv, Nat.reduceEqDiff, Nat.reduceLeDiff, KT w, hw.KF, htm, RS_some, aresults_nil, aresults_tmp, aresults_cell, one]
          exact ⟨hJ2, hA3⟩
      · repeat with_reducible (first | refine E0 ?_ | refine E1 ?_ | refine E2 ?_ | refine E3 ?_ | refine E4 ?_ | refine E5 (by decide) ?_ | refine E6 ?_ | refine E7 ?_ | refine E8 ?_ | refine E9 ?_ | refine Ea ?_ | refine Eb ?_ | refine Ec ?_ | refine Ed ?_)
        refine W_region fun K hK => ?_
        simp only [KA, KB, KP, KQ, reduceCtorEq, ↓reduceIte, Int.reduceLT, Int.reduceLE, Int.reduceAdd, Int.reduceSub, Int.reduceNeg, Int.reduceMul, Int.reduceToNat, Int.reduceEq, Int.reduceNe, Int.reduceGT, Int.reduceGE, Nat.reducePow, Nat.reduceAdd, Nat.reduceSub, Nat.reduceLT, Nat.reduceMul, Nat.reduceDiv, Nat.reduceEqDiff, Nat.reduceLeDiff, KT w, hw.KF, htm]
        refine hK _ _ ?_
        clear hK
        clear K
        repeat with_reducible (first | refine E0 ?_ | refine E1 ?_ | refine E2 ?_ | refine E3 ?_ | refine E4 ?_ | refine E5 (by decide) ?_ | refine E6 ?_ | refine E7 ?_ | refine E8 ?_ | refine E9 ?_ | refine Ea ?_ | refine Eb ?_ | refine Ec ?_ | refine Ed ?_)
        rw [List.drop_eq_nil_of_le (by omega), preL, runT] at hall
        subst hall
        refine AtEnd_of rfl ?_
        simp only [KA, KP, KQ, reduceCtorEq, ↓reduceIte, Int.reduceLT, Int.reduceLE, Int.reduceAdd, Int.reduceSub, Int.reduceNeg, Int.reduceMul, Int.reduceToNat, Int.reduceEq, Int.reduceNe, Int.reduceGT, Int.reduceGE, Nat.reducePow, Nat.reduceAdd, Nat.reduceSub, Nat.reduceLT, Nat.reduceMul, Nat.reduceDiv, Nat.reduceEqDiff, Nat.reduceLeDiff, KT w, hw.KF, htm, RS_some, aresults_nil, aresults_tmp, aresults_cell, one]
        exact ⟨hJ', hAb⟩
  obtain ⟨r, S', h1, rfl, h2⟩ := key
  exact ⟨S', h1, h2⟩

theorem walkN_ok (hw : Std w) (n : Node) (S : St) : callF (cfg w) (lim (cfg w)) 83 [n.av] S = some (.fn 94 [] [.ptr S.n 0], S.push (.row n.cells false)) := by
  rw [callF_raw (c := cfg w) hw.e83 hw.m83]
  refine call_eq_of ?_
  refine call_of_W (fn83 w) rfl ?_
  simp only [Try.f83, List.length_cons, List.length_nil, ↓reduceIte, Int.reduceLT, Int.reduceLE, Int.reduceAdd, Int.reduceSub, Int.reduceNeg, Int.reduceMul, Int.reduceToNat, Int.reduceEq, Int.reduceNe, Int.reduceGT, Int.reduceGE, Nat.reducePow, IntKind.bits, Nat.reduceAdd, Nat.reduceSub, List.cons_append, List.nil_append]
  repeat with_reducible (first | refine E0 ?_ | refine E1 ?_ | refine E2 ?_ | refine E3 ?_ | refine E4 ?_ | refine E5 (by decide) ?_ | refine E6 ?_ | refine E7 ?_ | refine E8 ?_ | refine E9 ?_ | refine Ea ?_ | refine Eb ?_ | refine Ec ?_ | refine Ed ?_)
  refine W_region fun K hK => ?_
  simp only [KA, KB, KP, KQ, reduceCtorEq, ↓reduceIte, Int.reduceLT, Int.reduceLE, Int.reduceAdd, Int.reduceSub, Int.reduceNeg, Int.reduceMul, Int.reduceToNat, Int.reduceEq, Int.reduceNe, Int.reduceGT, Int.reduceGE, Nat.reducePow, Nat.reduceAdd, Nat.reduceSub, Nat.reduceLT, Nat.reduceMul, Nat.reduceDiv, Nat.reduceEqDiff, Nat.reduceLeDiff, KT w, hw.KF]
  refine hK _ _ ?_
  clear hK
  clear K
  repeat with_reducible (first | refine E0 ?_ | refine E1 ?_ | refine E2 ?_ | refine E3 ?_ | refine E4 ?_ | refine E5 (by decide) ?_ | refine E6 ?_ | refine E7 ?_ | refine E8 ?_ | refine E9 ?_ | refine Ea ?_ | refine Eb ?_ | refine Ec ?_ | refine Ed ?_)
  refine W_region fun K hK => ?_
  simp only [KA, KB, KP, KQ, reduceCtorEq, ↓reduceIte, Int.reduceLT, Int.reduceLE, Int.reduceAdd, Int.reduceSub, Int.reduceNeg, Int.reduceMul, Int.reduceToNat, Int.reduceEq, Int.reduceNe, Int.reduceGT, Int.reduceGE, Nat.reducePow, Nat.reduceAdd, Nat.reduceSub, Nat.reduceLT, Nat.reduceMul, Nat.reduceDiv, Nat.reduceEqDiff, Nat.reduceLeDiff, KT w, hw.KF]
  refine hK _ _ ?_
  clear hK
  clear K
  repeat with_reducible (first | refine E0 ?_ | refine E1 ?_ | refine E2 ?_ | refine E3 ?_ | refine E4 ?_ | refine E5 (by decide) ?_ | refine E6 ?_ | refine E7 ?_ | refine E8 ?_ | refine E9 ?_ | refine Ea ?_ | refine Eb ?_ | refine Ec ?_ | refine Ed ?_)
  refine AtEnd_of rfl ?_
  simp only [KA, KP, KQ, reduceCtorEq, ↓reduceIte, Int.reduceLT, Int.reduceLE, Int.reduceAdd, Int.reduceSub, Int.reduceNeg, Int.reduceMul, Int.reduceToNat, Int.reduceEq, Int.reduceNe, Int.reduceGT, Int.reduceGE, Nat.reducePow, Nat.reduceAdd, Nat.reduceSub, Nat.reduceLT, Nat.reduceMul, Nat.reduceDiv, Nat.reduceEqDiff, Nat.reduceLeDiff, KT w, hw.KF, RS_some, aresults_nil, aresults_tmp, aresults_cell, one]

theorem walkN_call (hw : Std w) {l b N : Nat} {σ : Type} {stp : σ → Nat × Node → σ × Bool} {len : σ → Nat} {J : Bool → σ → St → Prop} (T : Tak w l N stp len J) (n : Node) (hn : n.ok) (s : σ) (hdeep : 1 + (preN n 1).length ≤ 1000000) (hN : len s + (preN n 1).length ≤ N) (S : St) (hJ : J true s S) (hok : S.ok) (hbs : S.base = 0) (hl : l < S.n) (hbl : b < S.n)
    (hgb : S.get b = some (.row n.cells false)) : ∃ S' r, (lim (cfg w)).call 94 [.yield l, .ptr b 0] S = some (r, S') ∧ J (runT stp (preN n 1) s).2 (runT stp (preN n 1) s).1 S' ∧ St.Abv l S S' := by
  have hb1 : (b = S.n) = False := by simp; omega
  have hb2 : (b = S.n + 1) = False := by simp; omega
  obtain ⟨S2, hv, hJ2, hA2⟩ := visitN_ok hw (y := S.n) (v := S.n + 1) T hl (by omega) n hn 1 s ((S.push (.row [.yield l] false)).push (.row [.fn 95 [] [.ptr S.n 0, .ptr (S.n + 1) 0]] false)) hdeep hN (T.push _ _ _ _ (T.push _ _ _ _ hJ))
    (St.ok_push (St.ok_push hok)) hbs (by show S.n < S.n + 1 + 1; omega) (by show S.n + 1 < S.n + 1 + 1; omega) (by rw [St.get_pushn (by show S.n ≠ S.n + 1; omega)]; exact St.get_pushe) St.get_pushe
  rw [← callF_raw (c := cfg w) hw.e95 hw.m95] at hv
  simp only [Int.cast_ofNat_Int] at hv
  generalize runT stp (preN n 1) s = R at *
  have key : CallQ (cfg w) 94 [.yield l, .ptr b 0] S fun r S' => J R.2 R.1 S' ∧ St.Abv l S S' := by
    refine call_of_W (fn94 w) rfl ?_
    simp only [Try.f94, List.length_cons, List.length_nil, ↓reduceIte, Int.reduceLT, Int.reduceLE, Int.reduceAdd, Int.reduceSub, Int.reduceNeg, Int.reduceMul, Int.reduceToNat, Int.reduceEq, Int.reduceNe, Int.reduceGT, Int.reduceGE, Nat.reducePow, IntKind.bits, Nat.reduceAdd, Nat.reduceSub, List.cons_append, List.nil_append]
    repeat with_reducible (first | refine E0 ?_ | refine E1 ?_ | refine E2 ?_ | refine E3 ?_ | refine E4 ?_ | refine E5 (by decide) ?_ | refine E6 ?_ | refine E7 ?_ | refine E8 ?_ | refine E9 ?_ | refine Ea ?_ | refine Eb ?_ | refine Ec ?_ | refine Ed ?_)
    refine W_region fun K hK => ?_
    simp only [KA, KB, KP, KQ, reduceCtorEq, ↓reduceIte, Int.reduceLT, Int.reduceLE, Int.reduceAdd, Int.reduceSub, Int.reduceNeg, Int.reduceMul, Int.reduceToNat, Int.reduceEq, Int.reduceNe, Int.reduceGT, Int.reduceGE, Nat.reducePow, Nat.reduceAdd, Nat.reduceSub, Nat.reduceLT, Nat.reduceMul, Nat.reduceDiv, Nat.reduceEqDiff, Nat.reduceLeDiff, KT w, hw.KF]
    refine hK _ _ ?_
    clear hK
    clear K
    repeat with_reducible (first | refine E0 ?_ | refine E1 ?_ | refine E2 ?_ | refine E3 ?_ | refine E4 ?_ | refine E5 (by decide) ?_ | refine E6 ?_ | refine E7 ?_ | refine E8 ?_ | refine E9 ?_ | refine Ea ?_ | refine Eb ?_ | refine Ec ?_ | refine Ed ?_)
    refine W_region fun K hK => ?_
    simp only [KA, KB, KP, KQ, reduceCtorEq, ↓reduceIte, Int.reduceLT, Int.reduceLE, Int.reduceAdd, Int.reduceSub, Int.reduceNeg, Int.reduceMul, Int.reduceToNat, Int.reduceEq, Int.reduceNe, Int.reduceGT, Int.reduceGE, Nat.reducePow, Nat.reduceAdd, Nat.reduceSub, Nat.reduceLT, Nat.reduceMul, Nat.reduceDiv, Nat.reduceEqDiff, Nat.reduceLeDiff, KT w, hw.KF]
    refine hK _ _ ?_
    clear hK
    clear K
    repeat with_reducible (first | refine E0 ?_ | refine E1 ?_ | refine E2 ?_ | refine E3 ?_ | refine E4 ?_ | refine E5 (by decide) ?_ | refine E6 ?_ | refine E7 ?_ | refine E8 ?_ | refine E9 ?_ | refine Ea ?_ | refine Eb ?_ | refine Ec ?_ | refine Ed ?_)
    refine W_region fun K hK => ?_
    simp only [KA, KB, KP, KQ, reduceCtorEq, ↓reduceIte, Int.reduceLT, Int.reduceLE, Int.reduceAdd, Int.reduceSub, Int.reduceNeg, Int.reduceMul, Int.reduceToNat, Int.reduceEq, Int.reduceNe, Int.reduceGT, Int.reduceGE, Nat.reducePow, Nat.reduceAdd, Nat.reduceSub, Nat.reduceLT, Nat.reduceMul, Nat.reduceDiv, Nat.reduceEqDiff, Nat.reduceLeDiff, KT w, hw.KF, splice, List.length_append, hok, hbs]
    refine hK _ _ ?_
    clear hK
    clear K
    repeat with_reducible (first | refine E0 ?_ | refine E1 ?_ | refine E2 ?_ | refine E3 ?_ | refine E4 ?_ | refine E5 (by decide) ?_ | refine E6 ?_ | refine E7 ?_ | refine E8 ?_ | refine E9 ?_ | refine Ea ?_ | refine Eb ?_ | refine Ec ?_ | refine Ed ?_)
    refine W_region fun K hK => ?_
    simp only [KA, KB, KP, KQ, reduceCtorEq, ↓reduceIte, Int.reduceLT, Int.reduceLE, Int.reduceAdd, Int.reduceSub, Int.reduceNeg, Int.reduceMul, Int.reduceToNat, Int.reduceEq, Int.reduceNe, Int.reduceGT, Int.reduceGE, Nat.reducePow, Nat.reduceAdd, Nat.reduceSub, Nat.reduceLT, Nat.reduceMul, Nat.reduceDiv, Nat.reduceEqDiff, Nat.reduceLeDiff, KT w, hw.KF, hgb, hb1, hb2, hv]
    refine hK _ _ ?_
    clear hK
    clear K
    repeat with_reducible (first | refine E0 ?_ | refine E1 ?_ | refine E2 ?_ | refine E3 ?_ | refine E4 ?_ | refine E5 (by decide) ?_ | refine E6 ?_ | refine E7 ?_ | refine E8 ?_ | refine E9 ?_ | refine Ea ?_ | refine Eb ?_ | refine Ec ?_ | refine Ed ?_)
    refine AtEnd_of rfl ?_
    simp only [KA, KP, KQ, reduceCtorEq, ↓reduceIte, Int.reduceLT, Int.reduceLE, Int.reduceAdd, Int.reduceSub, Int.reduceNeg, Int.reduceMul, Int.reduceToNat, Int.reduceEq, Int.reduceNe, Int.reduceGT, Int.reduceGE, Nat.reducePow, Nat.reduceAdd, Nat.reduceSub, Nat.reduceLT, Nat.reduceMul, Nat.reduceDiv, Nat.reduceEqDiff, Nat.reduceLeDiff, KT w, hw.KF, RS_some, aresults_nil, aresults_tmp, aresults_cell, one]
    refine ⟨hJ2, hA2.ok, hA2.base, by have := hA2.n; simp only [St.pushN] at this; omega, fun o x ho hn' hx => ?_⟩
    exact hA2.get o x ho (by show o < S.n + 1 + 1; omega) (by rw [St.get_pushn (by show o ≠ S.n + 1; omega), St.get_pushn (by omega)]; exact hx)
  obtain ⟨r, S', h1, h2⟩ := key
  exact ⟨S', r, h1, h2⟩
theorem yield_val {c : Cfg} {l : Nat} {L : Lp} {p : Ex} {args : List AV} {S : St} {v : AV} {Q : St → Prop} (hg : S.get l = some (L.at .ready p)) (hl : args.length = L.ps.length)
    (h : W c L.asg ⟨(L.ps.zip args).foldl (fun t pa => tput t pa.1 pa.2) L.tm, [], some l, L.fn⟩ S (YA c l L fun v' S' => v' = v ∧ Q S')) : ∃ S', yieldS (lim c) l args S = some (v, S') ∧ Q S' := by
  obtain ⟨v', S', h1, rfl, h2⟩ := yield_of hg hl h
  exact ⟨S', h1, h2⟩
end Go.Am.B
