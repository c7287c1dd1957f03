/- OPERATIONS BY A SEED. -/
import Derived.Test.YtghpjjhdbankhaaG1
set_option linter.unusedSimpArgs false
set_option linter.unusedVariables false
set_option maxRecDepth 20000
namespace Go.Am.B
open Go.Proofs Go.IntWalk

variable {w : Ways}

theorem ops_gen (hw : Std w) {mixf : Int → Int} {C : Int → List AV} {X : Int → Nat → Int} {PL : List AV} {P : Int → List UInt8} {rows : Nat → Rows} {s n : Int} {N : Nat}
    (hmix : ∀ z, PC (cfg w) 19 [.int .u64 z] (.int .u64 (mixf z))) (hfirst : ∀ z, PC (cfg w) 62 [.int .u64 z] (.agg (C z))) (hpcs : PC (cfg w) 63 [] (.agg PL))
    (hCl : ∀ z, (C z).length = 16) (hCt : ∀ z, (C z).take 16 = C z) (g0 : ∀ z j, j < 16 → (C z)[j]? = some (.int .u64 (X z j))) (hX : ∀ z j, 0 ≤ X z j) (hP : ∀ x : Int, 0 ≤ x → x < 10 → PL[x.toNat]? = some (.str (P x)))
    (hr0 : rows 0 = []) (hrl : ∀ i, (rows i).length = i) (hrh : ∀ i, headOk 7 (rows i) = true) (hrows : ∀ i, rows (i + 1) = rows i ++ [[.int .i64 (IntKind.i64.wrap (IntKind.i64.wrap ((X (mixf (IntKind.u64.wrap (s + IntKind.u64.wrap i))) 0).tmod 8) + 1)),
      .int .i64 (IntKind.i64.wrap ((X (mixf (IntKind.u64.wrap (s + IntKind.u64.wrap i))) 1).tmod 12)), .int .i64 (IntKind.i64.wrap ((X (mixf (IntKind.u64.wrap (s + IntKind.u64.wrap i))) 2).tmod 3)), .str (P ((X (mixf (IntKind.u64.wrap (s + IntKind.u64.wrap i))) 3).tmod 10)),
      .int .i64 (IntKind.i64.wrap ((X (mixf (IntKind.u64.wrap (s + IntKind.u64.wrap i))) 4).tmod 4)), .int .i64 (IntKind.i64.wrap ((X (mixf (IntKind.u64.wrap (s + IntKind.u64.wrap i))) 5).tmod 6)), .int .i64 12]])
    (hN : (if (60 : Int) < (if (0 : Int) > n then 0 else n) then (60 : Int) else (if (0 : Int) > n then 0 else n)) = (N : Int)) (h60 : N ≤ 60) (hnr : nrmR (rows N) = some (rows N)) : PC (cfg w) 15 [.int .u64 s, .int .i64 n] (.vec (rows N)) := by
  refine PC_of (args' := [.int .u64 s, .int .i64 n]) hw.e15 hw.m15 rfl ?_
  refine call_of_W (fn15 w) rfl ?_
  simp only [Try.f15, List.length_cons, List.length_nil, ↓reduceIte, Int.reduceLT, Int.reduceLE, Int.reduceAdd, Int.reduceSub, Int.reduceNeg, Int.reduceMul, Int.reduceToNat, Int.reduceEq, Int.reduceNe, Int.reduceGT, Int.reduceGE, Nat.reducePow, IntKind.bits, Nat.reduceAdd, Nat.reduceSub, List.cons_append, List.nil_append]
  repeat with_reducible (first | refine E0 ?_ | refine E1 ?_ | refine E2 ?_ | refine E3 ?_ | refine E4 ?_ | refine E5 (by decide) ?_ | refine E6 ?_ | refine E7 ?_ | refine E8 ?_ | refine E9 ?_ | refine Ea ?_ | refine Eb ?_ | refine Ec ?_ | refine Ed ?_)
  refine W_region fun K hK => ?_
  simp only [KA, KB, KP, KQ, reduceCtorEq, ↓reduceIte, Int.reduceLT, Int.reduceLE, Int.reduceAdd, Int.reduceSub, Int.reduceNeg, Int.reduceMul, Int.reduceToNat, Int.reduceEq, Int.reduceNe, Int.reduceGT, Int.reduceGE, Nat.reducePow, Nat.reduceAdd, Nat.reduceSub, Nat.reduceLT, Nat.reduceMul, Nat.reduceDiv, Nat.reduceEqDiff, Nat.reduceLeDiff, KT w, hw.KF]
  refine hK _ _ ?_
  clear hK
  clear K
  repeat with_reducible (first | refine E0 ?_ | refine E1 ?_ | refine E2 ?_ | refine E3 ?_ | refine E4 ?_ | refine E5 (by decide) ?_ | refine E6 ?_ | refine E7 ?_ | refine E8 ?_ | refine E9 ?_ | refine Ea ?_ | refine Eb ?_ | refine Ec ?_ | refine Ed ?_)
  refine W_region fun K hK => ?_
  simp only [KA, KB, KP, KQ, reduceCtorEq, ↓reduceIte, Int.reduceLT, Int.reduceLE, Int.reduceAdd, Int.reduceSub, Int.reduceNeg, Int.reduceMul, Int.reduceToNat, Int.reduceEq, Int.reduceNe, Int.reduceGT, Int.reduceGE, Nat.reducePow, Nat.reduceAdd, Nat.reduceSub, Nat.reduceLT, Nat.reduceMul, Nat.reduceDiv, Nat.reduceEqDiff, Nat.reduceLeDiff, KT w, hw.KF]
  refine hK _ _ ?_
  clear hK
  clear K
  repeat with_reducible (first | refine E0 ?_ | refine E1 ?_ | refine E2 ?_ | refine E3 ?_ | refine E4 ?_ | refine E5 (by decide) ?_ | refine E6 ?_ | refine E7 ?_ | refine E8 ?_ | refine E9 ?_ | refine Ea ?_ | refine Eb ?_ | refine Ec ?_ | refine Ed ?_)
  refine W_region fun K hK => ?_
  simp only [KA, KB, KP, KQ, reduceCtorEq, ↓reduceIte, Int.reduceLT, Int.reduceLE, Int.reduceAdd, Int.reduceSub, Int.reduceNeg, Int.reduceMul, Int.reduceToNat, Int.reduceEq, Int.reduceNe, Int.reduceGT, Int.reduceGE, Nat.reducePow, Nat.reduceAdd, Nat.reduceSub, Nat.reduceLT, Nat.reduceMul, Nat.reduceDiv, Nat.reduceEqDiff, Nat.reduceLeDiff, KT w, hw.KF, amax, amin]
  refine hK _ _ ?_
  clear hK
  clear K
  repeat with_reducible (first | refine E0 ?_ | refine E1 ?_ | refine E2 ?_ | refine E3 ?_ | refine E4 ?_ | refine E5 (by decide) ?_ | refine E6 ?_ | refine E7 ?_ | refine E8 ?_ | refine E9 ?_ | refine Ea ?_ | refine Eb ?_ | refine Ec ?_ | refine Ed ?_)
  rw [hN]
  clear hN
  refine W_loop (fun k fr S => ∃ (tm : List AV) (i : Nat), fr = ⟨tm, [], none, 15⟩ ∧ k = N - i ∧ i ≤ N ∧ S.ok ∧ S.base = 0 ∧ tm.length = 55 ∧ tget tm 0 = .int .u64 s ∧ tget tm 11 = .int .i64 N ∧ tget tm 12 = .int .i64 i ∧
     ((i = 0 ∧ tget tm 5 = .nils) ∨ (∃ o g, o < S.n ∧ S.get o = some (.tail g) ∧ 0 < i ∧ tget tm 5 = .own (rows i) o g))) N ⟨_, 0, rfl, rfl, Nat.zero_le _, St.ok_nil, rfl, ?_⟩ ?_
  · simp only [KA, KP, KQ, reduceCtorEq, ↓reduceIte, Int.reduceLT, Int.reduceLE, Int.reduceAdd, Int.reduceSub, Int.reduceNeg, Int.reduceMul, Int.reduceToNat, Int.reduceEq, Int.reduceNe, Int.reduceGT, Int.reduceGE, Nat.reducePow, Nat.reduceAdd, Nat.reduceSub, Nat.reduceLT, Nat.reduceMul, Nat.reduceDiv, Nat.reduceEqDiff, Nat.reduceLeDiff, KT w, hw.KF, Int.ofNat_zero]
  rintro k fr S ⟨tm, i, rfl, rfl, hi, hok, hbase, htm, h0, h11, h12, h5⟩
  repeat with_reducible (first | refine E0 ?_ | refine E1 ?_ | refine E2 ?_ | refine E3 ?_ | refine E4 ?_ | refine E5 (by decide) ?_ | refine E6 ?_ | refine E7 ?_ | refine E8 ?_ | refine E9 ?_ | refine Ea ?_ | refine Eb ?_ | refine Ec ?_ | refine Ed ?_)
  refine W_region fun K hK => ?_
  simp only [KA, KB, KP, KQ, reduceCtorEq, ↓reduceIte, Int.reduceLT, Int.reduceLE, Int.reduceAdd, Int.reduceSub, Int.reduceNeg, Int.reduceMul, Int.reduceToNat, Int.reduceEq, Int.reduceNe, Int.reduceGT, Int.reduceGE, Nat.reducePow, Nat.reduceAdd, Nat.reduceSub, Nat.reduceLT, Nat.reduceMul, Nat.reduceDiv, Nat.reduceEqDiff, Nat.reduceLeDiff, KT w, hw.KF, htm, h0, h11, h12]
  refine hK _ _ ?_
  clear hK
  clear K
  repeat with_reducible (first | refine E0 ?_ | refine E1 ?_ | refine E2 ?_ | refine E3 ?_ | refine E4 ?_ | refine E5 (by decide) ?_ | refine E6 ?_ | refine E7 ?_ | refine E8 ?_ | refine E9 ?_ | refine Ea ?_ | refine Eb ?_ | refine Ec ?_ | refine Ed ?_)
  refine W_condP (p := _) (by simp only [KA, KP, KQ, reduceCtorEq, ↓reduceIte, Int.reduceLT, Int.reduceLE, Int.reduceAdd, Int.reduceSub, Int.reduceNeg, Int.reduceMul, Int.reduceToNat, Int.reduceEq, Int.reduceNe, Int.reduceGT, Int.reduceGE, Nat.reducePow, Nat.reduceAdd, Nat.reduceSub, Nat.reduceLT, Nat.reduceMul, Nat.reduceDiv, Nat.reduceEqDiff, Nat.reduceLeDiff, KT w, hw.KF, htm]; rfl) (fun hb => ?_) (fun hb => ?_)
  · have hiN : i < N := by omega
    repeat with_reducible (first | refine E0 ?_ | refine E1 ?_ | refine E2 ?_ | refine E3 ?_ | refine E4 ?_ | refine E5 (by decide) ?_ | refine E6 ?_ | refine E7 ?_ | refine E8 ?_ | refine E9 ?_ | refine Ea ?_ | refine Eb ?_ | refine Ec ?_ | refine Ed ?_)
    refine W_region fun K hK => ?_
    simp only [KA, KB, KP, KQ, reduceCtorEq, ↓reduceIte, Int.reduceLT, Int.reduceLE, Int.reduceAdd, Int.reduceSub, Int.reduceNeg, Int.reduceMul, Int.reduceToNat, Int.reduceEq, Int.reduceNe, Int.reduceGT, Int.reduceGE, Nat.reducePow, Nat.reduceAdd, Nat.reduceSub, Nat.reduceLT, Nat.reduceMul, Nat.reduceDiv, Nat.reduceEqDiff, Nat.reduceLeDiff, KT w, hw.KF, htm, h12]
    refine hK _ _ ?_
    clear hK
    clear K
    repeat with_reducible (first | refine E0 ?_ | refine E1 ?_ | refine E2 ?_ | refine E3 ?_ | refine E4 ?_ | refine E5 (by decide) ?_ | refine E6 ?_ | refine E7 ?_ | refine E8 ?_ | refine E9 ?_ | refine Ea ?_ | refine Eb ?_ | refine Ec ?_ | refine Ed ?_)
    refine W_region fun K hK => ?_
    simp only [KA, KB, KP, KQ, reduceCtorEq, ↓reduceIte, Int.reduceLT, Int.reduceLE, Int.reduceAdd, Int.reduceSub, Int.reduceNeg, Int.reduceMul, Int.reduceToNat, Int.reduceEq, Int.reduceNe, Int.reduceGT, Int.reduceGE, Nat.reducePow, Nat.reduceAdd, Nat.reduceSub, Nat.reduceLT, Nat.reduceMul, Nat.reduceDiv, Nat.reduceEqDiff, Nat.reduceLeDiff, KT w, hw.KF, htm, h0, h11, h12, hmix, hfirst, hCl, splice, List.length_append, hCt, hok, hbase]
    refine hK _ _ ?_
    clear hK
    clear K
    repeat with_reducible (first | refine E0 ?_ | refine E1 ?_ | refine E2 ?_ | refine E3 ?_ | refine E4 ?_ | refine E5 (by decide) ?_ | refine E6 ?_ | refine E7 ?_ | refine E8 ?_ | refine E9 ?_ | refine Ea ?_ | refine Eb ?_ | refine Ec ?_ | refine Ed ?_)
    have hrow := hrows i
    obtain ⟨z, hz⟩ : ∃ z, z = mixf (IntKind.u64.wrap (s + IntKind.u64.wrap i)) := ⟨_, rfl⟩
    rw [← hz] at hrow ⊢
    have hx3 := hX z 3
    have hx3a := Int.tmod_nonneg 10 hx3
    have hx3b := Int.tmod_lt_of_pos (X z 3) (b := 10) (by omega)
    have hx3c := hP _ hx3a hx3b
    refine W_cut (fun t => t.length = 55 ∧ tget t 0 = .int .u64 s ∧ tget t 11 = .int .i64 N ∧ tget t 12 = .int .i64 i ∧ tget t 5 = tget tm 5 ∧ tget t 7 = .ptr S.n 0) ?_ ?_
    · simp only [KA, KP, KQ, reduceCtorEq, ↓reduceIte, Int.reduceLT, Int.reduceLE, Int.reduceAdd, Int.reduceSub, Int.reduceNeg, Int.reduceMul, Int.reduceToNat, Int.reduceEq, Int.reduceNe, Int.reduceGT, Int.reduceGE, Nat.reducePow, Nat.reduceAdd, Nat.reduceSub, Nat.reduceLT, Nat.reduceMul, Nat.reduceDiv, Nat.reduceEqDiff, Nat.reduceLeDiff, KT w, hw.KF, htm, h0, h11, h12]
    rintro t ⟨htm', h0', h11', h12', h5', h7'⟩
    rw [← h5'] at h5
    clear htm h0 h11 h12 h5' hmix hfirst
    refine W_regionD [[], [0], [1, 0], [2, 1, 0], [], [4], [5, 4], [6, 5, 4], [], [], [9], [10, 9], [8, 11, 10, 9], [3, 2, 1, 0, 7, 6, 5, 4, 12, 8, 11, 10, 9], [], [14, 13, 3, 2, 1, 0, 7, 6, 5, 4, 12, 8, 11, 10, 9]] (by decide +kernel) (by decide +kernel) (by decide +kernel) fun K hK => ?_
    simp only [KA, KB, KP, KQ, reduceCtorEq, ↓reduceIte, Int.reduceLT, Int.reduceLE, Int.reduceAdd, Int.reduceSub, Int.reduceNeg, Int.reduceMul, Int.reduceToNat, Int.reduceEq, Int.reduceNe, Int.reduceGT, Int.reduceGE, Nat.reducePow, Nat.reduceAdd, Nat.reduceSub, Nat.reduceLT, Nat.reduceMul, Nat.reduceDiv, Nat.reduceEqDiff, Nat.reduceLeDiff, KT w, hw.KF, A58, A59, A5a, A5b, A5c, A5d, A5e, A5f, A5g, A5h, A5i, opP, rfoot, refsO, refs, wfoot, A5j, A5k, noisyOk, pairOk, Foot.isQuiet, Foot.apart, Ft.apart, Foot.none, A5l, A5m, A48, A49, A5n, A5o, A5p, A5q, Nat.reduceBEq, htm', h7', hpcs, hCl, g0, hok, hbase, hx3a, hx3b, hx3c, splice, List.length_append]
    refine hK _ _ ?_
    clear hK
    clear K
    repeat with_reducible (first | refine E0 ?_ | refine E1 ?_ | refine E2 ?_ | refine E3 ?_ | refine E4 ?_ | refine E5 (by decide) ?_ | refine E6 ?_ | refine E7 ?_ | refine E8 ?_ | refine E9 ?_ | refine Ea ?_ | refine Eb ?_ | refine Ec ?_ | refine Ed ?_)
    rcases h5 with ⟨hi0, h5⟩ | ⟨o, g, ho, hg, hi0, h5⟩
    · refine W_region fun K hK => ?_
      simp only [KA, KB, KP, KQ, reduceCtorEq, ↓reduceIte, Int.reduceLT, Int.reduceLE, Int.reduceAdd, Int.reduceSub, Int.reduceNeg, Int.reduceMul, Int.reduceToNat, Int.reduceEq, Int.reduceNe, Int.reduceGT, Int.reduceGE, Nat.reducePow, Nat.reduceAdd, Nat.reduceSub, Nat.reduceLT, Nat.reduceMul, Nat.reduceDiv, Nat.reduceEqDiff, Nat.reduceLeDiff, KT w, hw.KF, htm', h0', h7', h5, hCl, g0, hok, hbase, splice, List.length_append, A3v]
      refine hK _ _ ?_
      clear hK
      clear K
      repeat with_reducible (first | refine E0 ?_ | refine E1 ?_ | refine E2 ?_ | refine E3 ?_ | refine E4 ?_ | refine E5 (by decide) ?_ | refine E6 ?_ | refine E7 ?_ | refine E8 ?_ | refine E9 ?_ | refine Ea ?_ | refine Eb ?_ | refine Ec ?_ | refine Ed ?_)
      have e1 : IntKind.i64.wrap ((i : Int) + 1) = (i : Int) + 1 := i64_in _ (by omega)
      refine W_region fun K hK => ?_
      simp only [KA, KB, KP, KQ, reduceCtorEq, ↓reduceIte, Int.reduceLT, Int.reduceLE, Int.reduceAdd, Int.reduceSub, Int.reduceNeg, Int.reduceMul, Int.reduceToNat, Int.reduceEq, Int.reduceNe, Int.reduceGT, Int.reduceGE, Nat.reducePow, Nat.reduceAdd, Nat.reduceSub, Nat.reduceLT, Nat.reduceMul, Nat.reduceDiv, Nat.reduceEqDiff, Nat.reduceLeDiff, KT w, hw.KF, htm', h12', e1]
      refine hK _ _ ?_
      clear hK
      clear K
      subst hi0
      refine ⟨N - 1, by omega, _, 1, rfl, by omega, by omega, ?_, ?_, ?_⟩
      · exact St.ok_push (St.ok_push (St.ok_push hok))
      · simp only [KA, KP, KQ, reduceCtorEq, ↓reduceIte, Int.reduceLT, Int.reduceLE, Int.reduceAdd, Int.reduceSub, Int.reduceNeg, Int.reduceMul, Int.reduceToNat, Int.reduceEq, Int.reduceNe, Int.reduceGT, Int.reduceGE, Nat.reducePow, Nat.reduceAdd, Nat.reduceSub, Nat.reduceLT, Nat.reduceMul, Nat.reduceDiv, Nat.reduceEqDiff, Nat.reduceLeDiff, KT w, hw.KF, hbase]
      · simp only [KA, KP, KQ, reduceCtorEq, ↓reduceIte, Int.reduceLT, Int.reduceLE, Int.reduceAdd, Int.reduceSub, Int.reduceNeg, Int.reduceMul, Int.reduceToNat, Int.reduceEq, Int.reduceNe, Int.reduceGT, Int.reduceGE, Nat.reducePow, Nat.reduceAdd, Nat.reduceSub, Nat.reduceLT, Nat.reduceMul, Nat.reduceDiv, Nat.reduceEqDiff, Nat.reduceLeDiff, KT w, hw.KF, htm', h0', h11']
        have := hrows 0
        rw [hr0] at this
        simp only [Nat.zero_add, List.nil_append] at this
        refine ⟨S.n + 1 + 1, 0, by omega, by simp, ?_⟩
        rw [this, ← hz]
    · have hon : (o = S.n) = False := by simp; omega
      have hon2 : (o = S.n + 1) = False := by simp; omega
      have hon3 : (S.n ≤ o) = False := by simp; omega
      have hon4 : (S.n + 1 ≤ o) = False := by simp; omega
      have hcap : ((rows i).length + 1 + ((rows i).length + 1) / 4 + 1000) * 64 ≤ 281474976710656 := by rw [hrl]; omega
      have hemp : (rows i).isEmpty = false := by
        cases hrr : rows i with
        | nil => have := hrl i; rw [hrr] at this; simp at this; omega
        | cons a b => rfl
      have hrh' := hrh i
      refine W_region fun K hK => ?_
      simp only [KA, KB, KP, KQ, reduceCtorEq, ↓reduceIte, Int.reduceLT, Int.reduceLE, Int.reduceAdd, Int.reduceSub, Int.reduceNeg, Int.reduceMul, Int.reduceToNat, Int.reduceEq, Int.reduceNe, Int.reduceGT, Int.reduceGE, Nat.reducePow, Nat.reduceAdd, Nat.reduceSub, Nat.reduceLT, Nat.reduceMul, Nat.reduceDiv, Nat.reduceEqDiff, Nat.reduceLeDiff, KT w, hw.KF, htm', h0', h7', h5, hCl, g0, hok, hbase, hg, splice, List.length_append, hon, hon2, hon3, hon4, hcap, hemp, hrh']
      refine hK _ _ ?_
      clear hK
      clear K
      repeat with_reducible (first | refine E0 ?_ | refine E1 ?_ | refine E2 ?_ | refine E3 ?_ | refine E4 ?_ | refine E5 (by decide) ?_ | refine E6 ?_ | refine E7 ?_ | refine E8 ?_ | refine E9 ?_ | refine Ea ?_ | refine Eb ?_ | refine Ec ?_ | refine Ed ?_)
      have e1 : IntKind.i64.wrap ((i : Int) + 1) = (i : Int) + 1 := i64_in _ (by omega)
      refine W_region fun K hK => ?_
      simp only [KA, KB, KP, KQ, reduceCtorEq, ↓reduceIte, Int.reduceLT, Int.reduceLE, Int.reduceAdd, Int.reduceSub, Int.reduceNeg, Int.reduceMul, Int.reduceToNat, Int.reduceEq, Int.reduceNe, Int.reduceGT, Int.reduceGE, Nat.reducePow, Nat.reduceAdd, Nat.reduceSub, Nat.reduceLT, Nat.reduceMul, Nat.reduceDiv, Nat.reduceEqDiff, Nat.reduceLeDiff, KT w, hw.KF, htm', h12', e1]
      refine hK _ _ ?_
      clear hK
      clear K
      refine ⟨N - (i + 1), by omega, _, i + 1, rfl, by omega, by omega, ?_, ?_, ?_⟩
      · exact St.ok_push (St.ok_push (St.ok_set hok))
      · simp only [KA, KP, KQ, reduceCtorEq, ↓reduceIte, Int.reduceLT, Int.reduceLE, Int.reduceAdd, Int.reduceSub, Int.reduceNeg, Int.reduceMul, Int.reduceToNat, Int.reduceEq, Int.reduceNe, Int.reduceGT, Int.reduceGE, Nat.reducePow, Nat.reduceAdd, Nat.reduceSub, Nat.reduceLT, Nat.reduceMul, Nat.reduceDiv, Nat.reduceEqDiff, Nat.reduceLeDiff, KT w, hw.KF, hbase]
      · simp only [KA, KP, KQ, reduceCtorEq, ↓reduceIte, Int.reduceLT, Int.reduceLE, Int.reduceAdd, Int.reduceSub, Int.reduceNeg, Int.reduceMul, Int.reduceToNat, Int.reduceEq, Int.reduceNe, Int.reduceGT, Int.reduceGE, Nat.reducePow, Nat.reduceAdd, Nat.reduceSub, Nat.reduceLT, Nat.reduceMul, Nat.reduceDiv, Nat.reduceEqDiff, Nat.reduceLeDiff, KT w, hw.KF, htm', h0', h11', hon, hon2, hok, ho, hrow]
        exact ⟨by simp, o, g + 1, by omega, by simp [hon, hon2], by omega, rfl⟩
  · repeat with_reducible (first | refine E0 ?_ | refine E1 ?_ | refine E2 ?_ | refine E3 ?_ | refine E4 ?_ | refine E5 (by decide) ?_ | refine E6 ?_ | refine E7 ?_ | refine E8 ?_ | refine E9 ?_ | refine Ea ?_ | refine Eb ?_ | refine Ec ?_ | refine Ed ?_)
    refine W_region fun K hK => ?_
    simp only [KA, KB, KP, KQ, reduceCtorEq, ↓reduceIte, Int.reduceLT, Int.reduceLE, Int.reduceAdd, Int.reduceSub, Int.reduceNeg, Int.reduceMul, Int.reduceToNat, Int.reduceEq, Int.reduceNe, Int.reduceGT, Int.reduceGE, Nat.reducePow, Nat.reduceAdd, Nat.reduceSub, Nat.reduceLT, Nat.reduceMul, Nat.reduceDiv, Nat.reduceEqDiff, Nat.reduceLeDiff, KT w, hw.KF, htm]
    refine hK _ _ ?_
    clear hK
    clear K
    repeat with_reducible (first | refine E0 ?_ | refine E1 ?_ | refine E2 ?_ | refine E3 ?_ | refine E4 ?_ | refine E5 (by decide) ?_ | refine E6 ?_ | refine E7 ?_ | refine E8 ?_ | refine E9 ?_ | refine Ea ?_ | refine Eb ?_ | refine Ec ?_ | refine Ed ?_)
    have hiN : i = N := by omega
    subst hiN
    rcases h5 with ⟨hi0, h5⟩ | ⟨o, g, ho, hg, hi0, h5⟩
    · refine AtEnd_of rfl ?_
      simp only [KA, KP, KQ, reduceCtorEq, ↓reduceIte, Int.reduceLT, Int.reduceLE, Int.reduceAdd, Int.reduceSub, Int.reduceNeg, Int.reduceMul, Int.reduceToNat, Int.reduceEq, Int.reduceNe, Int.reduceGT, Int.reduceGE, Nat.reducePow, Nat.reduceAdd, Nat.reduceSub, Nat.reduceLT, Nat.reduceMul, Nat.reduceDiv, Nat.reduceEqDiff, Nat.reduceLeDiff, KT w, hw.KF, htm, h5, RS_some, aresults_nil, aresults_tmp, aresults_cell, one]
      subst hi0
      rw [hr0]
      exact FZ_plain rfl (by simp)
    · refine AtEnd_of rfl ?_
      simp only [KA, KP, KQ, reduceCtorEq, ↓reduceIte, Int.reduceLT, Int.reduceLE, Int.reduceAdd, Int.reduceSub, Int.reduceNeg, Int.reduceMul, Int.reduceToNat, Int.reduceEq, Int.reduceNe, Int.reduceGT, Int.reduceGE, Nat.reducePow, Nat.reduceAdd, Nat.reduceSub, Nat.reduceLT, Nat.reduceMul, Nat.reduceDiv, Nat.reduceEqDiff, Nat.reduceLeDiff, KT w, hw.KF, htm, h5, RS_some, aresults_nil, aresults_tmp, aresults_cell, one]
      exact FZ_plain (by simp [nrm, hnr]) (by simp)

/-- One operation. -/
def opCells (s : Int) (i : Nat) : List AV :=
  let z := mix (IntKind.u64.wrap (s + IntKind.u64.wrap i))
  [.int .i64 (IntKind.i64.wrap (IntKind.i64.wrap ((num z 0).tmod 8) + 1)), .int .i64 (IntKind.i64.wrap ((num z 1).tmod 12)), .int .i64 (IntKind.i64.wrap ((num z 2).tmod 3)), .str (pcs.getD ((num z 3).tmod 10).toNat []),
    .int .i64 (IntKind.i64.wrap ((num z 4).tmod 4)), .int .i64 (IntKind.i64.wrap ((num z 5).tmod 6)), .int .i64 12]
def opsRows (s : Int) (n : Nat) : Rows := (List.range n).map (opCells s)
theorem opsRows_succ (s : Int) (n : Nat) : opsRows s (n + 1) = opsRows s n ++ [opCells s n] := by simp [opsRows, List.range_succ]
theorem opsRows_len (s : Int) (n : Nat) : (opsRows s n).length = n := by simp [opsRows]
theorem opsRows_nrm (s : Int) (n : Nat) : nrmR (opsRows s n) = some (opsRows s n) := by
  induction n with
  | zero => rfl
  | succ n ih =>
    rw [opsRows_succ]
    exact nrmR_append ih (by simp [nrmR, nrmL, nrm, opCells])
def clip60 (n : Int) : Nat := (min (max n 0) 60).toNat
theorem pcs_get (x : Int) (h : 0 ≤ x) (h' : x < 10) : (pcs.map AV.str)[x.toNat]? = some (.str (pcs.getD x.toNat [])) := by
  have h1 : x.toNat < 10 := by omega
  have h2 : pcs.length = 10 := rfl
  simp [List.getD, List.getElem?_eq_getElem (h2 ▸ h1 : x.toNat < pcs.length)]

theorem ops_ok (hw : Std w) (s n : Int) : PC (cfg w) 15 [.int .u64 s, .int .i64 n] (.vec (opsRows s (clip60 n))) := by
  refine ops_gen hw (mixf := mix) (C := fun z => cells16 z 16) (X := num) (PL := pcs.map .str) (P := fun x => pcs.getD x.toNat []) (rows := opsRows s) (mix_ok hw) (first_ok hw) (pieces_ok hw) (fun z => cells16_len z 16) (fun z => cells16_take z 16)
    (fun z j hj => cells16_get z 16 j hj hj) (fun z j => (mix_range _).1) pcs_get rfl (opsRows_len s) (fun i => ?_) (fun i => ?_) ?_ ?_ (opsRows_nrm s _)
  · cases i with
    | zero => rfl
    | succ i =>
      unfold opsRows
      rw [List.range_succ_eq_map]
      rfl
  · rw [opsRows_succ]; rfl
  · unfold clip60; omega
  · unfold clip60; omega
end Go.Am.B
