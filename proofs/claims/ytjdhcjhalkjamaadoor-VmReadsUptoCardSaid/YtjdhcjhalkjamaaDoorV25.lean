/- THE LAW VmReads. -/
import Derived.Test.YtjdhcjhalkjamaaDoorV24
import Derived.Test.YtjdhcjhalkjamaaDoorV12
set_option linter.unusedSimpArgs false
set_option linter.unusedVariables false
set_option maxRecDepth 20000
namespace Go.Am.V
open Go.Proofs Go.IntWalk

variable {w : Ways}

/-- An operation that can be, but for where it goes to. -/
def Pre (i : Ins) : Prop := ∀ n : Nat, i.z ≤ (n : Int) → fit1 n i = true

theorem numL_in {wd : List UInt8} (h : ¬ (numL wd).2 = false) : 0 ≤ (numL wd).1 ∧ (numL wd).1 ≤ 255 := by
  have h' : (numL wd).2 = true := by cases h0 : (numL wd).2 <;> simp_all
  exact numW_v (by rw [numW_numL, if_pos h'])

theorem made_pre {wd : List UInt8} {x : Int × List UInt8} (h : findOp wd = some x) {n : Int} {T : List (Nat × List UInt8)} {k : Nat} {l : List Int} (hl : numsR n x.1 T k x.2.length 1 [] = .inr l) : Pre (madeR x.1 l) := by
  rcases findOp_mem h with rfl | rfl | rfl | rfl | rfl | rfl | rfl
  · simp only [List.length_cons, List.length_nil, Nat.reduceAdd, numsR] at hl
    split at hl
    · cases hl
    split at hl
    · cases hl
    rename_i h1
    split at hl
    · cases hl
    split at hl
    · cases hl
    rename_i h2
    split at hl
    · cases hl
    split at hl
    · cases hl
    rename_i h3
    have b1 := numL_in (fun e => h1 (.inl e))
    have b2 := numL_in (fun e => h2 (.inl e))
    have b3 := numL_in (fun e => h3 (.inl e))
    cases hl
    have hxy : ∀ {u v : Int}, ¬ (v < u) → u ≤ v := fun h => by omega
    intro m hm
    simp [madeR] at hm h2 ⊢
    simp [fit1, num8]
    omega
  · simp only [List.length_cons, List.length_nil, Nat.reduceAdd, numsR] at hl
    split at hl
    · cases hl
    split at hl
    · cases hl
    rename_i h1
    split at hl
    · cases hl
    split at hl
    · cases hl
    rename_i h2
    have b1 := numL_in (fun e => h1 (.inl e))
    have b2 := numL_in (fun e => h2 (.inl e))
    cases hl
    intro m hm
    simp [madeR] at hm ⊢
    simp [fit1, num8]
    omega
  · simp only [List.length_cons, List.length_nil, Nat.reduceAdd, numsR] at hl
    split at hl
    · cases hl
    split at hl
    · cases hl
    rename_i h1
    have b1 := numL_in (fun e => h1 (.inl e))
    cases hl
    intro m hm
    simp [madeR] at hm ⊢
    simp [fit1, num8]
    omega
  · simp only [List.length_cons, List.length_nil, Nat.reduceAdd, numsR] at hl
    split at hl
    · cases hl
    split at hl
    · cases hl
    rename_i h1
    have b1 := numL_in (fun e => h1 (.inl e))
    cases hl
    intro m hm
    simp [madeR] at hm ⊢
    simp [fit1, num8]
    omega
  · simp only [List.length_cons, List.length_nil, Nat.reduceAdd, numsR] at hl
    split at hl
    · cases hl
    split at hl
    · cases hl
    rename_i h1
    have b1 := numL_in (fun e => h1 (.inl e))
    cases hl
    intro m hm
    simp [madeR] at hm ⊢
    simp [fit1, num8]
    omega
  · cases hl
    intro m hm
    simp [madeR] at hm ⊢
    simp [fit1, num8]
  · cases hl
    intro m hm
    simp [madeR] at hm ⊢
    simp [fit1, num8]

theorem badZ_no (n : Nat) : ∀ (p : List Ins) (e : List Int), badZ n p e = none → e.length = p.length → ∀ i ∈ p, i.z ≤ (n : Int)
  | [], _, _, _, i, hi => by cases hi
  | j :: p, [], _, h, i, hi => by simp at h
  | j :: p, a :: e, h, hl, i, hi => by
    rw [badZ] at h
    split at h
    · cases h
    · rcases List.mem_cons.1 hi with rfl | hi
      · omega
      · exact badZ_no n p e h (by simpa using hl) i hi

/-- A fault, or a program that can be. -/
def Oks (r : List Ins × Int × Int) : Prop := (r.1 = [] ∧ ¬ r.2.1 = 0) ∨ (r.2.1 = 0 ∧ r.2.2 = 0 ∧ fitV r.1 = true)
theorem Oks.e10 (a : Int) : Oks ([], 10, a) := .inl ⟨rfl, by simp⟩
theorem Oks.e11 (a : Int) : Oks ([], 11, a) := .inl ⟨rfl, by simp⟩
theorem Oks.e15 (a : Int) : Oks ([], 15, a) := .inl ⟨rfl, by simp⟩
theorem numsR_err (n op : Int) (T : List (Nat × List UInt8)) (K : Nat) : ∀ (j i : Nat) (l : List Int) (q : Int × Int), numsR n op T K j i l = .inl q → q.1 = 10 ∨ q.1 = 11
  | 0, i, l, q, h => by cases h
  | j + 1, i, l, q, h => by
    rw [numsR] at h
    split at h
    · cases h; exact .inr rfl
    · split at h
      · cases h; exact .inl rfl
      · exact numsR_err n op T K j _ _ q h
theorem finR_ok {p : List Ins} {e : List Int} (h1 : 1 ≤ p.length) (h64 : p.length ≤ 64) (he : e.length = p.length) (hp : ∀ i ∈ p, Pre i) : Oks (finR p e) := by
  unfold finR
  cases hB : badZ p.length p e with
  | some a => exact Oks.e10 _
  | none =>
    refine .inr ⟨rfl, rfl, ?_⟩
    have := badZ_no _ _ _ hB he
    simp only [fitV, Bool.and_eq_true, decide_eq_true_eq, List.all_eq_true]
    exact ⟨⟨h1, h64⟩, fun i hi => hp i hi _ (this i hi)⟩

theorem refR_ok (n : Int) (T : List (Nat × List UInt8)) : ∀ (f k : Nat) (p : List Ins) (e : List Int), T.length < f + k → 0 < f → p.length ≤ 64 → e.length = p.length → (∀ i ∈ p, Pre i) → Oks (refR n T f k p e)
  | 0, k, p, e, hk, h0, hp, he, hi => by omega
  | f + 1, k, p, e, hk, h0, hp, he, hi => by
    rw [refR]
    cases hT : T[k]? with
    | none => exact Oks.e11 _
    | some x =>
      obtain ⟨a, wd⟩ := x
      simp only
      cases hf : findOp wd with
      | none => exact Oks.e10 _
      | some x =>
        simp only
        by_cases h64 : p.length = 64
        · rw [if_pos h64]; exact Oks.e15 _
        rw [if_neg h64]
        cases hN : numsR n x.1 T k x.2.length 1 [] with
        | inl q =>
          have hq : ¬ q.1 = 0 := by
            rcases numsR_err _ _ _ _ _ _ _ _ hN with h | h <;> rw [h] <;> simp
          exact .inl ⟨rfl, hq⟩
        | inr l =>
          have hpre := made_pre hf hN
          have hi2 : ∀ i ∈ p ++ [madeR x.1 l], Pre i := fun i hh => by
            rcases List.mem_append.1 hh with h | h
            · exact hi i h
            · simp at h; subst h; exact hpre
          simp only
          cases hT2 : T[k + x.2.length + 1]? with
          | none => exact finR_ok (by simp) (by simp; omega) (by simp; omega) hi2
          | some y =>
            obtain ⟨b, w2⟩ := y
            have hlt2 := (List.getElem?_eq_some_iff.1 hT2).1
            simp only
            by_cases hw : w2 = [59]
            · rw [if_pos hw]
              exact refR_ok n T f _ _ _ (by omega) (by omega) (by simp; omega) (by simp; omega) hi2
            · rw [if_neg hw]; exact Oks.e10 _

theorem lEq25 (a b c d : Int) : leavesEq [.int .i64 a, .int .i64 b] [.int .i64 c, .int .i64 d] = some (decide (a = c ∧ b = d)) := by
  simp [leavesEq, leafEq, int_beq, Bool.decide_and]

theorem callF_valR {c : Cfg} {f : FuncId} {F : List AV → Option AV} {a : List AV} {v : AV} (he : c.ext f = some (.val F)) (h : F a = some v) : PC c f a v := by
  intro S
  simp [callF, he, XT.run, h]

set_option maxHeartbeats 2000000 in
theorem vmReads3 (s : List UInt8) (hs : s.length ≤ 1000000000) : PC (cfg vw) 3 [.str s] (.bool true) := by
  have hw := stdV
  have haw := awake13
  refine PC_of (args' := [.str s]) hw.e3 hw.m3 (by simp [nrmA, nrm]) ?_
  have hp1 := parse8 hw rfl rfl rfl rfl (s := s) (by omega) (fun k hk => by unfold idxOk; simp; omega)
  have hp2 := parse9 hw s hs
  rw [parseV_refV] at hp1
  have hok : Oks (refV s) := refR_ok _ _ _ _ _ _ (by omega) (by omega) (by simp) rfl (by simp)
  have hext : (cfg vw).ext 11 = some (.val printF) := rfl
  have hprint : ∀ p, fitV p = true → printF [.vec (inRows p)] = some (.str (printV p)) := fun p => printF_in
  generalize hW : vw = w at *
  generalize refV s = R at *
  obtain ⟨q, e, a⟩ := R
  have hql : q.length ≤ 1000000000000000 := by
    rcases hok with ⟨h, _⟩ | ⟨_, _, h⟩
    · simp only at h; rw [h]; simp
    · simp only [fitV, Bool.and_eq_true, decide_eq_true_eq] at h; omega
  have hsame := same10 hw q q hql hql
  rw [decide_eq_true rfl] at hsame
  have hq1 : leavesEq [.int .i64 e, .int .i64 a] [.int .i64 e, .int .i64 a] = some true := by rw [lEq25]; simp
  simp only [resP] at hp1 hp2
  rcases hok with ⟨h1, h2⟩ | ⟨h1, h2, h3⟩
  · simp only at h1 h2
    have hq2 : leavesEq [.int .i64 e, .int .i64 a] [.int .i64 0, .int .i64 0] = some false := by rw [lEq25]; simp [h2]
    refine call_of_W (fn3 w) rfl ?_
    simp only [Tryd.f3, List.length_cons, List.length_nil, ↓reduceIte, Int.reduceLT, Int.reduceLE, Int.reduceAdd, Int.reduceSub, Int.reduceNeg, Int.reduceMul, Int.reduceToNat, Int.reduceEq, Int.reduceNe, Int.reduceGT, Int.reduceGE, Nat.reducePow, IntKind.bits, Nat.reduceAdd, Nat.reduceSub, List.cons_append, List.nil_append]
    repeat with_reducible (first | refine E0 ?_ | refine E1 ?_ | refine E2 ?_ | refine E3 ?_ | refine E4 ?_ | refine E5 (by decide) ?_ | refine E6 ?_ | refine E7 ?_ | refine E8 ?_ | refine E9 ?_ | refine Ea ?_ | refine Eb ?_ | refine Ec ?_ | refine Ed ?_)
    refine W_region fun K hK => ?_
    simp only [KA, KB, KP, KQ, reduceCtorEq, ↓reduceIte, Int.reduceLT, Int.reduceLE, Int.reduceAdd, Int.reduceSub, Int.reduceNeg, Int.reduceMul, Int.reduceToNat, Int.reduceEq, Int.reduceNe, Int.reduceGT, Int.reduceGE, Nat.reducePow, Nat.reduceAdd, Nat.reduceSub, Nat.reduceLT, Nat.reduceMul, Nat.reduceDiv, Nat.reduceEqDiff, Nat.reduceLeDiff, KT w, KI, hw.KF]
    refine hK _ _ ?_
    clear hK
    clear K
    repeat with_reducible (first | refine E0 ?_ | refine E1 ?_ | refine E2 ?_ | refine E3 ?_ | refine E4 ?_ | refine E5 (by decide) ?_ | refine E6 ?_ | refine E7 ?_ | refine E8 ?_ | refine E9 ?_ | refine Ea ?_ | refine Eb ?_ | refine Ec ?_ | refine Ed ?_)
    refine W_region fun K hK => ?_
    simp only [KA, KB, KP, KQ, reduceCtorEq, ↓reduceIte, Int.reduceLT, Int.reduceLE, Int.reduceAdd, Int.reduceSub, Int.reduceNeg, Int.reduceMul, Int.reduceToNat, Int.reduceEq, Int.reduceNe, Int.reduceGT, Int.reduceGE, Nat.reducePow, Nat.reduceAdd, Nat.reduceSub, Nat.reduceLT, Nat.reduceMul, Nat.reduceDiv, Nat.reduceEqDiff, Nat.reduceLeDiff, KT w, KI, hw.KF, hp1, splice]
    refine hK _ _ ?_
    clear hK
    clear K
    repeat with_reducible (first | refine E0 ?_ | refine E1 ?_ | refine E2 ?_ | refine E3 ?_ | refine E4 ?_ | refine E5 (by decide) ?_ | refine E6 ?_ | refine E7 ?_ | refine E8 ?_ | refine E9 ?_ | refine Ea ?_ | refine Eb ?_ | refine Ec ?_ | refine Ed ?_)
    refine W_region fun K hK => ?_
    simp only [KA, KB, KP, KQ, reduceCtorEq, ↓reduceIte, Int.reduceLT, Int.reduceLE, Int.reduceAdd, Int.reduceSub, Int.reduceNeg, Int.reduceMul, Int.reduceToNat, Int.reduceEq, Int.reduceNe, Int.reduceGT, Int.reduceGE, Nat.reducePow, Nat.reduceAdd, Nat.reduceSub, Nat.reduceLT, Nat.reduceMul, Nat.reduceDiv, Nat.reduceEqDiff, Nat.reduceLeDiff, KT w, KI, hw.KF, hp2, splice]
    refine hK _ _ ?_
    clear hK
    clear K
    repeat with_reducible (first | refine E0 ?_ | refine E1 ?_ | refine E2 ?_ | refine E3 ?_ | refine E4 ?_ | refine E5 (by decide) ?_ | refine E6 ?_ | refine E7 ?_ | refine E8 ?_ | refine E9 ?_ | refine Ea ?_ | refine Eb ?_ | refine Ec ?_ | refine Ed ?_)
    refine W_region fun K hK => ?_
    simp only [KA, KB, KP, KQ, reduceCtorEq, ↓reduceIte, Int.reduceLT, Int.reduceLE, Int.reduceAdd, Int.reduceSub, Int.reduceNeg, Int.reduceMul, Int.reduceToNat, Int.reduceEq, Int.reduceNe, Int.reduceGT, Int.reduceGE, Nat.reducePow, Nat.reduceAdd, Nat.reduceSub, Nat.reduceLT, Nat.reduceMul, Nat.reduceDiv, Nat.reduceEqDiff, Nat.reduceLeDiff, KT w, KI, hw.KF, hsame, haw, fits25i hw, splice, hq1, hq2, hw.eq25]
    refine hK _ _ ?_
    clear hK
    clear K
    repeat with_reducible (first | refine E0 ?_ | refine E1 ?_ | refine E2 ?_ | refine E3 ?_ | refine E4 ?_ | refine E5 (by decide) ?_ | refine E6 ?_ | refine E7 ?_ | refine E8 ?_ | refine E9 ?_ | refine Ea ?_ | refine Eb ?_ | refine Ec ?_ | refine Ed ?_)
    refine AtEnd_of rfl ?_
    simp only [KA, KP, KQ, reduceCtorEq, ↓reduceIte, Int.reduceLT, Int.reduceLE, Int.reduceAdd, Int.reduceSub, Int.reduceNeg, Int.reduceMul, Int.reduceToNat, Int.reduceEq, Int.reduceNe, Int.reduceGT, Int.reduceGE, Nat.reducePow, Nat.reduceAdd, Nat.reduceSub, Nat.reduceLT, Nat.reduceMul, Nat.reduceDiv, Nat.reduceEqDiff, Nat.reduceLeDiff, KT w, KI, hw.KF, RS_some, aresults_nil, aresults_tmp, aresults_cell, one]
    exact FZ_bool
  · simp only at h1 h2 h3
    subst h1 h2
    have hprv := hprint q h3
    have hpr : PC (cfg w) 11 [.vec (inRows q)] (.str (printV q)) := callF_valR (F := printF) hext hprv
    have hpr2 := print12 hw h3
    generalize printV q = pv at *
    refine call_of_W (fn3 w) rfl ?_
    simp only [Tryd.f3, List.length_cons, List.length_nil, ↓reduceIte, Int.reduceLT, Int.reduceLE, Int.reduceAdd, Int.reduceSub, Int.reduceNeg, Int.reduceMul, Int.reduceToNat, Int.reduceEq, Int.reduceNe, Int.reduceGT, Int.reduceGE, Nat.reducePow, IntKind.bits, Nat.reduceAdd, Nat.reduceSub, List.cons_append, List.nil_append]
    repeat with_reducible (first | refine E0 ?_ | refine E1 ?_ | refine E2 ?_ | refine E3 ?_ | refine E4 ?_ | refine E5 (by decide) ?_ | refine E6 ?_ | refine E7 ?_ | refine E8 ?_ | refine E9 ?_ | refine Ea ?_ | refine Eb ?_ | refine Ec ?_ | refine Ed ?_)
    refine W_region fun K hK => ?_
    simp only [KA, KB, KP, KQ, reduceCtorEq, ↓reduceIte, Int.reduceLT, Int.reduceLE, Int.reduceAdd, Int.reduceSub, Int.reduceNeg, Int.reduceMul, Int.reduceToNat, Int.reduceEq, Int.reduceNe, Int.reduceGT, Int.reduceGE, Nat.reducePow, Nat.reduceAdd, Nat.reduceSub, Nat.reduceLT, Nat.reduceMul, Nat.reduceDiv, Nat.reduceEqDiff, Nat.reduceLeDiff, KT w, KI, hw.KF]
    refine hK _ _ ?_
    clear hK
    clear K
    repeat with_reducible (first | refine E0 ?_ | refine E1 ?_ | refine E2 ?_ | refine E3 ?_ | refine E4 ?_ | refine E5 (by decide) ?_ | refine E6 ?_ | refine E7 ?_ | refine E8 ?_ | refine E9 ?_ | refine Ea ?_ | refine Eb ?_ | refine Ec ?_ | refine Ed ?_)
    refine W_region fun K hK => ?_
    simp only [KA, KB, KP, KQ, reduceCtorEq, ↓reduceIte, Int.reduceLT, Int.reduceLE, Int.reduceAdd, Int.reduceSub, Int.reduceNeg, Int.reduceMul, Int.reduceToNat, Int.reduceEq, Int.reduceNe, Int.reduceGT, Int.reduceGE, Nat.reducePow, Nat.reduceAdd, Nat.reduceSub, Nat.reduceLT, Nat.reduceMul, Nat.reduceDiv, Nat.reduceEqDiff, Nat.reduceLeDiff, KT w, KI, hw.KF, hp1, splice]
    refine hK _ _ ?_
    clear hK
    clear K
    repeat with_reducible (first | refine E0 ?_ | refine E1 ?_ | refine E2 ?_ | refine E3 ?_ | refine E4 ?_ | refine E5 (by decide) ?_ | refine E6 ?_ | refine E7 ?_ | refine E8 ?_ | refine E9 ?_ | refine Ea ?_ | refine Eb ?_ | refine Ec ?_ | refine Ed ?_)
    refine W_region fun K hK => ?_
    simp only [KA, KB, KP, KQ, reduceCtorEq, ↓reduceIte, Int.reduceLT, Int.reduceLE, Int.reduceAdd, Int.reduceSub, Int.reduceNeg, Int.reduceMul, Int.reduceToNat, Int.reduceEq, Int.reduceNe, Int.reduceGT, Int.reduceGE, Nat.reducePow, Nat.reduceAdd, Nat.reduceSub, Nat.reduceLT, Nat.reduceMul, Nat.reduceDiv, Nat.reduceEqDiff, Nat.reduceLeDiff, KT w, KI, hw.KF, hp2, splice]
    refine hK _ _ ?_
    clear hK
    clear K
    repeat with_reducible (first | refine E0 ?_ | refine E1 ?_ | refine E2 ?_ | refine E3 ?_ | refine E4 ?_ | refine E5 (by decide) ?_ | refine E6 ?_ | refine E7 ?_ | refine E8 ?_ | refine E9 ?_ | refine Ea ?_ | refine Eb ?_ | refine Ec ?_ | refine Ed ?_)
    refine W_region fun K hK => ?_
    simp only [KA, KB, KP, KQ, reduceCtorEq, ↓reduceIte, Int.reduceLT, Int.reduceLE, Int.reduceAdd, Int.reduceSub, Int.reduceNeg, Int.reduceMul, Int.reduceToNat, Int.reduceEq, Int.reduceNe, Int.reduceGT, Int.reduceGE, Nat.reducePow, Nat.reduceAdd, Nat.reduceSub, Nat.reduceLT, Nat.reduceMul, Nat.reduceDiv, Nat.reduceEqDiff, Nat.reduceLeDiff, KT w, KI, hw.KF, hsame, haw, fits25i hw, splice, hq1, hw.eq25, hpr, hpr2]
    refine hK _ _ ?_
    clear hK
    clear K
    repeat with_reducible (first | refine E0 ?_ | refine E1 ?_ | refine E2 ?_ | refine E3 ?_ | refine E4 ?_ | refine E5 (by decide) ?_ | refine E6 ?_ | refine E7 ?_ | refine E8 ?_ | refine E9 ?_ | refine Ea ?_ | refine Eb ?_ | refine Ec ?_ | refine Ed ?_)
    refine AtEnd_of rfl ?_
    simp only [KA, KP, KQ, reduceCtorEq, ↓reduceIte, Int.reduceLT, Int.reduceLE, Int.reduceAdd, Int.reduceSub, Int.reduceNeg, Int.reduceMul, Int.reduceToNat, Int.reduceEq, Int.reduceNe, Int.reduceGT, Int.reduceGE, Nat.reducePow, Nat.reduceAdd, Nat.reduceSub, Nat.reduceLT, Nat.reduceMul, Nat.reduceDiv, Nat.reduceEqDiff, Nat.reduceLeDiff, KT w, KI, hw.KF, RS_some, aresults_nil, aresults_tmp, aresults_cell, one]
    exact FZ_bool
end Go.Am.V
