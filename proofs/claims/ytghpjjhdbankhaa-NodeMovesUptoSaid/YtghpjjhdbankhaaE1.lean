/- THE LEAST NODE THAT HAS SOME BYTES, BY BOTH. -/
import Derived.Test.YtghpjjhdbankhaaN1
import Derived.Test.YtghpjjhdbankhaaS0b
set_option linter.unusedSimpArgs false
set_option linter.unusedVariables false
set_option maxRecDepth 20000
namespace Go.Am.B
open Go.Proofs Go.IntWalk

variable {w : Ways}

def hasN (f t : Int) (n : Node) : Bool := if n.frm ≤ f then decide (n.to ≥ t) else false
mutual
def atN (f t : Int) : Node → List Int
  | .mk _ _ _ _ _ _ ks => atL f t ks 0
def atL (f t : Int) : List Node → Int → List Int
  | [], _ => []
  | k :: ks, i => if hasN f t k then i :: atN f t k else atL f t ks (i + 1)
end
theorem atN_eq (f t : Int) (n : Node) : atN f t n = atL f t n.kids 0 := by cases n; simp [atN, Node.kids]
/-- The path of the least node that has some bytes. -/
def atP (f t : Int) (n : Node) : List Int := if hasN f t n then atN f t n else []
theorem atL_idx (f t : Int) : ∀ (ks : List Node) (i : Nat), (idx (hasN f t) i ks = -1 ∧ atL f t ks i = []) ∨
    ∃ (j : Nat) (x : Node), ks[j]? = some x ∧ hasN f t x = true ∧ idx (hasN f t) i ks = ((i + j : Nat) : Int) ∧ atL f t ks i = ((i + j : Nat) : Int) :: atN f t x
  | [], i => .inl ⟨rfl, rfl⟩
  | k :: ks, i => by
    cases hk : hasN f t k with
    | true => exact .inr ⟨0, k, rfl, hk, by simp [idx, hk], by simp [atL, hk]⟩
    | false =>
      have e : ((i : Int) + 1) = ((i + 1 : Nat) : Int) := by omega
      rcases atL_idx f t ks (i + 1) with ⟨h1, h2⟩ | ⟨j, x, h1, h2, h3, h4⟩
      · exact .inl ⟨by simp only [idx, hk, Bool.false_eq_true, if_false]; rw [e]; exact h1, by simp only [atL, hk, Bool.false_eq_true, if_false]; rw [e]; exact h2⟩
      · refine .inr ⟨j + 1, x, by simpa using h1, h2, ?_, ?_⟩
        · simp only [idx, hk, Bool.false_eq_true, if_false]; rw [e, h3]; omega
        · simp only [atL, hk, Bool.false_eq_true, if_false]; rw [e, h4]; congr 1; omega
theorem at_idx (f t : Int) (n : Node) : (idx (hasN f t) 0 n.kids = -1 ∧ atN f t n = []) ∨
    ∃ (j : Nat) (x : Node), n.kids[j]? = some x ∧ hasN f t x = true ∧ idx (hasN f t) 0 n.kids = (j : Int) ∧ atN f t n = (j : Int) :: atN f t x := by
  have := atL_idx f t n.kids 0
  rw [atN_eq]
  simpa using this

theorem at1_ok (hw : Std w) (x : Node) (f t : Int) (o1 o2 : Nat) (l1 l2 : Bool) (S : St) (hS : S.ok) (h1 : S.get o1 = some (.row [.int .i64 f] l1)) (h2 : S.get o2 = some (.row [.int .i64 t] l2)) :
    callF (cfg w) (lim (cfg w)) 84 [x.av, .ptr o1 0, .ptr o2 0] S = some (.bool (hasN f t x), S) := by
  have hlt1 := St.get_lt h1
  have hlt2 := St.get_lt h2
  have hne1 : (o1 = S.n) = False := by simp; omega
  have hne2 : (o2 = S.n) = False := by simp; omega
  refine callF_temp (c := cfg w) hw.e84 hw.m84 ?_
  unfold hasN
  refine call_of_W (fn84 w) rfl ?_
  simp only [Try.f84, List.length_cons, List.length_nil, ↓reduceIte, Int.reduceLT, Int.reduceLE, Int.reduceAdd, Int.reduceSub, Int.reduceNeg, Int.reduceMul, Int.reduceToNat, Int.reduceEq, Int.reduceNe, Int.reduceGT, Int.reduceGE, Nat.reducePow, IntKind.bits, Nat.reduceAdd, Nat.reduceSub, List.cons_append, List.nil_append]
  repeat with_reducible (first | refine E0 ?_ | refine E1 ?_ | refine E2 ?_ | refine E3 ?_ | refine E4 ?_ | refine E5 (by decide) ?_ | refine E6 ?_ | refine E7 ?_ | refine E8 ?_ | refine E9 ?_ | refine Ea ?_ | refine Eb ?_ | refine Ec ?_ | refine Ed ?_)
  refine W_region fun K hK => ?_
  simp only [KA, KB, KP, KQ, reduceCtorEq, ↓reduceIte, Int.reduceLT, Int.reduceLE, Int.reduceAdd, Int.reduceSub, Int.reduceNeg, Int.reduceMul, Int.reduceToNat, Int.reduceEq, Int.reduceNe, Int.reduceGT, Int.reduceGE, Nat.reducePow, Nat.reduceAdd, Nat.reduceSub, Nat.reduceLT, Nat.reduceMul, Nat.reduceDiv, Nat.reduceEqDiff, Nat.reduceLeDiff, KT w, hw.KF]
  refine hK _ _ ?_
  clear hK
  clear K
  repeat with_reducible (first | refine E0 ?_ | refine E1 ?_ | refine E2 ?_ | refine E3 ?_ | refine E4 ?_ | refine E5 (by decide) ?_ | refine E6 ?_ | refine E7 ?_ | refine E8 ?_ | refine E9 ?_ | refine Ea ?_ | refine Eb ?_ | refine Ec ?_ | refine Ed ?_)
  by_cases h : x.frm ≤ f
  · refine W_region fun K hK => ?_
    simp only [KA, KB, KP, KQ, reduceCtorEq, ↓reduceIte, Int.reduceLT, Int.reduceLE, Int.reduceAdd, Int.reduceSub, Int.reduceNeg, Int.reduceMul, Int.reduceToNat, Int.reduceEq, Int.reduceNe, Int.reduceGT, Int.reduceGE, Nat.reducePow, Nat.reduceAdd, Nat.reduceSub, Nat.reduceLT, Nat.reduceMul, Nat.reduceDiv, Nat.reduceEqDiff, Nat.reduceLeDiff, KT w, hw.KF, h1, h2, hne1, hne2, h]
    refine hK _ _ ?_
    clear hK
    clear K
    repeat with_reducible (first | refine E0 ?_ | refine E1 ?_ | refine E2 ?_ | refine E3 ?_ | refine E4 ?_ | refine E5 (by decide) ?_ | refine E6 ?_ | refine E7 ?_ | refine E8 ?_ | refine E9 ?_ | refine Ea ?_ | refine Eb ?_ | refine Ec ?_ | refine Ed ?_)
    refine AtEnd_of rfl ?_
    simp only [KA, KP, KQ, reduceCtorEq, ↓reduceIte, Int.reduceLT, Int.reduceLE, Int.reduceAdd, Int.reduceSub, Int.reduceNeg, Int.reduceMul, Int.reduceToNat, Int.reduceEq, Int.reduceNe, Int.reduceGT, Int.reduceGE, Nat.reducePow, Nat.reduceAdd, Nat.reduceSub, Nat.reduceLT, Nat.reduceMul, Nat.reduceDiv, Nat.reduceEqDiff, Nat.reduceLeDiff, KT w, hw.KF, RS_some, aresults_nil, aresults_tmp, aresults_cell, one]
    simp [frz, frzA, frz1, nrm, h]
  · refine W_region fun K hK => ?_
    simp only [KA, KB, KP, KQ, reduceCtorEq, ↓reduceIte, Int.reduceLT, Int.reduceLE, Int.reduceAdd, Int.reduceSub, Int.reduceNeg, Int.reduceMul, Int.reduceToNat, Int.reduceEq, Int.reduceNe, Int.reduceGT, Int.reduceGE, Nat.reducePow, Nat.reduceAdd, Nat.reduceSub, Nat.reduceLT, Nat.reduceMul, Nat.reduceDiv, Nat.reduceEqDiff, Nat.reduceLeDiff, KT w, hw.KF, h1, h2, hne1, hne2, h]
    refine hK _ _ ?_
    clear hK
    clear K
    repeat with_reducible (first | refine E0 ?_ | refine E1 ?_ | refine E2 ?_ | refine E3 ?_ | refine E4 ?_ | refine E5 (by decide) ?_ | refine E6 ?_ | refine E7 ?_ | refine E8 ?_ | refine E9 ?_ | refine Ea ?_ | refine Eb ?_ | refine Ec ?_ | refine Ed ?_)
    refine AtEnd_of rfl ?_
    simp only [KA, KP, KQ, reduceCtorEq, ↓reduceIte, Int.reduceLT, Int.reduceLE, Int.reduceAdd, Int.reduceSub, Int.reduceNeg, Int.reduceMul, Int.reduceToNat, Int.reduceEq, Int.reduceNe, Int.reduceGT, Int.reduceGE, Nat.reducePow, Nat.reduceAdd, Nat.reduceSub, Nat.reduceLT, Nat.reduceMul, Nat.reduceDiv, Nat.reduceEqDiff, Nat.reduceLeDiff, KT w, hw.KF, RS_some, aresults_nil, aresults_tmp, aresults_cell, one]
    simp [frz, frzA, frz1, nrm, h]

theorem nrm_own0 (p : List Int) (o g : Nat) : nrm (.own (ints p) o g) = some (.vec (ints p)) := by simp [Am.nrm, nrmR_ints]
/-- A row of numbers that one may append to. -/
def Grow (S : St) (a : AV) (q : List Int) : Prop := (q = [] ∧ a = .nils) ∨ (q ≠ [] ∧ ∃ o g, a = .own (ints q) o g ∧ 2 < o ∧ o < S.n ∧ S.get o = some (.tail g))
theorem Grow.nrm {S : St} {a : AV} {q : List Int} (h : Grow S a q) : nrm a = some (.vec (ints q)) := by
  rcases h with ⟨rfl, rfl⟩ | ⟨_, o, g, rfl, _⟩
  · rfl
  · exact nrm_own0 q o g
theorem at53_ok (hw : Std w) (n : Node) (hn : n.ok) (f t : Int) (hN : dep n ≤ 1000000) : PC (cfg w) 53 [n.av, .int .i64 f, .int .i64 t] (.vec (ints (atP f t n))) := by
  refine PC_of (args' := [n.av, .int .i64 f, .int .i64 t]) hw.e53 hw.m53 (by simp [nrmA, nrm, Node.nrm_all]) ?_
  refine call_of_W (fn53 w) rfl ?_
  simp only [Try.f53, List.length_cons, List.length_nil, ↓reduceIte, Int.reduceLT, Int.reduceLE, Int.reduceAdd, Int.reduceSub, Int.reduceNeg, Int.reduceMul, Int.reduceToNat, Int.reduceEq, Int.reduceNe, Int.reduceGT, Int.reduceGE, Nat.reducePow, IntKind.bits, Nat.reduceAdd, Nat.reduceSub, List.cons_append, List.nil_append]
  repeat with_reducible (first | refine E0 ?_ | refine E1 ?_ | refine E2 ?_ | refine E3 ?_ | refine E4 ?_ | refine E5 (by decide) ?_ | refine E6 ?_ | refine E7 ?_ | refine E8 ?_ | refine E9 ?_ | refine Ea ?_ | refine Eb ?_ | refine Ec ?_ | refine Ed ?_)
  refine W_region fun K hK => ?_
  simp only [KA, KB, KP, KQ, reduceCtorEq, ↓reduceIte, Int.reduceLT, Int.reduceLE, Int.reduceAdd, Int.reduceSub, Int.reduceNeg, Int.reduceMul, Int.reduceToNat, Int.reduceEq, Int.reduceNe, Int.reduceGT, Int.reduceGE, Nat.reducePow, Nat.reduceAdd, Nat.reduceSub, Nat.reduceLT, Nat.reduceMul, Nat.reduceDiv, Nat.reduceEqDiff, Nat.reduceLeDiff, KT w, hw.KF]
  refine hK _ _ ?_
  clear hK
  clear K
  repeat with_reducible (first | refine E0 ?_ | refine E1 ?_ | refine E2 ?_ | refine E3 ?_ | refine E4 ?_ | refine E5 (by decide) ?_ | refine E6 ?_ | refine E7 ?_ | refine E8 ?_ | refine E9 ?_ | refine Ea ?_ | refine Eb ?_ | refine Ec ?_ | refine Ed ?_)
  refine W_region fun K hK => ?_
  simp only [KA, KB, KP, KQ, reduceCtorEq, ↓reduceIte, Int.reduceLT, Int.reduceLE, Int.reduceAdd, Int.reduceSub, Int.reduceNeg, Int.reduceMul, Int.reduceToNat, Int.reduceEq, Int.reduceNe, Int.reduceGT, Int.reduceGE, Nat.reducePow, Nat.reduceAdd, Nat.reduceSub, Nat.reduceLT, Nat.reduceMul, Nat.reduceDiv, Nat.reduceEqDiff, Nat.reduceLeDiff, KT w, hw.KF]
  refine hK _ _ ?_
  clear hK
  clear K
  repeat with_reducible (first | refine E0 ?_ | refine E1 ?_ | refine E2 ?_ | refine E3 ?_ | refine E4 ?_ | refine E5 (by decide) ?_ | refine E6 ?_ | refine E7 ?_ | refine E8 ?_ | refine E9 ?_ | refine Ea ?_ | refine Eb ?_ | refine Ec ?_ | refine Ed ?_)
  refine W_region fun K hK => ?_
  simp only [KA, KB, KP, KQ, reduceCtorEq, ↓reduceIte, Int.reduceLT, Int.reduceLE, Int.reduceAdd, Int.reduceSub, Int.reduceNeg, Int.reduceMul, Int.reduceToNat, Int.reduceEq, Int.reduceNe, Int.reduceGT, Int.reduceGE, Nat.reducePow, Nat.reduceAdd, Nat.reduceSub, Nat.reduceLT, Nat.reduceMul, Nat.reduceDiv, Nat.reduceEqDiff, Nat.reduceLeDiff, KT w, hw.KF]
  refine hK _ _ ?_
  clear hK
  clear K
  repeat with_reducible (first | refine E0 ?_ | refine E1 ?_ | refine E2 ?_ | refine E3 ?_ | refine E4 ?_ | refine E5 (by decide) ?_ | refine E6 ?_ | refine E7 ?_ | refine E8 ?_ | refine E9 ?_ | refine Ea ?_ | refine Eb ?_ | refine Ec ?_ | refine Ed ?_)
  refine W_loop (fun k fr S => ∃ (tm : List AV) (m : Node) (q : List Int) (a : AV), fr = ⟨tm, [], none, 53⟩ ∧ k = dep m ∧ q.length + dep m ≤ 1000000 ∧ m.ok ∧ S.ok ∧ S.base = 0 ∧ 2 < S.n ∧ S.get 0 = some (.row m.cells false) ∧ S.get 1 = some (.row [.int .i64 f] false) ∧ S.get 2 = some (.row [.int .i64 t] false) ∧
      (hasN f t m = true → q ++ atN f t m = atP f t n) ∧ (hasN f t m = false → atP f t n = []) ∧ Grow S a q ∧
      tm.length = 30 ∧ tget tm 3 = .ptr 0 0 ∧ tget tm 7 = .fn 84 [] [.ptr 1 0, .ptr 2 0] ∧ tget tm 8 = a) (dep n)
    ⟨_, n, [], .nils, rfl, rfl, by simpa using hN, hn, St.ok_push (St.ok_push (St.ok_push St.ok_nil)), rfl, by simp only [St.pushN, St.nil_n]; omega, rfl, rfl, rfl, fun h => by simp [atP, h], fun h => by simp [atP, h], .inl ⟨rfl, rfl⟩, ?_⟩ ?_
  · simp only [KA, KP, KQ, reduceCtorEq, ↓reduceIte, Int.reduceLT, Int.reduceLE, Int.reduceAdd, Int.reduceSub, Int.reduceNeg, Int.reduceMul, Int.reduceToNat, Int.reduceEq, Int.reduceNe, Int.reduceGT, Int.reduceGE, Nat.reducePow, Nat.reduceAdd, Nat.reduceSub, Nat.reduceLT, Nat.reduceMul, Nat.reduceDiv, Nat.reduceEqDiff, Nat.reduceLeDiff, KT w, hw.KF]
  rintro k fr S ⟨tm, m, q, a, rfl, rfl, hq, hm, hok, hbs, hsn, g0, g1, g2, hyes, hno, ha, htm, h3, h7, h8⟩
  have hkl := Node.ok_kids hm
  have hcall := at1_ok hw m f t 1 2 false false S hok g1 g2
  have hidx := indexFunc_ok hw m.kids hkl 84 [.ptr 1 0, .ptr 2 0] (hasN f t) S (fun x => at1_ok hw x f t 1 2 false false S.reb (St.reb_ok hok) ((St.reb_get S 1).trans g1) ((St.reb_get S 2).trans g2))
  repeat with_reducible (first | refine E0 ?_ | refine E1 ?_ | refine E2 ?_ | refine E3 ?_ | refine E4 ?_ | refine E5 (by decide) ?_ | refine E6 ?_ | refine E7 ?_ | refine E8 ?_ | refine E9 ?_ | refine Ea ?_ | refine Eb ?_ | refine Ec ?_ | refine Ed ?_)
  refine W_region fun K hK => ?_
  simp only [KA, KB, KP, KQ, reduceCtorEq, ↓reduceIte, Int.reduceLT, Int.reduceLE, Int.reduceAdd, Int.reduceSub, Int.reduceNeg, Int.reduceMul, Int.reduceToNat, Int.reduceEq, Int.reduceNe, Int.reduceGT, Int.reduceGE, Nat.reducePow, Nat.reduceAdd, Nat.reduceSub, Nat.reduceLT, Nat.reduceMul, Nat.reduceDiv, Nat.reduceEqDiff, Nat.reduceLeDiff, KT w, hw.KF, htm, h3, h7, g0, hcall, A2y]
  refine hK _ _ ?_
  clear hK
  clear K
  repeat with_reducible (first | refine E0 ?_ | refine E1 ?_ | refine E2 ?_ | refine E3 ?_ | refine E4 ?_ | refine E5 (by decide) ?_ | refine E6 ?_ | refine E7 ?_ | refine E8 ?_ | refine E9 ?_ | refine Ea ?_ | refine Eb ?_ | refine Ec ?_ | refine Ed ?_)
  cases hh : hasN f t m with
  | false =>
    refine W_condF (by simp only [KA, KP, KQ, reduceCtorEq, ↓reduceIte, Int.reduceLT, Int.reduceLE, Int.reduceAdd, Int.reduceSub, Int.reduceNeg, Int.reduceMul, Int.reduceToNat, Int.reduceEq, Int.reduceNe, Int.reduceGT, Int.reduceGE, Nat.reducePow, Nat.reduceAdd, Nat.reduceSub, Nat.reduceLT, Nat.reduceMul, Nat.reduceDiv, Nat.reduceEqDiff, Nat.reduceLeDiff, KT w, hw.KF, htm, hh]) ?_
    repeat with_reducible (first | refine E0 ?_ | refine E1 ?_ | refine E2 ?_ | refine E3 ?_ | refine E4 ?_ | refine E5 (by decide) ?_ | refine E6 ?_ | refine E7 ?_ | refine E8 ?_ | refine E9 ?_ | refine Ea ?_ | refine Eb ?_ | refine Ec ?_ | refine Ed ?_)
    refine W_region fun K hK => ?_
    simp only [KA, KB, KP, KQ, reduceCtorEq, ↓reduceIte, Int.reduceLT, Int.reduceLE, Int.reduceAdd, Int.reduceSub, Int.reduceNeg, Int.reduceMul, Int.reduceToNat, Int.reduceEq, Int.reduceNe, Int.reduceGT, Int.reduceGE, Nat.reducePow, Nat.reduceAdd, Nat.reduceSub, Nat.reduceLT, Nat.reduceMul, Nat.reduceDiv, Nat.reduceEqDiff, Nat.reduceLeDiff, KT w, hw.KF, htm]
    refine hK _ _ ?_
    clear hK
    clear K
    repeat with_reducible (first | refine E0 ?_ | refine E1 ?_ | refine E2 ?_ | refine E3 ?_ | refine E4 ?_ | refine E5 (by decide) ?_ | refine E6 ?_ | refine E7 ?_ | refine E8 ?_ | refine E9 ?_ | refine Ea ?_ | refine Eb ?_ | refine Ec ?_ | refine Ed ?_)
    refine AtEnd_of rfl ?_
    simp only [KA, KP, KQ, reduceCtorEq, ↓reduceIte, Int.reduceLT, Int.reduceLE, Int.reduceAdd, Int.reduceSub, Int.reduceNeg, Int.reduceMul, Int.reduceToNat, Int.reduceEq, Int.reduceNe, Int.reduceGT, Int.reduceGE, Nat.reducePow, Nat.reduceAdd, Nat.reduceSub, Nat.reduceLT, Nat.reduceMul, Nat.reduceDiv, Nat.reduceEqDiff, Nat.reduceLeDiff, KT w, hw.KF, htm, RS_some, aresults_nil, aresults_tmp, aresults_cell, one]
    rw [hno hh]
    exact FZ_plain rfl (fun vs h => by cases h)
  | true =>
    have hyes := hyes hh
    rcases at_idx f t m with ⟨hi, hat⟩ | ⟨j, x, hx, hxh, hi, hat⟩
    · rw [hi] at hidx
      refine W_condT (by simp only [KA, KP, KQ, reduceCtorEq, ↓reduceIte, Int.reduceLT, Int.reduceLE, Int.reduceAdd, Int.reduceSub, Int.reduceNeg, Int.reduceMul, Int.reduceToNat, Int.reduceEq, Int.reduceNe, Int.reduceGT, Int.reduceGE, Nat.reducePow, Nat.reduceAdd, Nat.reduceSub, Nat.reduceLT, Nat.reduceMul, Nat.reduceDiv, Nat.reduceEqDiff, Nat.reduceLeDiff, KT w, hw.KF, htm, hh]) ?_
      repeat with_reducible (first | refine E0 ?_ | refine E1 ?_ | refine E2 ?_ | refine E3 ?_ | refine E4 ?_ | refine E5 (by decide) ?_ | refine E6 ?_ | refine E7 ?_ | refine E8 ?_ | refine E9 ?_ | refine Ea ?_ | refine Eb ?_ | refine Ec ?_ | refine Ed ?_)
      refine W_region fun K hK => ?_
      simp only [KA, KB, KP, KQ, reduceCtorEq, ↓reduceIte, Int.reduceLT, Int.reduceLE, Int.reduceAdd, Int.reduceSub, Int.reduceNeg, Int.reduceMul, Int.reduceToNat, Int.reduceEq, Int.reduceNe, Int.reduceGT, Int.reduceGE, Nat.reducePow, Nat.reduceAdd, Nat.reduceSub, Nat.reduceLT, Nat.reduceMul, Nat.reduceDiv, Nat.reduceEqDiff, Nat.reduceLeDiff, KT w, hw.KF, htm, h3, h7, g0, hidx]
      refine hK _ _ ?_
      clear hK
      clear K
      repeat with_reducible (first | refine E0 ?_ | refine E1 ?_ | refine E2 ?_ | refine E3 ?_ | refine E4 ?_ | refine E5 (by decide) ?_ | refine E6 ?_ | refine E7 ?_ | refine E8 ?_ | refine E9 ?_ | refine Ea ?_ | refine Eb ?_ | refine Ec ?_ | refine Ed ?_)
      refine W_region fun K hK => ?_
      simp only [KA, KB, KP, KQ, reduceCtorEq, ↓reduceIte, Int.reduceLT, Int.reduceLE, Int.reduceAdd, Int.reduceSub, Int.reduceNeg, Int.reduceMul, Int.reduceToNat, Int.reduceEq, Int.reduceNe, Int.reduceGT, Int.reduceGE, Nat.reducePow, Nat.reduceAdd, Nat.reduceSub, Nat.reduceLT, Nat.reduceMul, Nat.reduceDiv, Nat.reduceEqDiff, Nat.reduceLeDiff, KT w, hw.KF, htm]
      refine hK _ _ ?_
      clear hK
      clear K
      repeat with_reducible (first | refine E0 ?_ | refine E1 ?_ | refine E2 ?_ | refine E3 ?_ | refine E4 ?_ | refine E5 (by decide) ?_ | refine E6 ?_ | refine E7 ?_ | refine E8 ?_ | refine E9 ?_ | refine Ea ?_ | refine Eb ?_ | refine Ec ?_ | refine Ed ?_)
      refine W_condT (by simp only [KA, KP, KQ, reduceCtorEq, ↓reduceIte, Int.reduceLT, Int.reduceLE, Int.reduceAdd, Int.reduceSub, Int.reduceNeg, Int.reduceMul, Int.reduceToNat, Int.reduceEq, Int.reduceNe, Int.reduceGT, Int.reduceGE, Nat.reducePow, Nat.reduceAdd, Nat.reduceSub, Nat.reduceLT, Nat.reduceMul, Nat.reduceDiv, Nat.reduceEqDiff, Nat.reduceLeDiff, KT w, hw.KF, htm]) ?_
      repeat with_reducible (first | refine E0 ?_ | refine E1 ?_ | refine E2 ?_ | refine E3 ?_ | refine E4 ?_ | refine E5 (by decide) ?_ | refine E6 ?_ | refine E7 ?_ | refine E8 ?_ | refine E9 ?_ | refine Ea ?_ | refine Eb ?_ | refine Ec ?_ | refine Ed ?_)
      refine W_region fun K hK => ?_
      simp only [KA, KB, KP, KQ, reduceCtorEq, ↓reduceIte, Int.reduceLT, Int.reduceLE, Int.reduceAdd, Int.reduceSub, Int.reduceNeg, Int.reduceMul, Int.reduceToNat, Int.reduceEq, Int.reduceNe, Int.reduceGT, Int.reduceGE, Nat.reducePow, Nat.reduceAdd, Nat.reduceSub, Nat.reduceLT, Nat.reduceMul, Nat.reduceDiv, Nat.reduceEqDiff, Nat.reduceLeDiff, KT w, hw.KF, htm, h8]
      refine hK _ _ ?_
      clear hK
      clear K
      repeat with_reducible (first | refine E0 ?_ | refine E1 ?_ | refine E2 ?_ | refine E3 ?_ | refine E4 ?_ | refine E5 (by decide) ?_ | refine E6 ?_ | refine E7 ?_ | refine E8 ?_ | refine E9 ?_ | refine Ea ?_ | refine Eb ?_ | refine Ec ?_ | refine Ed ?_)
      refine AtEnd_of rfl ?_
      simp only [KA, KP, KQ, reduceCtorEq, ↓reduceIte, Int.reduceLT, Int.reduceLE, Int.reduceAdd, Int.reduceSub, Int.reduceNeg, Int.reduceMul, Int.reduceToNat, Int.reduceEq, Int.reduceNe, Int.reduceGT, Int.reduceGE, Nat.reducePow, Nat.reduceAdd, Nat.reduceSub, Nat.reduceLT, Nat.reduceMul, Nat.reduceDiv, Nat.reduceEqDiff, Nat.reduceLeDiff, KT w, hw.KF, htm, RS_some, aresults_nil, aresults_tmp, aresults_cell, one]
      rw [hat, List.append_nil] at hyes
      rw [← hyes]
      refine FZ_plain ha.nrm fun vs h => ?_
      have := ha.nrm
      rw [h] at this
      simp [nrm] at this
    · rw [hi] at hidx
      rw [hat] at hyes
      have hjl : j < m.kids.length := by rw [List.getElem?_eq_some_iff] at hx; exact hx.1
      have hxm := List.mem_of_getElem? hx
      have hdk := dep_kid hxm
      have hj0 : ((j : Int) < 0) = False := by simp
      have hcap : ((q.length + 1 + (q.length + 1) / 4 + 1000) * 8 ≤ 281474976710656) = True := by simp; omega
      have hex : q ++ [(j : Int)] ++ atN f t x = atP f t n := by rw [← hyes]; simp
      refine W_condT (by simp only [KA, KP, KQ, reduceCtorEq, ↓reduceIte, Int.reduceLT, Int.reduceLE, Int.reduceAdd, Int.reduceSub, Int.reduceNeg, Int.reduceMul, Int.reduceToNat, Int.reduceEq, Int.reduceNe, Int.reduceGT, Int.reduceGE, Nat.reducePow, Nat.reduceAdd, Nat.reduceSub, Nat.reduceLT, Nat.reduceMul, Nat.reduceDiv, Nat.reduceEqDiff, Nat.reduceLeDiff, KT w, hw.KF, htm, hh]) ?_
      repeat with_reducible (first | refine E0 ?_ | refine E1 ?_ | refine E2 ?_ | refine E3 ?_ | refine E4 ?_ | refine E5 (by decide) ?_ | refine E6 ?_ | refine E7 ?_ | refine E8 ?_ | refine E9 ?_ | refine Ea ?_ | refine Eb ?_ | refine Ec ?_ | refine Ed ?_)
      refine W_region fun K hK => ?_
      simp only [KA, KB, KP, KQ, reduceCtorEq, ↓reduceIte, Int.reduceLT, Int.reduceLE, Int.reduceAdd, Int.reduceSub, Int.reduceNeg, Int.reduceMul, Int.reduceToNat, Int.reduceEq, Int.reduceNe, Int.reduceGT, Int.reduceGE, Nat.reducePow, Nat.reduceAdd, Nat.reduceSub, Nat.reduceLT, Nat.reduceMul, Nat.reduceDiv, Nat.reduceEqDiff, Nat.reduceLeDiff, KT w, hw.KF, htm, h3, h7, g0, hidx]
      refine hK _ _ ?_
      clear hK
      clear K
      repeat with_reducible (first | refine E0 ?_ | refine E1 ?_ | refine E2 ?_ | refine E3 ?_ | refine E4 ?_ | refine E5 (by decide) ?_ | refine E6 ?_ | refine E7 ?_ | refine E8 ?_ | refine E9 ?_ | refine Ea ?_ | refine Eb ?_ | refine Ec ?_ | refine Ed ?_)
      refine W_region fun K hK => ?_
      simp only [KA, KB, KP, KQ, reduceCtorEq, ↓reduceIte, Int.reduceLT, Int.reduceLE, Int.reduceAdd, Int.reduceSub, Int.reduceNeg, Int.reduceMul, Int.reduceToNat, Int.reduceEq, Int.reduceNe, Int.reduceGT, Int.reduceGE, Nat.reducePow, Nat.reduceAdd, Nat.reduceSub, Nat.reduceLT, Nat.reduceMul, Nat.reduceDiv, Nat.reduceEqDiff, Nat.reduceLeDiff, KT w, hw.KF, htm, hj0]
      refine hK _ _ ?_
      clear hK
      clear K
      repeat with_reducible (first | refine E0 ?_ | refine E1 ?_ | refine E2 ?_ | refine E3 ?_ | refine E4 ?_ | refine E5 (by decide) ?_ | refine E6 ?_ | refine E7 ?_ | refine E8 ?_ | refine E9 ?_ | refine Ea ?_ | refine Eb ?_ | refine Ec ?_ | refine Ed ?_)
      refine W_condF (by simp only [KA, KP, KQ, reduceCtorEq, ↓reduceIte, Int.reduceLT, Int.reduceLE, Int.reduceAdd, Int.reduceSub, Int.reduceNeg, Int.reduceMul, Int.reduceToNat, Int.reduceEq, Int.reduceNe, Int.reduceGT, Int.reduceGE, Nat.reducePow, Nat.reduceAdd, Nat.reduceSub, Nat.reduceLT, Nat.reduceMul, Nat.reduceDiv, Nat.reduceEqDiff, Nat.reduceLeDiff, KT w, hw.KF, htm]) ?_
      repeat with_reducible (first | refine E0 ?_ | refine E1 ?_ | refine E2 ?_ | refine E3 ?_ | refine E4 ?_ | refine E5 (by decide) ?_ | refine E6 ?_ | refine E7 ?_ | refine E8 ?_ | refine E9 ?_ | refine Ea ?_ | refine Eb ?_ | refine Ec ?_ | refine Ed ?_)
      refine W.mono (Q := fun e fr S2 => e = .nrm ∧ S2.ok ∧ S2.base = 0 ∧ 2 < S2.n ∧ S2.get 0 = some (.row m.cells false) ∧ S2.get 1 = some (.row [.int .i64 f] false) ∧ S2.get 2 = some (.row [.int .i64 t] false) ∧ ∃ (tm : List AV) (a2 : AV), fr = ⟨tm, [], none, 53⟩ ∧ Grow S2 a2 (q ++ [(j : Int)]) ∧ tm.length = 30 ∧ tget tm 3 = .ptr 0 0 ∧ tget tm 7 = .fn 84 [] [.ptr 1 0, .ptr 2 0] ∧ tget tm 8 = a2 ∧ tget tm 9 = .int .i64 j) ?_ ?_
      · have h3' : ints (q ++ [(j : Int)]) = ints q ++ [[.int .i64 (j : Int)]] := by simp [ints]
        rcases ha with ⟨rfl, rfl⟩ | ⟨hq0, o, g, rfl, ho1, ho2, hgo⟩
        · refine W_region fun K hK => ?_
          simp only [KA, KB, KP, KQ, reduceCtorEq, ↓reduceIte, Int.reduceLT, Int.reduceLE, Int.reduceAdd, Int.reduceSub, Int.reduceNeg, Int.reduceMul, Int.reduceToNat, Int.reduceEq, Int.reduceNe, Int.reduceGT, Int.reduceGE, Nat.reducePow, Nat.reduceAdd, Nat.reduceSub, Nat.reduceLT, Nat.reduceMul, Nat.reduceDiv, Nat.reduceEqDiff, Nat.reduceLeDiff, KT w, hw.KF, htm, h8]
          refine hK _ _ ?_
          clear hK
          clear K
          refine ⟨rfl, St.ok_push hok, hbs, by simp only [St.pushN]; omega, by rw [St.get_pushn (by omega)]; exact g0, by rw [St.get_pushn (by omega)]; exact g1, by rw [St.get_pushn (by omega)]; exact g2, _, .own (ints ([] ++ [(j : Int)])) S.n 0, rfl, .inr ⟨by simp, S.n, 0, rfl, by omega, by simp only [St.pushN]; omega, St.get_pushe⟩, ?_⟩
          simp only [KA, KP, KQ, reduceCtorEq, ↓reduceIte, Int.reduceLT, Int.reduceLE, Int.reduceAdd, Int.reduceSub, Int.reduceNeg, Int.reduceMul, Int.reduceToNat, Int.reduceEq, Int.reduceNe, Int.reduceGT, Int.reduceGE, Nat.reducePow, Nat.reduceAdd, Nat.reduceSub, Nat.reduceLT, Nat.reduceMul, Nat.reduceDiv, Nat.reduceEqDiff, Nat.reduceLeDiff, KT w, hw.KF, htm, h3, h7]
          rfl
        · have hhd : headOk 1 (ints q) = true := by cases q <;> rfl
          have hemp : (ints q).isEmpty = false := by cases q with | nil => exact absurd rfl hq0 | cons _ _ => rfl
          refine W_region fun K hK => ?_
          simp only [KA, KB, KP, KQ, reduceCtorEq, ↓reduceIte, Int.reduceLT, Int.reduceLE, Int.reduceAdd, Int.reduceSub, Int.reduceNeg, Int.reduceMul, Int.reduceToNat, Int.reduceEq, Int.reduceNe, Int.reduceGT, Int.reduceGE, Nat.reducePow, Nat.reduceAdd, Nat.reduceSub, Nat.reduceLT, Nat.reduceMul, Nat.reduceDiv, Nat.reduceEqDiff, Nat.reduceLeDiff, KT w, hw.KF, htm, h8, hgo, hhd, hemp, hok, hbs, ho2, hcap]
          refine hK _ _ ?_
          clear hK
          clear K
          refine ⟨rfl, St.ok_set hok, hbs, by simp only [St.setN]; omega, by rw [St.get_setn ho2 (by omega)]; exact g0, by rw [St.get_setn ho2 (by omega)]; exact g1, by rw [St.get_setn ho2 (by omega)]; exact g2, _, .own (ints q ++ [[.int .i64 (j : Int)]]) o (g + 1), rfl, .inr ⟨by simp, o, g + 1, by rw [h3'], ho1, by simp only [St.setN]; omega, St.get_sete hok ho2⟩, ?_⟩
          simp only [KA, KP, KQ, reduceCtorEq, ↓reduceIte, Int.reduceLT, Int.reduceLE, Int.reduceAdd, Int.reduceSub, Int.reduceNeg, Int.reduceMul, Int.reduceToNat, Int.reduceEq, Int.reduceNe, Int.reduceGT, Int.reduceGE, Nat.reducePow, Nat.reduceAdd, Nat.reduceSub, Nat.reduceLT, Nat.reduceMul, Nat.reduceDiv, Nat.reduceEqDiff, Nat.reduceLeDiff, KT w, hw.KF, htm, h3, h7]
      clear htm h3 h7 h8 hcall hidx hok hbs hsn g0 g1 g2 ha
      rintro e fr S2 ⟨rfl, hok, hbs, hsn, g0, g1, g2, tm, a2, rfl, hg, htm, h3, h7, h8, h9⟩
      repeat with_reducible (first | refine E0 ?_ | refine E1 ?_ | refine E2 ?_ | refine E3 ?_ | refine E4 ?_ | refine E5 (by decide) ?_ | refine E6 ?_ | refine E7 ?_ | refine E8 ?_ | refine E9 ?_ | refine Ea ?_ | refine Eb ?_ | refine Ec ?_ | refine Ed ?_)
      refine W_region fun K hK => ?_
      simp only [KA, KB, KP, KQ, reduceCtorEq, ↓reduceIte, Int.reduceLT, Int.reduceLE, Int.reduceAdd, Int.reduceSub, Int.reduceNeg, Int.reduceMul, Int.reduceToNat, Int.reduceEq, Int.reduceNe, Int.reduceGT, Int.reduceGE, Nat.reducePow, Nat.reduceAdd, Nat.reduceSub, Nat.reduceLT, Nat.reduceMul, Nat.reduceDiv, Nat.reduceEqDiff, Nat.reduceLeDiff, KT w, hw.KF, htm, h3, h9, g0, hx, splice, hok, hbs, hsn]
      refine hK _ _ ?_
      clear hK
      clear K
      have hs0 : 0 < S2.n := by omega
      refine ⟨dep x, by omega, _, x, q ++ [(j : Int)], a2, rfl, rfl, by simp; omega, Node.ok_kid hm x hxm, St.ok_set hok, hbs, by simp only [St.setN]; omega, St.get_sete hok hs0, by rw [St.get_setn hs0 (by omega)]; exact g1, by rw [St.get_setn hs0 (by omega)]; exact g2, fun _ => hex, (fun h => by rw [hxh] at h; cases h), ?_, ?_⟩
      · rcases hg with ⟨h, _⟩ | ⟨h0, o, g, h1, h2, h3, h4⟩
        · simp at h
        · exact .inr ⟨h0, o, g, h1, h2, by simp only [St.setN]; omega, by rw [St.get_setn hs0 (by omega)]; exact h4⟩
      · simp only [KA, KP, KQ, reduceCtorEq, ↓reduceIte, Int.reduceLT, Int.reduceLE, Int.reduceAdd, Int.reduceSub, Int.reduceNeg, Int.reduceMul, Int.reduceToNat, Int.reduceEq, Int.reduceNe, Int.reduceGT, Int.reduceGE, Nat.reducePow, Nat.reduceAdd, Nat.reduceSub, Nat.reduceLT, Nat.reduceMul, Nat.reduceDiv, Nat.reduceEqDiff, Nat.reduceLeDiff, KT w, hw.KF, htm, h3, h7, h8]
end Go.Am.B
