/- THE LAW NodeLeaves ON THE MACHINE. -/
import Derived.Test.YtghpjjhdbankhaaE10
import Derived.Test.YtghpjjhdbankhaaE4
set_option linter.unusedSimpArgs false
set_option linter.unusedVariables false
set_option maxRecDepth 20000
namespace Go.Am.B
open Go.Proofs Go.IntWalk

variable {w : Ways}

theorem lvL_app (a b : List Node) : lvL (a ++ b) = lvL a ++ lvL b := by
  induction a with
  | nil => simp [lvL]
  | cons y ys ih => simp [lvL, ih]
theorem lvL_take (ks : List Node) (i : Nat) (x : Node) (h : ks[i]? = some x) : lvL (ks.take (i + 1)) = lvL (ks.take i) ++ lvN x := by
  have happ : ∀ a b : List Node, lvL (a ++ b) = lvL a ++ lvL b := by
    intro a b
    induction a with
    | nil => simp [lvL]
    | cons y ys ih => simp [lvL, ih]
  rw [List.take_add_one, h, happ]
  simp [lvL]

theorem chk_get {size : Int} : ∀ {l : List Node} {at_ : Int} {i : Nat} {x : Node}, chk at_ size (l.drop i) → l[i]? = some x → ¬ x.frm < at_ ∧ ¬ x.to < x.frm ∧ ¬ x.to > size ∧ x.kids = [] ∧ chk x.to size (l.drop (i + 1)) := by
  intro l at_ i x h hx
  rw [drop_of_get hx] at h
  exact h

theorem nodeLeaves_gen (hw : Std w) (hm50 : w.muts 50 5 = true) (haw : PC (cfg w) 49 [] (.bool true)) (n : Node) (hn : n.ok) (size : Int) : PC (cfg w) 10 [n.av, .int .i64 size] (.bool true) := by
  have hlt := light47_ok hw n hn
  refine PC_of (args' := [n.av, .int .i64 size]) hw.e10 hw.m10 (by simp [nrmA, nrm, Node.nrm_all]) ?_
  by_cases hL : small n 5000 ≥ 0
  · have hfit := fit48_ok hw n hn size hL
    have hL' : (small n 5000 ≥ 0) = True := by simp; omega
    have hc := small_le hL
    have hkl := Node.ok_kids hn
    cases hf : fitR n 0 size 1 with
    | false =>
      rw [hf] at hfit
      refine call_of_W (fn10 w) rfl ?_
      simp only [Try.f10, List.length_cons, List.length_nil, ↓reduceIte, Int.reduceLT, Int.reduceLE, Int.reduceAdd, Int.reduceSub, Int.reduceNeg, Int.reduceMul, Int.reduceToNat, Int.reduceEq, Int.reduceNe, Int.reduceGT, Int.reduceGE, Nat.reducePow, IntKind.bits, Nat.reduceAdd, Nat.reduceSub, List.cons_append, List.nil_append]
      repeat with_reducible (first | refine E0 ?_ | refine E1 ?_ | refine E2 ?_ | refine E3 ?_ | refine E4 ?_ | refine E5 (by decide) ?_ | refine E6 ?_ | refine E7 ?_ | refine E8 ?_ | refine E9 ?_ | refine Ea ?_ | refine Eb ?_ | refine Ec ?_ | refine Ed ?_)
      refine W_region fun K hK => ?_
      simp only [KA, KB, KP, KQ, reduceCtorEq, ↓reduceIte, Int.reduceLT, Int.reduceLE, Int.reduceAdd, Int.reduceSub, Int.reduceNeg, Int.reduceMul, Int.reduceToNat, Int.reduceEq, Int.reduceNe, Int.reduceGT, Int.reduceGE, Nat.reducePow, Nat.reduceAdd, Nat.reduceSub, Nat.reduceLT, Nat.reduceMul, Nat.reduceDiv, Nat.reduceEqDiff, Nat.reduceLeDiff, KT w, hw.KF]
      refine hK _ _ ?_
      clear hK
      clear K
      repeat with_reducible (first | refine E0 ?_ | refine E1 ?_ | refine E2 ?_ | refine E3 ?_ | refine E4 ?_ | refine E5 (by decide) ?_ | refine E6 ?_ | refine E7 ?_ | refine E8 ?_ | refine E9 ?_ | refine Ea ?_ | refine Eb ?_ | refine Ec ?_ | refine Ed ?_)
      refine W_region fun K hK => ?_
      simp only [KA, KB, KP, KQ, reduceCtorEq, ↓reduceIte, Int.reduceLT, Int.reduceLE, Int.reduceAdd, Int.reduceSub, Int.reduceNeg, Int.reduceMul, Int.reduceToNat, Int.reduceEq, Int.reduceNe, Int.reduceGT, Int.reduceGE, Nat.reducePow, Nat.reduceAdd, Nat.reduceSub, Nat.reduceLT, Nat.reduceMul, Nat.reduceDiv, Nat.reduceEqDiff, Nat.reduceLeDiff, KT w, hw.KF, hlt, hL', hfit]
      refine hK _ _ ?_
      clear hK
      clear K
      repeat with_reducible (first | refine E0 ?_ | refine E1 ?_ | refine E2 ?_ | refine E3 ?_ | refine E4 ?_ | refine E5 (by decide) ?_ | refine E6 ?_ | refine E7 ?_ | refine E8 ?_ | refine E9 ?_ | refine Ea ?_ | refine Eb ?_ | refine Ec ?_ | refine Ed ?_)
      refine W_condT (by simp only [KA, KP, KQ, reduceCtorEq, ↓reduceIte, Int.reduceLT, Int.reduceLE, Int.reduceAdd, Int.reduceSub, Int.reduceNeg, Int.reduceMul, Int.reduceToNat, Int.reduceEq, Int.reduceNe, Int.reduceGT, Int.reduceGE, Nat.reducePow, Nat.reduceAdd, Nat.reduceSub, Nat.reduceLT, Nat.reduceMul, Nat.reduceDiv, Nat.reduceEqDiff, Nat.reduceLeDiff, KT w, hw.KF]) ?_
      repeat with_reducible (first | refine E0 ?_ | refine E1 ?_ | refine E2 ?_ | refine E3 ?_ | refine E4 ?_ | refine E5 (by decide) ?_ | refine E6 ?_ | refine E7 ?_ | refine E8 ?_ | refine E9 ?_ | refine Ea ?_ | refine Eb ?_ | refine Ec ?_ | refine Ed ?_)
      refine W_region fun K hK => ?_
      simp only [KA, KB, KP, KQ, reduceCtorEq, ↓reduceIte, Int.reduceLT, Int.reduceLE, Int.reduceAdd, Int.reduceSub, Int.reduceNeg, Int.reduceMul, Int.reduceToNat, Int.reduceEq, Int.reduceNe, Int.reduceGT, Int.reduceGE, Nat.reducePow, Nat.reduceAdd, Nat.reduceSub, Nat.reduceLT, Nat.reduceMul, Nat.reduceDiv, Nat.reduceEqDiff, Nat.reduceLeDiff, KT w, hw.KF, haw]
      refine hK _ _ ?_
      clear hK
      clear K
      repeat with_reducible (first | refine E0 ?_ | refine E1 ?_ | refine E2 ?_ | refine E3 ?_ | refine E4 ?_ | refine E5 (by decide) ?_ | refine E6 ?_ | refine E7 ?_ | refine E8 ?_ | refine E9 ?_ | refine Ea ?_ | refine Eb ?_ | refine Ec ?_ | refine Ed ?_)
      refine AtEnd_of rfl ?_
      simp only [KA, KP, KQ, reduceCtorEq, ↓reduceIte, Int.reduceLT, Int.reduceLE, Int.reduceAdd, Int.reduceSub, Int.reduceNeg, Int.reduceMul, Int.reduceToNat, Int.reduceEq, Int.reduceNe, Int.reduceGT, Int.reduceGE, Nat.reducePow, Nat.reduceAdd, Nat.reduceSub, Nat.reduceLT, Nat.reduceMul, Nat.reduceDiv, Nat.reduceEqDiff, Nat.reduceLeDiff, KT w, hw.KF, RS_some, aresults_nil, aresults_tmp, aresults_cell, one]
      exact FZ_bool
    | true =>
      rw [hf] at hfit
      have hchk : chk 0 size (lvN n) := by have := fit_chk size n 0 size 1 [] hf (Int.le_refl _) trivial; simpa using this
      have hlv := leaves50_ok hw hm50 n hn (by omega)
      have hln := lvN_len n
      have hlk := lvN_ok n hn
      have hkids : ∀ x ∈ n.kids, PC (cfg w) 50 [x.av] (.vec (Node.rows (lvN x))) := fun x hx => leaves50_ok hw hm50 x (Node.ok_kid hn x hx) (by have := cnt_kid hx; omega)
      have hn51 := nodes51_ok hw (lvN n) (by omega) hlk
      have hlve := lvN_eq n
      generalize hl0 : lvN n = l at *
      refine call_of_W (fn10 w) rfl ?_
      simp only [Try.f10, List.length_cons, List.length_nil, ↓reduceIte, Int.reduceLT, Int.reduceLE, Int.reduceAdd, Int.reduceSub, Int.reduceNeg, Int.reduceMul, Int.reduceToNat, Int.reduceEq, Int.reduceNe, Int.reduceGT, Int.reduceGE, Nat.reducePow, IntKind.bits, Nat.reduceAdd, Nat.reduceSub, List.cons_append, List.nil_append]
      repeat with_reducible (first | refine E0 ?_ | refine E1 ?_ | refine E2 ?_ | refine E3 ?_ | refine E4 ?_ | refine E5 (by decide) ?_ | refine E6 ?_ | refine E7 ?_ | refine E8 ?_ | refine E9 ?_ | refine Ea ?_ | refine Eb ?_ | refine Ec ?_ | refine Ed ?_)
      refine W_region fun K hK => ?_
      simp only [KA, KB, KP, KQ, reduceCtorEq, ↓reduceIte, Int.reduceLT, Int.reduceLE, Int.reduceAdd, Int.reduceSub, Int.reduceNeg, Int.reduceMul, Int.reduceToNat, Int.reduceEq, Int.reduceNe, Int.reduceGT, Int.reduceGE, Nat.reducePow, Nat.reduceAdd, Nat.reduceSub, Nat.reduceLT, Nat.reduceMul, Nat.reduceDiv, Nat.reduceEqDiff, Nat.reduceLeDiff, KT w, hw.KF]
      refine hK _ _ ?_
      clear hK
      clear K
      repeat with_reducible (first | refine E0 ?_ | refine E1 ?_ | refine E2 ?_ | refine E3 ?_ | refine E4 ?_ | refine E5 (by decide) ?_ | refine E6 ?_ | refine E7 ?_ | refine E8 ?_ | refine E9 ?_ | refine Ea ?_ | refine Eb ?_ | refine Ec ?_ | refine Ed ?_)
      refine W_region fun K hK => ?_
      simp only [KA, KB, KP, KQ, reduceCtorEq, ↓reduceIte, Int.reduceLT, Int.reduceLE, Int.reduceAdd, Int.reduceSub, Int.reduceNeg, Int.reduceMul, Int.reduceToNat, Int.reduceEq, Int.reduceNe, Int.reduceGT, Int.reduceGE, Nat.reducePow, Nat.reduceAdd, Nat.reduceSub, Nat.reduceLT, Nat.reduceMul, Nat.reduceDiv, Nat.reduceEqDiff, Nat.reduceLeDiff, KT w, hw.KF, hlt, hL', hfit]
      refine hK _ _ ?_
      clear hK
      clear K
      repeat with_reducible (first | refine E0 ?_ | refine E1 ?_ | refine E2 ?_ | refine E3 ?_ | refine E4 ?_ | refine E5 (by decide) ?_ | refine E6 ?_ | refine E7 ?_ | refine E8 ?_ | refine E9 ?_ | refine Ea ?_ | refine Eb ?_ | refine Ec ?_ | refine Ed ?_)
      refine W_condF (by simp only [KA, KP, KQ, reduceCtorEq, ↓reduceIte, Int.reduceLT, Int.reduceLE, Int.reduceAdd, Int.reduceSub, Int.reduceNeg, Int.reduceMul, Int.reduceToNat, Int.reduceEq, Int.reduceNe, Int.reduceGT, Int.reduceGE, Nat.reducePow, Nat.reduceAdd, Nat.reduceSub, Nat.reduceLT, Nat.reduceMul, Nat.reduceDiv, Nat.reduceEqDiff, Nat.reduceLeDiff, KT w, hw.KF]) ?_
      repeat with_reducible (first | refine E0 ?_ | refine E1 ?_ | refine E2 ?_ | refine E3 ?_ | refine E4 ?_ | refine E5 (by decide) ?_ | refine E6 ?_ | refine E7 ?_ | refine E8 ?_ | refine E9 ?_ | refine Ea ?_ | refine Eb ?_ | refine Ec ?_ | refine Ed ?_)
      refine W_region fun K hK => ?_
      simp only [KA, KB, KP, KQ, reduceCtorEq, ↓reduceIte, Int.reduceLT, Int.reduceLE, Int.reduceAdd, Int.reduceSub, Int.reduceNeg, Int.reduceMul, Int.reduceToNat, Int.reduceEq, Int.reduceNe, Int.reduceGT, Int.reduceGE, Nat.reducePow, Nat.reduceAdd, Nat.reduceSub, Nat.reduceLT, Nat.reduceMul, Nat.reduceDiv, Nat.reduceEqDiff, Nat.reduceLeDiff, KT w, hw.KF, hlv]
      refine hK _ _ ?_
      clear hK
      clear K
      repeat with_reducible (first | refine E0 ?_ | refine E1 ?_ | refine E2 ?_ | refine E3 ?_ | refine E4 ?_ | refine E5 (by decide) ?_ | refine E6 ?_ | refine E7 ?_ | refine E8 ?_ | refine E9 ?_ | refine Ea ?_ | refine Eb ?_ | refine Ec ?_ | refine Ed ?_)
      refine W_region fun K hK => ?_
      simp only [KA, KB, KP, KQ, reduceCtorEq, ↓reduceIte, Int.reduceLT, Int.reduceLE, Int.reduceAdd, Int.reduceSub, Int.reduceNeg, Int.reduceMul, Int.reduceToNat, Int.reduceEq, Int.reduceNe, Int.reduceGT, Int.reduceGE, Nat.reducePow, Nat.reduceAdd, Nat.reduceSub, Nat.reduceLT, Nat.reduceMul, Nat.reduceDiv, Nat.reduceEqDiff, Nat.reduceLeDiff, KT w, hw.KF]
      refine hK _ _ ?_
      clear hK
      clear K
      repeat with_reducible (first | refine E0 ?_ | refine E1 ?_ | refine E2 ?_ | refine E3 ?_ | refine E4 ?_ | refine E5 (by decide) ?_ | refine E6 ?_ | refine E7 ?_ | refine E8 ?_ | refine E9 ?_ | refine Ea ?_ | refine Eb ?_ | refine Ec ?_ | refine Ed ?_)
      refine W_region fun K hK => ?_
      simp only [KA, KB, KP, KQ, reduceCtorEq, ↓reduceIte, Int.reduceLT, Int.reduceLE, Int.reduceAdd, Int.reduceSub, Int.reduceNeg, Int.reduceMul, Int.reduceToNat, Int.reduceEq, Int.reduceNe, Int.reduceGT, Int.reduceGE, Nat.reducePow, Nat.reduceAdd, Nat.reduceSub, Nat.reduceLT, Nat.reduceMul, Nat.reduceDiv, Nat.reduceEqDiff, Nat.reduceLeDiff, KT w, hw.KF]
      refine hK _ _ ?_
      clear hK
      clear K
      repeat with_reducible (first | refine E0 ?_ | refine E1 ?_ | refine E2 ?_ | refine E3 ?_ | refine E4 ?_ | refine E5 (by decide) ?_ | refine E6 ?_ | refine E7 ?_ | refine E8 ?_ | refine E9 ?_ | refine Ea ?_ | refine Eb ?_ | refine Ec ?_ | refine Ed ?_)
      refine W_loop (fun k fr S => ∃ (tm : List AV) (i : Nat) (at_ : Int), fr = ⟨tm, [], none, 10⟩ ∧ S.ok ∧ S.base = 0 ∧ 0 < S.n ∧ S.get 0 = some (.row n.cells false) ∧ k = l.length - i ∧ i ≤ l.length ∧ chk at_ size (l.drop i) ∧
         tm.length = 85 ∧ tget tm 1 = .int .i64 size ∧ tget tm 2 = .ptr 0 0 ∧ tget tm 5 = .vec (Node.rows l) ∧ tget tm 6 = .int .i64 at_ ∧ tget tm 24 = .vec (Node.rows l) ∧ tget tm 25 = .int .i64 l.length ∧ tget tm 26 = .int .i64 i) l.length
        ⟨_, 0, 0, rfl, St.ok_push St.ok_nil, rfl, by simp only [St.pushN, St.nil_n]; omega, rfl, rfl, Nat.zero_le _, by simpa using hchk, ?_⟩ ?_
      · simp only [KA, KP, KQ, reduceCtorEq, ↓reduceIte, Int.reduceLT, Int.reduceLE, Int.reduceAdd, Int.reduceSub, Int.reduceNeg, Int.reduceMul, Int.reduceToNat, Int.reduceEq, Int.reduceNe, Int.reduceGT, Int.reduceGE, Nat.reducePow, Nat.reduceAdd, Nat.reduceSub, Nat.reduceLT, Nat.reduceMul, Nat.reduceDiv, Nat.reduceEqDiff, Nat.reduceLeDiff, KT w, hw.KF, Int.ofNat_zero]
      rintro k fr S ⟨tm, i, at_, rfl, hok, hbs, hsn, g0, rfl, hi, hck, htm, h1, h2, h5, h6, h24, h25, h26⟩
      have hne0 : (0 = S.n) = False := by simp; omega
      repeat with_reducible (first | refine E0 ?_ | refine E1 ?_ | refine E2 ?_ | refine E3 ?_ | refine E4 ?_ | refine E5 (by decide) ?_ | refine E6 ?_ | refine E7 ?_ | refine E8 ?_ | refine E9 ?_ | refine Ea ?_ | refine Eb ?_ | refine Ec ?_ | refine Ed ?_)
      refine W_region fun K hK => ?_
      simp only [KA, KB, KP, KQ, reduceCtorEq, ↓reduceIte, Int.reduceLT, Int.reduceLE, Int.reduceAdd, Int.reduceSub, Int.reduceNeg, Int.reduceMul, Int.reduceToNat, Int.reduceEq, Int.reduceNe, Int.reduceGT, Int.reduceGE, Nat.reducePow, Nat.reduceAdd, Nat.reduceSub, Nat.reduceLT, Nat.reduceMul, Nat.reduceDiv, Nat.reduceEqDiff, Nat.reduceLeDiff, KT w, hw.KF, htm, h25, h26]
      refine hK _ _ ?_
      clear hK
      clear K
      repeat with_reducible (first | refine E0 ?_ | refine E1 ?_ | refine E2 ?_ | refine E3 ?_ | refine E4 ?_ | refine E5 (by decide) ?_ | refine E6 ?_ | refine E7 ?_ | refine E8 ?_ | refine E9 ?_ | refine Ea ?_ | refine Eb ?_ | refine Ec ?_ | refine Ed ?_)
      refine W_condP (p := _) (by simp only [KA, KP, KQ, reduceCtorEq, ↓reduceIte, Int.reduceLT, Int.reduceLE, Int.reduceAdd, Int.reduceSub, Int.reduceNeg, Int.reduceMul, Int.reduceToNat, Int.reduceEq, Int.reduceNe, Int.reduceGT, Int.reduceGE, Nat.reducePow, Nat.reduceAdd, Nat.reduceSub, Nat.reduceLT, Nat.reduceMul, Nat.reduceDiv, Nat.reduceEqDiff, Nat.reduceLeDiff, KT w, hw.KF, htm]; rfl) (fun hb => ?_) (fun hb => ?_)
      · obtain ⟨x, hx⟩ := get_of_lt (l := l) (i := i) (by omega)
        obtain ⟨c1, c2, c3, c4, c5⟩ := chk_get hck hx
        have c4' : ((x.kids.length : Int) > 0) = False := by rw [c4]; simp
        have e1 : IntKind.i64.wrap ((i : Int) + 1) = (i : Int) + 1 := i64_in _ (by omega)
        repeat with_reducible (first | refine E0 ?_ | refine E1 ?_ | refine E2 ?_ | refine E3 ?_ | refine E4 ?_ | refine E5 (by decide) ?_ | refine E6 ?_ | refine E7 ?_ | refine E8 ?_ | refine E9 ?_ | refine Ea ?_ | refine Eb ?_ | refine Ec ?_ | refine Ed ?_)
        refine W_region fun K hK => ?_
        simp only [KA, KB, KP, KQ, reduceCtorEq, ↓reduceIte, Int.reduceLT, Int.reduceLE, Int.reduceAdd, Int.reduceSub, Int.reduceNeg, Int.reduceMul, Int.reduceToNat, Int.reduceEq, Int.reduceNe, Int.reduceGT, Int.reduceGE, Nat.reducePow, Nat.reduceAdd, Nat.reduceSub, Nat.reduceLT, Nat.reduceMul, Nat.reduceDiv, Nat.reduceEqDiff, Nat.reduceLeDiff, KT w, hw.KF, htm, h24, h26, hx, hok, hbs, splice, List.length_append]
        refine hK _ _ ?_
        clear hK
        clear K
        repeat with_reducible (first | refine E0 ?_ | refine E1 ?_ | refine E2 ?_ | refine E3 ?_ | refine E4 ?_ | refine E5 (by decide) ?_ | refine E6 ?_ | refine E7 ?_ | refine E8 ?_ | refine E9 ?_ | refine Ea ?_ | refine Eb ?_ | refine Ec ?_ | refine Ed ?_)
        refine W_region fun K hK => ?_
        simp only [KA, KB, KP, KQ, reduceCtorEq, ↓reduceIte, Int.reduceLT, Int.reduceLE, Int.reduceAdd, Int.reduceSub, Int.reduceNeg, Int.reduceMul, Int.reduceToNat, Int.reduceEq, Int.reduceNe, Int.reduceGT, Int.reduceGE, Nat.reducePow, Nat.reduceAdd, Nat.reduceSub, Nat.reduceLT, Nat.reduceMul, Nat.reduceDiv, Nat.reduceEqDiff, Nat.reduceLeDiff, KT w, hw.KF, htm, h1, h6, c1, c2, c3, c4']
        refine hK _ _ ?_
        clear hK
        clear K
        repeat with_reducible (first | refine E0 ?_ | refine E1 ?_ | refine E2 ?_ | refine E3 ?_ | refine E4 ?_ | refine E5 (by decide) ?_ | refine E6 ?_ | refine E7 ?_ | refine E8 ?_ | refine E9 ?_ | refine Ea ?_ | refine Eb ?_ | refine Ec ?_ | refine Ed ?_)
        refine W_condF (by simp only [KA, KP, KQ, reduceCtorEq, ↓reduceIte, Int.reduceLT, Int.reduceLE, Int.reduceAdd, Int.reduceSub, Int.reduceNeg, Int.reduceMul, Int.reduceToNat, Int.reduceEq, Int.reduceNe, Int.reduceGT, Int.reduceGE, Nat.reducePow, Nat.reduceAdd, Nat.reduceSub, Nat.reduceLT, Nat.reduceMul, Nat.reduceDiv, Nat.reduceEqDiff, Nat.reduceLeDiff, KT w, hw.KF, htm]) ?_
        repeat with_reducible (first | refine E0 ?_ | refine E1 ?_ | refine E2 ?_ | refine E3 ?_ | refine E4 ?_ | refine E5 (by decide) ?_ | refine E6 ?_ | refine E7 ?_ | refine E8 ?_ | refine E9 ?_ | refine Ea ?_ | refine Eb ?_ | refine Ec ?_ | refine Ed ?_)
        refine W_region fun K hK => ?_
        simp only [KA, KB, KP, KQ, reduceCtorEq, ↓reduceIte, Int.reduceLT, Int.reduceLE, Int.reduceAdd, Int.reduceSub, Int.reduceNeg, Int.reduceMul, Int.reduceToNat, Int.reduceEq, Int.reduceNe, Int.reduceGT, Int.reduceGE, Nat.reducePow, Nat.reduceAdd, Nat.reduceSub, Nat.reduceLT, Nat.reduceMul, Nat.reduceDiv, Nat.reduceEqDiff, Nat.reduceLeDiff, KT w, hw.KF, htm]
        refine hK _ _ ?_
        clear hK
        clear K
        repeat with_reducible (first | refine E0 ?_ | refine E1 ?_ | refine E2 ?_ | refine E3 ?_ | refine E4 ?_ | refine E5 (by decide) ?_ | refine E6 ?_ | refine E7 ?_ | refine E8 ?_ | refine E9 ?_ | refine Ea ?_ | refine Eb ?_ | refine Ec ?_ | refine Ed ?_)
        refine W_region fun K hK => ?_
        simp only [KA, KB, KP, KQ, reduceCtorEq, ↓reduceIte, Int.reduceLT, Int.reduceLE, Int.reduceAdd, Int.reduceSub, Int.reduceNeg, Int.reduceMul, Int.reduceToNat, Int.reduceEq, Int.reduceNe, Int.reduceGT, Int.reduceGE, Nat.reducePow, Nat.reduceAdd, Nat.reduceSub, Nat.reduceLT, Nat.reduceMul, Nat.reduceDiv, Nat.reduceEqDiff, Nat.reduceLeDiff, KT w, hw.KF, htm, h26, e1]
        refine hK _ _ ?_
        clear hK
        clear K
        refine ⟨l.length - (i + 1), by omega, _, i + 1, x.to, rfl, St.ok_push hok, hbs, by simp only [St.pushN]; omega, by rw [St.get_pushn (by omega)]; exact g0, rfl, by omega, c5, ?_⟩
        simp only [KA, KP, KQ, reduceCtorEq, ↓reduceIte, Int.reduceLT, Int.reduceLE, Int.reduceAdd, Int.reduceSub, Int.reduceNeg, Int.reduceMul, Int.reduceToNat, Int.reduceEq, Int.reduceNe, Int.reduceGT, Int.reduceGE, Nat.reducePow, Nat.reduceAdd, Nat.reduceSub, Nat.reduceLT, Nat.reduceMul, Nat.reduceDiv, Nat.reduceEqDiff, Nat.reduceLeDiff, KT w, hw.KF, htm, h1, h2, h5, h24, h25, Int.natCast_add, A3z]
      clear hck h24 h25 h26 h6 h1
      repeat with_reducible (first | refine E0 ?_ | refine E1 ?_ | refine E2 ?_ | refine E3 ?_ | refine E4 ?_ | refine E5 (by decide) ?_ | refine E6 ?_ | refine E7 ?_ | refine E8 ?_ | refine E9 ?_ | refine Ea ?_ | refine Eb ?_ | refine Ec ?_ | refine Ed ?_)
      refine W_region fun K hK => ?_
      simp only [KA, KB, KP, KQ, reduceCtorEq, ↓reduceIte, Int.reduceLT, Int.reduceLE, Int.reduceAdd, Int.reduceSub, Int.reduceNeg, Int.reduceMul, Int.reduceToNat, Int.reduceEq, Int.reduceNe, Int.reduceGT, Int.reduceGE, Nat.reducePow, Nat.reduceAdd, Nat.reduceSub, Nat.reduceLT, Nat.reduceMul, Nat.reduceDiv, Nat.reduceEqDiff, Nat.reduceLeDiff, KT w, hw.KF, htm]
      refine hK _ _ ?_
      clear hK
      clear K
      repeat with_reducible (first | refine E0 ?_ | refine E1 ?_ | refine E2 ?_ | refine E3 ?_ | refine E4 ?_ | refine E5 (by decide) ?_ | refine E6 ?_ | refine E7 ?_ | refine E8 ?_ | refine E9 ?_ | refine Ea ?_ | refine Eb ?_ | refine Ec ?_ | refine Ed ?_)
      refine W_region fun K hK => ?_
      simp only [KA, KB, KP, KQ, reduceCtorEq, ↓reduceIte, Int.reduceLT, Int.reduceLE, Int.reduceAdd, Int.reduceSub, Int.reduceNeg, Int.reduceMul, Int.reduceToNat, Int.reduceEq, Int.reduceNe, Int.reduceGT, Int.reduceGE, Nat.reducePow, Nat.reduceAdd, Nat.reduceSub, Nat.reduceLT, Nat.reduceMul, Nat.reduceDiv, Nat.reduceEqDiff, Nat.reduceLeDiff, KT w, hw.KF, htm, h2, g0]
      refine hK _ _ ?_
      clear hK
      clear K
      repeat with_reducible (first | refine E0 ?_ | refine E1 ?_ | refine E2 ?_ | refine E3 ?_ | refine E4 ?_ | refine E5 (by decide) ?_ | refine E6 ?_ | refine E7 ?_ | refine E8 ?_ | refine E9 ?_ | refine Ea ?_ | refine Eb ?_ | refine Ec ?_ | refine Ed ?_)
      have hn0 : S.n ≠ 0 := by omega
      refine W_loop (fun k fr S => ∃ (tm : List AV) (i : Nat) (a : AV), fr = ⟨tm, [], none, 10⟩ ∧ S.ok ∧ S.base = 0 ∧ 0 < S.n ∧ S.get 0 = some (.row n.cells false) ∧ k = n.kids.length - i ∧ i ≤ n.kids.length ∧
         ((Node.rows (lvL (n.kids.take i)) = [] ∧ a = .nils) ∨ (Node.rows (lvL (n.kids.take i)) ≠ [] ∧ ∃ o g, a = .own (Node.rows (lvL (n.kids.take i))) o g ∧ 0 < o ∧ o < S.n ∧ S.get o = some (.tail g))) ∧
         tm.length = 85 ∧ tget tm 2 = .ptr 0 0 ∧ tget tm 5 = .vec (Node.rows l) ∧ tget tm 9 = a ∧ tget tm 57 = .vec (Node.rows n.kids) ∧ tget tm 58 = .int .i64 n.kids.length ∧ tget tm 59 = .int .i64 i) n.kids.length
        ⟨_, 0, .nils, rfl, hok, hbs, hsn, g0, rfl, Nat.zero_le _, .inl ⟨rfl, rfl⟩, ?_⟩ ?_
      · simp only [KA, KP, KQ, reduceCtorEq, ↓reduceIte, Int.reduceLT, Int.reduceLE, Int.reduceAdd, Int.reduceSub, Int.reduceNeg, Int.reduceMul, Int.reduceToNat, Int.reduceEq, Int.reduceNe, Int.reduceGT, Int.reduceGE, Nat.reducePow, Nat.reduceAdd, Nat.reduceSub, Nat.reduceLT, Nat.reduceMul, Nat.reduceDiv, Nat.reduceEqDiff, Nat.reduceLeDiff, KT w, hw.KF, Int.ofNat_zero, htm, h2, h5]
      clear hok hbs hsn g0 htm h2 h5 hne0 hn0
      rintro k fr S ⟨tm, i, a, rfl, hok, hbs, hsn, g0, rfl, hi, ha, htm, h2, h5, h9, h57, h58, h59⟩
      repeat with_reducible (first | refine E0 ?_ | refine E1 ?_ | refine E2 ?_ | refine E3 ?_ | refine E4 ?_ | refine E5 (by decide) ?_ | refine E6 ?_ | refine E7 ?_ | refine E8 ?_ | refine E9 ?_ | refine Ea ?_ | refine Eb ?_ | refine Ec ?_ | refine Ed ?_)
      refine W_region fun K hK => ?_
      simp only [KA, KB, KP, KQ, reduceCtorEq, ↓reduceIte, Int.reduceLT, Int.reduceLE, Int.reduceAdd, Int.reduceSub, Int.reduceNeg, Int.reduceMul, Int.reduceToNat, Int.reduceEq, Int.reduceNe, Int.reduceGT, Int.reduceGE, Nat.reducePow, Nat.reduceAdd, Nat.reduceSub, Nat.reduceLT, Nat.reduceMul, Nat.reduceDiv, Nat.reduceEqDiff, Nat.reduceLeDiff, KT w, hw.KF, htm, h58, h59]
      refine hK _ _ ?_
      clear hK
      clear K
      repeat with_reducible (first | refine E0 ?_ | refine E1 ?_ | refine E2 ?_ | refine E3 ?_ | refine E4 ?_ | refine E5 (by decide) ?_ | refine E6 ?_ | refine E7 ?_ | refine E8 ?_ | refine E9 ?_ | refine Ea ?_ | refine Eb ?_ | refine Ec ?_ | refine Ed ?_)
      refine W_condP (p := _) (by simp only [KA, KP, KQ, reduceCtorEq, ↓reduceIte, Int.reduceLT, Int.reduceLE, Int.reduceAdd, Int.reduceSub, Int.reduceNeg, Int.reduceMul, Int.reduceToNat, Int.reduceEq, Int.reduceNe, Int.reduceGT, Int.reduceGE, Nat.reducePow, Nat.reduceAdd, Nat.reduceSub, Nat.reduceLT, Nat.reduceMul, Nat.reduceDiv, Nat.reduceEqDiff, Nat.reduceLeDiff, KT w, hw.KF, htm]; rfl) (fun hb => ?_) (fun hb => ?_)
      · obtain ⟨x, hx⟩ := get_of_lt (l := n.kids) (i := i) (by omega)
        have hxm := List.mem_of_getElem? hx
        have hlx := hkids x hxm
        have e1 : IntKind.i64.wrap ((i : Int) + 1) = (i : Int) + 1 := i64_in _ (by omega)
        have hlt' := lvL_take n.kids i x hx
        have hke : n.kids.isEmpty = false := by cases hk : n.kids with | nil => rw [hk] at hxm; cases hxm | cons _ _ => rfl
        have hll : (lvL (n.kids.take (i + 1))).length ≤ 5000 := by
          rw [hke] at hlve
          simp only [Bool.false_eq_true, if_false] at hlve
          have h1 : lvL n.kids = lvL (n.kids.take (i + 1)) ++ lvL (n.kids.drop (i + 1)) := by rw [← lvL_app, List.take_append_drop]
          have h2 := congrArg List.length h1
          rw [List.length_append, ← hlve] at h2
          omega
        rw [hlt', List.length_append] at hll
        have hrr : Node.rows (lvL (n.kids.take (i + 1))) = Node.rows (lvL (n.kids.take i)) ++ Node.rows (lvN x) := by rw [hlt']; simp [Node.rows_map]
        have hla : (Node.rows (lvL (n.kids.take i))).length = (lvL (n.kids.take i)).length := Node.rows_len _
        have hlb : (Node.rows (lvN x)).length = (lvN x).length := Node.rows_len _
        have hha : headOk 7 (Node.rows (lvL (n.kids.take i))) = true := by
          cases hq : lvL (n.kids.take i) with
          | nil => rfl
          | cons z zs => simp [Node.rows_map, headOk, Node.cells_len]
        have hhb : headOk 7 (Node.rows (lvN x)) = true := by
          cases hq : lvN x with
          | nil => rfl
          | cons z zs => simp [Node.rows_map, headOk, Node.cells_len]
        have hne := lvN_ne x
        obtain ⟨r0, rs, hrs⟩ : ∃ r0 rs, Node.rows (lvN x) = r0 :: rs := by
          cases hq : lvN x with
          | nil => exact absurd hq hne
          | cons z zs => exact ⟨z.cells, Node.rows zs, by simp [Node.rows_map]⟩
        rw [hrs] at hlx hlb hhb hrr
        simp only [headOk] at hhb
        simp only [List.length_cons] at hlb
        rw [← hla, ← hlb] at hll
        have h0n : 0 < S.n := hsn
        have hne0 : (0 = S.n) = False := by simp; omega
        repeat with_reducible (first | refine E0 ?_ | refine E1 ?_ | refine E2 ?_ | refine E3 ?_ | refine E4 ?_ | refine E5 (by decide) ?_ | refine E6 ?_ | refine E7 ?_ | refine E8 ?_ | refine E9 ?_ | refine Ea ?_ | refine Eb ?_ | refine Ec ?_ | refine Ed ?_)
        refine W_region fun K hK => ?_
        simp only [KA, KB, KP, KQ, reduceCtorEq, ↓reduceIte, Int.reduceLT, Int.reduceLE, Int.reduceAdd, Int.reduceSub, Int.reduceNeg, Int.reduceMul, Int.reduceToNat, Int.reduceEq, Int.reduceNe, Int.reduceGT, Int.reduceGE, Nat.reducePow, Nat.reduceAdd, Nat.reduceSub, Nat.reduceLT, Nat.reduceMul, Nat.reduceDiv, Nat.reduceEqDiff, Nat.reduceLeDiff, KT w, hw.KF, htm, h57, h59, hx, hok, hbs, splice, List.length_append]
        refine hK _ _ ?_
        clear hK
        clear K
        repeat with_reducible (first | refine E0 ?_ | refine E1 ?_ | refine E2 ?_ | refine E3 ?_ | refine E4 ?_ | refine E5 (by decide) ?_ | refine E6 ?_ | refine E7 ?_ | refine E8 ?_ | refine E9 ?_ | refine Ea ?_ | refine Eb ?_ | refine Ec ?_ | refine Ed ?_)
        refine W.mono (Q := fun e fr S2 => e = .nrm ∧ S2.ok ∧ S2.base = 0 ∧ 0 < S2.n ∧ S2.get 0 = some (.row n.cells false) ∧ ∃ (tm : List AV) (a2 : AV), fr = ⟨tm, [], none, 10⟩ ∧
           (Node.rows (lvL (n.kids.take (i + 1))) ≠ [] ∧ ∃ o g, a2 = .own (Node.rows (lvL (n.kids.take (i + 1)))) o g ∧ 0 < o ∧ o < S2.n ∧ S2.get o = some (.tail g)) ∧
           tm.length = 85 ∧ tget tm 2 = .ptr 0 0 ∧ tget tm 5 = .vec (Node.rows l) ∧ tget tm 9 = a2 ∧ tget tm 57 = .vec (Node.rows n.kids) ∧ tget tm 58 = .int .i64 n.kids.length ∧ tget tm 59 = .int .i64 i) ?_ ?_
        · rw [hrr]
          generalize Node.rows (lvL (n.kids.take i)) = R at *
          rcases ha with ⟨rfl, rfl⟩ | ⟨hR0, o, g, rfl, ho1, ho2, hgo⟩
          · have hcap : ((rs.length + 1 + (rs.length + 1) / 4 + 1000) * 88 ≤ 281474976710656) = True := by simp at hll ⊢; omega
            refine W_region fun K hK => ?_
            simp only [KA, KB, KP, KQ, reduceCtorEq, ↓reduceIte, Int.reduceLT, Int.reduceLE, Int.reduceAdd, Int.reduceSub, Int.reduceNeg, Int.reduceMul, Int.reduceToNat, Int.reduceEq, Int.reduceNe, Int.reduceGT, Int.reduceGE, Nat.reducePow, Nat.reduceAdd, Nat.reduceSub, Nat.reduceLT, Nat.reduceMul, Nat.reduceDiv, Nat.reduceEqDiff, Nat.reduceLeDiff, KT w, hw.KF, htm, h9, hlx, hhb, hcap, hok, hbs]
            refine hK _ _ ?_
            clear hK
            clear K
            refine ⟨rfl, St.ok_push (St.ok_push hok), hbs, by simp only [St.pushN]; omega, by rw [St.get_pushn (by simp only [St.pushN]; omega), St.get_pushn (by omega)]; exact g0, _, .own ([] ++ r0 :: rs) (S.n + 1) 0, rfl, ⟨by simp, S.n + 1, 0, rfl, by omega, by simp only [St.pushN]; omega, St.get_pushq (by simp only [St.pushN])⟩, ?_⟩
            simp only [KA, KP, KQ, reduceCtorEq, ↓reduceIte, Int.reduceLT, Int.reduceLE, Int.reduceAdd, Int.reduceSub, Int.reduceNeg, Int.reduceMul, Int.reduceToNat, Int.reduceEq, Int.reduceNe, Int.reduceGT, Int.reduceGE, Nat.reducePow, Nat.reduceAdd, Nat.reduceSub, Nat.reduceLT, Nat.reduceMul, Nat.reduceDiv, Nat.reduceEqDiff, Nat.reduceLeDiff, KT w, hw.KF, htm, h2, h5, h57, h58, h59]
          · have hcap : ((R.length + (rs.length + 1) + (R.length + (rs.length + 1)) / 4 + 1000) * 88 ≤ 281474976710656) = True := by simp; omega
            have hemp : R.isEmpty = false := by cases R with | nil => exact absurd rfl hR0 | cons _ _ => rfl
            have hon : (o = S.n) = False := by simp; omega
            have hle : (S.n ≤ o) = False := by simp; omega
            refine W_region fun K hK => ?_
            simp only [KA, KB, KP, KQ, reduceCtorEq, ↓reduceIte, Int.reduceLT, Int.reduceLE, Int.reduceAdd, Int.reduceSub, Int.reduceNeg, Int.reduceMul, Int.reduceToNat, Int.reduceEq, Int.reduceNe, Int.reduceGT, Int.reduceGE, Nat.reducePow, Nat.reduceAdd, Nat.reduceSub, Nat.reduceLT, Nat.reduceMul, Nat.reduceDiv, Nat.reduceEqDiff, Nat.reduceLeDiff, KT w, hw.KF, htm, h9, hlx, hhb, hha, hcap, hemp, hgo, hon, hle, hok, hbs, ho2]
            refine hK _ _ ?_
            clear hK
            clear K
            refine ⟨rfl, St.ok_push (St.ok_set hok), hbs, by simp only [St.pushN, St.setN]; omega, by rw [St.get_pushn (by simp only [St.setN]; omega), St.get_setn ho2 (by omega)]; exact g0, _, .own (R ++ r0 :: rs) o (g + 1), rfl, ⟨by simp, o, g + 1, rfl, ho1, by simp only [St.pushN, St.setN]; omega, by rw [St.get_pushn (by simp only [St.setN]; omega), St.get_sete hok ho2]⟩, ?_⟩
            simp only [KA, KP, KQ, reduceCtorEq, ↓reduceIte, Int.reduceLT, Int.reduceLE, Int.reduceAdd, Int.reduceSub, Int.reduceNeg, Int.reduceMul, Int.reduceToNat, Int.reduceEq, Int.reduceNe, Int.reduceGT, Int.reduceGE, Nat.reducePow, Nat.reduceAdd, Nat.reduceSub, Nat.reduceLT, Nat.reduceMul, Nat.reduceDiv, Nat.reduceEqDiff, Nat.reduceLeDiff, KT w, hw.KF, htm, h2, h5, h57, h58, h59]
        clear htm h2 h5 h9 h57 h58 h59 hok hbs hsn g0 ha
        rintro e fr S2 ⟨rfl, hok, hbs, hsn, g0, tm, a2, rfl, ha2, htm, h2, h5, h9, h57, h58, h59⟩
        repeat with_reducible (first | refine E0 ?_ | refine E1 ?_ | refine E2 ?_ | refine E3 ?_ | refine E4 ?_ | refine E5 (by decide) ?_ | refine E6 ?_ | refine E7 ?_ | refine E8 ?_ | refine E9 ?_ | refine Ea ?_ | refine Eb ?_ | refine Ec ?_ | refine Ed ?_)
        refine W_region fun K hK => ?_
        simp only [KA, KB, KP, KQ, reduceCtorEq, ↓reduceIte, Int.reduceLT, Int.reduceLE, Int.reduceAdd, Int.reduceSub, Int.reduceNeg, Int.reduceMul, Int.reduceToNat, Int.reduceEq, Int.reduceNe, Int.reduceGT, Int.reduceGE, Nat.reducePow, Nat.reduceAdd, Nat.reduceSub, Nat.reduceLT, Nat.reduceMul, Nat.reduceDiv, Nat.reduceEqDiff, Nat.reduceLeDiff, KT w, hw.KF, htm, h59, e1]
        refine hK _ _ ?_
        clear hK
        clear K
        refine ⟨n.kids.length - (i + 1), by omega, _, i + 1, a2, rfl, hok, hbs, hsn, g0, rfl, by omega, .inr ha2, ?_⟩
        simp only [KA, KP, KQ, reduceCtorEq, ↓reduceIte, Int.reduceLT, Int.reduceLE, Int.reduceAdd, Int.reduceSub, Int.reduceNeg, Int.reduceMul, Int.reduceToNat, Int.reduceEq, Int.reduceNe, Int.reduceGT, Int.reduceGE, Nat.reducePow, Nat.reduceAdd, Nat.reduceSub, Nat.reduceLT, Nat.reduceMul, Nat.reduceDiv, Nat.reduceEqDiff, Nat.reduceLeDiff, KT w, hw.KF, htm, h2, h5, h9, h57, h58, Int.natCast_add, A3z]
      · have hie : i = n.kids.length := by omega
        subst hie
        rw [List.take_length] at ha
        cases hke : n.kids.isEmpty with
        | true =>
          have hk0 : ((n.kids.length : Int) = 0) = True := by
            have : n.kids = [] := by simpa using hke
            rw [this]; simp
          rw [hke] at hlve
          simp only [if_true] at hlve
          have hl1 : ((l.length : Int) = 1) = True := by rw [hlve]; simp
          repeat with_reducible (first | refine E0 ?_ | refine E1 ?_ | refine E2 ?_ | refine E3 ?_ | refine E4 ?_ | refine E5 (by decide) ?_ | refine E6 ?_ | refine E7 ?_ | refine E8 ?_ | refine E9 ?_ | refine Ea ?_ | refine Eb ?_ | refine Ec ?_ | refine Ed ?_)
          refine W_region fun K hK => ?_
          simp only [KA, KB, KP, KQ, reduceCtorEq, ↓reduceIte, Int.reduceLT, Int.reduceLE, Int.reduceAdd, Int.reduceSub, Int.reduceNeg, Int.reduceMul, Int.reduceToNat, Int.reduceEq, Int.reduceNe, Int.reduceGT, Int.reduceGE, Nat.reducePow, Nat.reduceAdd, Nat.reduceSub, Nat.reduceLT, Nat.reduceMul, Nat.reduceDiv, Nat.reduceEqDiff, Nat.reduceLeDiff, KT w, hw.KF, htm, h2, h5, g0, hk0, hl1, haw]
          refine hK _ _ ?_
          clear hK
          clear K
          repeat with_reducible (first | refine E0 ?_ | refine E1 ?_ | refine E2 ?_ | refine E3 ?_ | refine E4 ?_ | refine E5 (by decide) ?_ | refine E6 ?_ | refine E7 ?_ | refine E8 ?_ | refine E9 ?_ | refine Ea ?_ | refine Eb ?_ | refine Ec ?_ | refine Ed ?_)
          refine AtEnd_of rfl ?_
          simp only [KA, KP, KQ, reduceCtorEq, ↓reduceIte, Int.reduceLT, Int.reduceLE, Int.reduceAdd, Int.reduceSub, Int.reduceNeg, Int.reduceMul, Int.reduceToNat, Int.reduceEq, Int.reduceNe, Int.reduceGT, Int.reduceGE, Nat.reducePow, Nat.reduceAdd, Nat.reduceSub, Nat.reduceLT, Nat.reduceMul, Nat.reduceDiv, Nat.reduceEqDiff, Nat.reduceLeDiff, KT w, hw.KF, htm, RS_some, aresults_nil, aresults_tmp, aresults_cell, one]
          exact FZ_bool
        | false =>
          have hk0 : ((n.kids.length : Int) = 0) = False := by
            simp only [eq_iff_iff, iff_false]
            intro h
            have : n.kids = [] := List.eq_nil_of_length_eq_zero (by omega)
            rw [this] at hke; cases hke
          rw [hke] at hlve
          simp only [Bool.false_eq_true, if_false] at hlve
          rw [← hlve] at ha
          have hna : nrm a = some (.vec (Node.rows l)) := by
            rcases ha with ⟨h, rfl⟩ | ⟨_, o, g, rfl, _⟩
            · rw [h]; rfl
            · simp [nrm, Node.nrm_rows]
          have hn51' := PC_nrm (args := [.vec (Node.rows l), a]) hw.e51 hw.m51 (by simp [nrmA, hna, nrm, Node.nrm_rows]) (by simp [nrmA, nrm, Node.nrm_rows]) hn51
          repeat with_reducible (first | refine E0 ?_ | refine E1 ?_ | refine E2 ?_ | refine E3 ?_ | refine E4 ?_ | refine E5 (by decide) ?_ | refine E6 ?_ | refine E7 ?_ | refine E8 ?_ | refine E9 ?_ | refine Ea ?_ | refine Eb ?_ | refine Ec ?_ | refine Ed ?_)
          refine W_region fun K hK => ?_
          simp only [KA, KB, KP, KQ, reduceCtorEq, ↓reduceIte, Int.reduceLT, Int.reduceLE, Int.reduceAdd, Int.reduceSub, Int.reduceNeg, Int.reduceMul, Int.reduceToNat, Int.reduceEq, Int.reduceNe, Int.reduceGT, Int.reduceGE, Nat.reducePow, Nat.reduceAdd, Nat.reduceSub, Nat.reduceLT, Nat.reduceMul, Nat.reduceDiv, Nat.reduceEqDiff, Nat.reduceLeDiff, KT w, hw.KF, htm, h2, h5, h9, g0, hk0, hna, hn51', haw]
          refine hK _ _ ?_
          clear hK
          clear K
          repeat with_reducible (first | refine E0 ?_ | refine E1 ?_ | refine E2 ?_ | refine E3 ?_ | refine E4 ?_ | refine E5 (by decide) ?_ | refine E6 ?_ | refine E7 ?_ | refine E8 ?_ | refine E9 ?_ | refine Ea ?_ | refine Eb ?_ | refine Ec ?_ | refine Ed ?_)
          refine AtEnd_of rfl ?_
          simp only [KA, KP, KQ, reduceCtorEq, ↓reduceIte, Int.reduceLT, Int.reduceLE, Int.reduceAdd, Int.reduceSub, Int.reduceNeg, Int.reduceMul, Int.reduceToNat, Int.reduceEq, Int.reduceNe, Int.reduceGT, Int.reduceGE, Nat.reducePow, Nat.reduceAdd, Nat.reduceSub, Nat.reduceLT, Nat.reduceMul, Nat.reduceDiv, Nat.reduceEqDiff, Nat.reduceLeDiff, KT w, hw.KF, htm, RS_some, aresults_nil, aresults_tmp, aresults_cell, one]
          exact FZ_bool
  · have hL' : (small n 5000 ≥ 0) = False := by simp; omega
    refine call_of_W (fn10 w) rfl ?_
    simp only [Try.f10, List.length_cons, List.length_nil, ↓reduceIte, Int.reduceLT, Int.reduceLE, Int.reduceAdd, Int.reduceSub, Int.reduceNeg, Int.reduceMul, Int.reduceToNat, Int.reduceEq, Int.reduceNe, Int.reduceGT, Int.reduceGE, Nat.reducePow, IntKind.bits, Nat.reduceAdd, Nat.reduceSub, List.cons_append, List.nil_append]
    repeat with_reducible (first | refine E0 ?_ | refine E1 ?_ | refine E2 ?_ | refine E3 ?_ | refine E4 ?_ | refine E5 (by decide) ?_ | refine E6 ?_ | refine E7 ?_ | refine E8 ?_ | refine E9 ?_ | refine Ea ?_ | refine Eb ?_ | refine Ec ?_ | refine Ed ?_)
    refine W_region fun K hK => ?_
    simp only [KA, KB, KP, KQ, reduceCtorEq, ↓reduceIte, Int.reduceLT, Int.reduceLE, Int.reduceAdd, Int.reduceSub, Int.reduceNeg, Int.reduceMul, Int.reduceToNat, Int.reduceEq, Int.reduceNe, Int.reduceGT, Int.reduceGE, Nat.reducePow, Nat.reduceAdd, Nat.reduceSub, Nat.reduceLT, Nat.reduceMul, Nat.reduceDiv, Nat.reduceEqDiff, Nat.reduceLeDiff, KT w, hw.KF]
    refine hK _ _ ?_
    clear hK
    clear K
    repeat with_reducible (first | refine E0 ?_ | refine E1 ?_ | refine E2 ?_ | refine E3 ?_ | refine E4 ?_ | refine E5 (by decide) ?_ | refine E6 ?_ | refine E7 ?_ | refine E8 ?_ | refine E9 ?_ | refine Ea ?_ | refine Eb ?_ | refine Ec ?_ | refine Ed ?_)
    refine W_region fun K hK => ?_
    simp only [KA, KB, KP, KQ, reduceCtorEq, ↓reduceIte, Int.reduceLT, Int.reduceLE, Int.reduceAdd, Int.reduceSub, Int.reduceNeg, Int.reduceMul, Int.reduceToNat, Int.reduceEq, Int.reduceNe, Int.reduceGT, Int.reduceGE, Nat.reducePow, Nat.reduceAdd, Nat.reduceSub, Nat.reduceLT, Nat.reduceMul, Nat.reduceDiv, Nat.reduceEqDiff, Nat.reduceLeDiff, KT w, hw.KF, hlt, hL']
    refine hK _ _ ?_
    clear hK
    clear K
    repeat with_reducible (first | refine E0 ?_ | refine E1 ?_ | refine E2 ?_ | refine E3 ?_ | refine E4 ?_ | refine E5 (by decide) ?_ | refine E6 ?_ | refine E7 ?_ | refine E8 ?_ | refine E9 ?_ | refine Ea ?_ | refine Eb ?_ | refine Ec ?_ | refine Ed ?_)
    refine W_condT (by simp only [KA, KP, KQ, reduceCtorEq, ↓reduceIte, Int.reduceLT, Int.reduceLE, Int.reduceAdd, Int.reduceSub, Int.reduceNeg, Int.reduceMul, Int.reduceToNat, Int.reduceEq, Int.reduceNe, Int.reduceGT, Int.reduceGE, Nat.reducePow, Nat.reduceAdd, Nat.reduceSub, Nat.reduceLT, Nat.reduceMul, Nat.reduceDiv, Nat.reduceEqDiff, Nat.reduceLeDiff, KT w, hw.KF]) ?_
    repeat with_reducible (first | refine E0 ?_ | refine E1 ?_ | refine E2 ?_ | refine E3 ?_ | refine E4 ?_ | refine E5 (by decide) ?_ | refine E6 ?_ | refine E7 ?_ | refine E8 ?_ | refine E9 ?_ | refine Ea ?_ | refine Eb ?_ | refine Ec ?_ | refine Ed ?_)
    refine W_region fun K hK => ?_
    simp only [KA, KB, KP, KQ, reduceCtorEq, ↓reduceIte, Int.reduceLT, Int.reduceLE, Int.reduceAdd, Int.reduceSub, Int.reduceNeg, Int.reduceMul, Int.reduceToNat, Int.reduceEq, Int.reduceNe, Int.reduceGT, Int.reduceGE, Nat.reducePow, Nat.reduceAdd, Nat.reduceSub, Nat.reduceLT, Nat.reduceMul, Nat.reduceDiv, Nat.reduceEqDiff, Nat.reduceLeDiff, KT w, hw.KF, haw]
    refine hK _ _ ?_
    clear hK
    clear K
    repeat with_reducible (first | refine E0 ?_ | refine E1 ?_ | refine E2 ?_ | refine E3 ?_ | refine E4 ?_ | refine E5 (by decide) ?_ | refine E6 ?_ | refine E7 ?_ | refine E8 ?_ | refine E9 ?_ | refine Ea ?_ | refine Eb ?_ | refine Ec ?_ | refine Ed ?_)
    refine AtEnd_of rfl ?_
    simp only [KA, KP, KQ, reduceCtorEq, ↓reduceIte, Int.reduceLT, Int.reduceLE, Int.reduceAdd, Int.reduceSub, Int.reduceNeg, Int.reduceMul, Int.reduceToNat, Int.reduceEq, Int.reduceNe, Int.reduceGT, Int.reduceGE, Nat.reducePow, Nat.reduceAdd, Nat.reduceSub, Nat.reduceLT, Nat.reduceMul, Nat.reduceDiv, Nat.reduceEqDiff, Nat.reduceLeDiff, KT w, hw.KF, RS_some, aresults_nil, aresults_tmp, aresults_cell, one]
    exact FZ_bool
end Go.Am.B
