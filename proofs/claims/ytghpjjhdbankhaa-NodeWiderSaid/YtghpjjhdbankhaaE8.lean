/- HOW MANY NODES, AND HOW DEEP, BY THE PROGRAM. -/
import Derived.Test.YtghpjjhdbankhaaE7
import Derived.Test.YtghpjjhdbankhaaN1
import Derived.Test.YtghpjjhdbankhaaMf
set_option linter.unusedSimpArgs false
set_option linter.unusedVariables false
set_option maxRecDepth 20000
namespace Go.Am.B
open Go.Proofs Go.IntWalk

variable {w : Ways}

theorem preN_len (n : Node) : ∀ d, (preN n d).length = cnt n := by
  induction n using Node.ind with
  | h n ih =>
    have hL : ∀ ks : List Node, (∀ k ∈ ks, ∀ d, (preN k d).length = cnt k) → ∀ d, (preL ks d).length = cntL ks := by
      intro ks
      induction ks with
      | nil => intros; simp [preL, cntL]
      | cons x xs ihx => intro h d; simp [preL, cntL, h x List.mem_cons_self, ihx (fun k hk => h k (List.mem_cons_of_mem _ hk))]
    intro d
    rw [preN_eq, cnt_eq n, List.length_cons, hL _ ih]
def cntS (s : Nat × Nat) (x : Nat × Node) : (Nat × Nat) × Bool := ((s.1 + 1, max s.2 x.1), true)
theorem runC (l : List (Nat × Node)) : ∀ s, runT cntS l s = ((s.1 + l.length, l.foldl (fun m x => max m x.1) s.2), true) := by
  induction l with
  | nil => intro s; rfl
  | cons x xs ih =>
    intro s
    rw [runT_t (by rfl), ih]
    simp only [cntS, List.length_cons, List.foldl_cons]
    congr 2
    omega
theorem foldD (n : Node) : ∀ d m, (preN n d).foldl (fun m x => max m x.1) m = max m (d + dep n - 1) := by
  induction n using Node.ind with
  | h n ih =>
    have hL : ∀ ks : List Node, (∀ k ∈ ks, ∀ d m, (preN k d).foldl (fun m x => max m x.1) m = max m (d + dep k - 1)) → ∀ d m, (preL ks d).foldl (fun m x => max m x.1) m = max m (if ks = [] then 0 else d + depL ks - 1) := by
      intro ks
      induction ks with
      | nil => intro _ d m; simp [preL]
      | cons x xs ihx =>
        intro h d m
        rw [preL, List.foldl_append, h x List.mem_cons_self, ihx (fun k hk => h k (List.mem_cons_of_mem _ hk))]
        have := dep_pos x
        simp only [depL, List.cons_ne_nil, if_false]
        split
        · rename_i h0; subst h0; simp only [depL]; omega
        · omega
    intro d m
    rw [preN_eq, List.foldl_cons, hL _ ih, dep_eq n]
    dsimp only
    split
    · rename_i h0; rw [h0]; simp only [depL]; omega
    · rename_i h0
      have : 1 ≤ depL n.kids := by
        cases hk : n.kids with
        | nil => exact absurd hk h0
        | cons x xs => have := dep_pos x; simp only [depL]; omega
      omega

def CntJ (L : Lp) (b : Bool) (s : Nat × Nat) (S : St) : Prop := b = true ∧ 5 < S.n ∧ S.get 4 = some .dfr ∧ S.get 5 = some (L.at .ready .nrm) ∧ S.get 1 = some (.row [.int .i64 s.1] false) ∧ S.get 2 = some (.row [.int .i64 s.2] false)
theorem CntJ.push {L : Lp} (b : Bool) (s : Nat × Nat) (S : St) (o : AObj) (h : CntJ L b s S) : CntJ L b s (S.push o) := by
  obtain ⟨h0, h1, h2, h3, h4, h5⟩ := h
  exact ⟨h0, by rw [St.pushN]; omega, by rw [St.get_pushn (by omega)]; exact h2, by rw [St.get_pushn (by omega)]; exact h3, by rw [St.get_pushn (by omega)]; exact h4, by rw [St.get_pushn (by omega)]; exact h5⟩

theorem count54_ok (hw : Std w) (n : Node) (hn : n.ok) (hc : cnt n ≤ 900000) : PC (cfg w) 54 [n.av] (.tup [.int .i64 (cnt n), .int .i64 (dep n)]) := by
  refine PC_of (args' := [n.av]) hw.e54 hw.m54 (by simp [nrmA, nrm, Node.nrm_all]) ?_
  have hwalk := walkN_ok hw n
  refine call_of_W (fn54 w) rfl ?_
  simp only [Try.f54, List.length_cons, List.length_nil, ↓reduceIte, Int.reduceLT, Int.reduceLE, Int.reduceAdd, Int.reduceSub, Int.reduceNeg, Int.reduceMul, Int.reduceToNat, Int.reduceEq, Int.reduceNe, Int.reduceGT, Int.reduceGE, Nat.reducePow, IntKind.bits, Nat.reduceAdd, Nat.reduceSub, List.cons_append, List.nil_append]
  repeat with_reducible (first | refine E0 ?_ | refine E1 ?_ | refine E2 ?_ | refine E3 ?_ | refine E4 ?_ | refine E5 (by decide) ?_ | refine E6 ?_ | refine E7 ?_ | refine E8 ?_ | refine E9 ?_ | refine Ea ?_ | refine Eb ?_ | refine Ec ?_ | refine Ed ?_)
  refine W_region fun K hK => ?_
  simp only [KA, KB, KP, KQ, reduceCtorEq, ↓reduceIte, Int.reduceLT, Int.reduceLE, Int.reduceAdd, Int.reduceSub, Int.reduceNeg, Int.reduceMul, Int.reduceToNat, Int.reduceEq, Int.reduceNe, Int.reduceGT, Int.reduceGE, Nat.reducePow, Nat.reduceAdd, Nat.reduceSub, Nat.reduceLT, Nat.reduceMul, Nat.reduceDiv, Nat.reduceEqDiff, Nat.reduceLeDiff, KT w, hw.KF]
  refine hK _ _ ?_
  clear hK
  clear K
  repeat with_reducible (first | refine E0 ?_ | refine E1 ?_ | refine E2 ?_ | refine E3 ?_ | refine E4 ?_ | refine E5 (by decide) ?_ | refine E6 ?_ | refine E7 ?_ | refine E8 ?_ | refine E9 ?_ | refine Ea ?_ | refine Eb ?_ | refine Ec ?_ | refine Ed ?_)
  refine W_region fun K hK => ?_
  simp only [KA, KB, KP, KQ, reduceCtorEq, ↓reduceIte, Int.reduceLT, Int.reduceLE, Int.reduceAdd, Int.reduceSub, Int.reduceNeg, Int.reduceMul, Int.reduceToNat, Int.reduceEq, Int.reduceNe, Int.reduceGT, Int.reduceGE, Nat.reducePow, Nat.reduceAdd, Nat.reduceSub, Nat.reduceLT, Nat.reduceMul, Nat.reduceDiv, Nat.reduceEqDiff, Nat.reduceLeDiff, KT w, hw.KF, splice, List.length_append]
  refine hK _ _ ?_
  clear hK
  clear K
  repeat with_reducible (first | refine E0 ?_ | refine E1 ?_ | refine E2 ?_ | refine E3 ?_ | refine E4 ?_ | refine E5 (by decide) ?_ | refine E6 ?_ | refine E7 ?_ | refine E8 ?_ | refine E9 ?_ | refine Ea ?_ | refine Eb ?_ | refine Ec ?_ | refine Ed ?_)
  refine W_region fun K hK => ?_
  simp only [KA, KB, KP, KQ, reduceCtorEq, ↓reduceIte, Int.reduceLT, Int.reduceLE, Int.reduceAdd, Int.reduceSub, Int.reduceNeg, Int.reduceMul, Int.reduceToNat, Int.reduceEq, Int.reduceNe, Int.reduceGT, Int.reduceGE, Nat.reducePow, Nat.reduceAdd, Nat.reduceSub, Nat.reduceLT, Nat.reduceMul, Nat.reduceDiv, Nat.reduceEqDiff, Nat.reduceLeDiff, KT w, hw.KF, hwalk]
  refine hK _ _ ?_
  clear hK
  clear K
  repeat with_reducible (first | refine E0 ?_ | refine E1 ?_ | refine E2 ?_ | refine E3 ?_ | refine E4 ?_ | refine E5 (by decide) ?_ | refine E6 ?_ | refine E7 ?_ | refine E8 ?_ | refine E9 ?_ | refine Ea ?_ | refine Eb ?_ | refine Ec ?_ | refine Ed ?_)
  refine W_range (by simp only [KA, KP, KQ, reduceCtorEq, ↓reduceIte, Int.reduceLT, Int.reduceLE, Int.reduceAdd, Int.reduceSub, Int.reduceNeg, Int.reduceMul, Int.reduceToNat, Int.reduceEq, Int.reduceNe, Int.reduceGT, Int.reduceGE, Nat.reducePow, Nat.reduceAdd, Nat.reduceSub, Nat.reduceLT, Nat.reduceMul, Nat.reduceDiv, Nat.reduceEqDiff, Nat.reduceLeDiff, KT w, hw.KF]; rfl) fun L hL => ?_
  have hps := congrArg Lp.ps hL
  have hasg := congrArg Lp.asg hL
  have hbody := congrArg Lp.body hL
  have hfn := congrArg Lp.fn hL
  have hl : L.tm.length = 18 := by rw [hL]; simp only [KA, KP, KQ, reduceCtorEq, ↓reduceIte, Int.reduceLT, Int.reduceLE, Int.reduceAdd, Int.reduceSub, Int.reduceNeg, Int.reduceMul, Int.reduceToNat, Int.reduceEq, Int.reduceNe, Int.reduceGT, Int.reduceGE, Nat.reducePow, Nat.reduceAdd, Nat.reduceSub, Nat.reduceLT, Nat.reduceMul, Nat.reduceDiv, Nat.reduceEqDiff, Nat.reduceLeDiff, KT w, hw.KF]
  have h4 : tget L.tm 4 = .ptr 1 0 := by rw [hL]; simp only [KA, KP, KQ, reduceCtorEq, ↓reduceIte, Int.reduceLT, Int.reduceLE, Int.reduceAdd, Int.reduceSub, Int.reduceNeg, Int.reduceMul, Int.reduceToNat, Int.reduceEq, Int.reduceNe, Int.reduceGT, Int.reduceGE, Nat.reducePow, Nat.reduceAdd, Nat.reduceSub, Nat.reduceLT, Nat.reduceMul, Nat.reduceDiv, Nat.reduceEqDiff, Nat.reduceLeDiff, KT w, hw.KF]
  have h5 : tget L.tm 5 = .ptr 2 0 := by rw [hL]; simp only [KA, KP, KQ, reduceCtorEq, ↓reduceIte, Int.reduceLT, Int.reduceLE, Int.reduceAdd, Int.reduceSub, Int.reduceNeg, Int.reduceMul, Int.reduceToNat, Int.reduceEq, Int.reduceNe, Int.reduceGT, Int.reduceGE, Nat.reducePow, Nat.reduceAdd, Nat.reduceSub, Nat.reduceLT, Nat.reduceMul, Nat.reduceDiv, Nat.reduceEqDiff, Nat.reduceLeDiff, KT w, hw.KF]
  simp only at hps hasg hbody hfn
  clear hL
  have T : Tak w 5 1000000 cntS (fun s => s.1) (CntJ L) := by
    refine ⟨fun s x => Nat.le_refl _, CntJ.push, ?_⟩
    rintro s S d n ⟨-, hn5, hdf, hg, g1, g2⟩ hn hls hd hok hbs -
    have e1 : IntKind.i64.wrap ((s.1 : Int) + 1) = ((s.1 + 1 : Nat) : Int) := by rw [i64_in _ (by omega)]; omega
    have hmx : (if ((d : Nat) : Int) > (s.2 : Int) then ((d : Nat) : Int) else (s.2 : Int)) = ((max s.2 d : Nat) : Int) := by split <;> omega
    have k1 : (S.set 5 (L.at .busy .nrm)).ok := St.ok_set hok
    have q1 : (S.set 5 (L.at .busy .nrm)).get 1 = some (.row [.int .i64 s.1] false) := by rw [St.get_setn hn5 (by omega)]; exact g1
    have q2 : (S.set 5 (L.at .busy .nrm)).get 2 = some (.row [.int .i64 s.2] false) := by rw [St.get_setn hn5 (by omega)]; exact g2
    refine yield_val hg (by rw [hps]; rfl) ?_
    rw [hasg, hps, hfn]
    simp only [List.zip_cons_cons, List.zip_nil_right, List.foldl]
    repeat with_reducible (first | refine E0 ?_ | refine E1 ?_ | refine E2 ?_ | refine E3 ?_ | refine E4 ?_ | refine E5 (by decide) ?_ | refine E6 ?_ | refine E7 ?_ | refine E8 ?_ | refine E9 ?_ | refine Ea ?_ | refine Eb ?_ | refine Ec ?_ | refine Ed ?_)
    refine W_region fun K hK => ?_
    simp only [KA, KB, KP, KQ, reduceCtorEq, ↓reduceIte, Int.reduceLT, Int.reduceLE, Int.reduceAdd, Int.reduceSub, Int.reduceNeg, Int.reduceMul, Int.reduceToNat, Int.reduceEq, Int.reduceNe, Int.reduceGT, Int.reduceGE, Nat.reducePow, Nat.reduceAdd, Nat.reduceSub, Nat.reduceLT, Nat.reduceMul, Nat.reduceDiv, Nat.reduceEqDiff, Nat.reduceLeDiff, KT w, hw.KF, hl]
    refine hK _ _ ?_
    clear hK
    clear K
    refine ⟨rfl, .nrm, hg, by omega, ?_⟩
    rw [hbody]
    generalize hS1 : S.set 5 (L.at .busy .nrm) = S1 at *
    have hb1 : S1.base = 0 := by rw [← hS1]; exact hbs
    have hn1 : S1.n = S.n := by rw [← hS1]; rfl
    have hlt1 : 1 < S1.n := by omega
    have hlt2 : 2 < S1.n := by omega
    repeat with_reducible (first | refine E0 ?_ | refine E1 ?_ | refine E2 ?_ | refine E3 ?_ | refine E4 ?_ | refine E5 (by decide) ?_ | refine E6 ?_ | refine E7 ?_ | refine E8 ?_ | refine E9 ?_ | refine Ea ?_ | refine Eb ?_ | refine Ec ?_ | refine Ed ?_)
    refine W_regionD [[], [0], [], [], [2, 3], [1, 0], [4, 2, 3, 5, 1, 0]] (by decide +kernel) (by decide +kernel) (by decide +kernel) fun K hK => ?_
    simp only [KA, KB, KP, KQ, reduceCtorEq, ↓reduceIte, Int.reduceLT, Int.reduceLE, Int.reduceAdd, Int.reduceSub, Int.reduceNeg, Int.reduceMul, Int.reduceToNat, Int.reduceEq, Int.reduceNe, Int.reduceGT, Int.reduceGE, Nat.reducePow, Nat.reduceAdd, Nat.reduceSub, Nat.reduceLT, Nat.reduceMul, Nat.reduceDiv, Nat.reduceEqDiff, Nat.reduceLeDiff, KT w, hw.KF, A58, A59, A5a, A5b, A5c, A5d, A5e, A5f, A5g, A5h, A5i, opP, rfoot, refsO, refs, wfoot, A5j, A5k, noisyOk, pairOk, Foot.isQuiet, Foot.apart, Ft.apart, Foot.none, A5l, A5m, A48, A49, A5n, A5o, A5p, A5q, Nat.reduceBEq, hl, h4, h5, q1, q2, e1, hmx, amax, k1, hb1, hlt1, hlt2, splice, List.length_append]
    refine hK _ _ ?_
    clear hK
    clear K
    repeat with_reducible (first | refine E0 ?_ | refine E1 ?_ | refine E2 ?_ | refine E3 ?_ | refine E4 ?_ | refine E5 (by decide) ?_ | refine E6 ?_ | refine E7 ?_ | refine E8 ?_ | refine E9 ?_ | refine Ea ?_ | refine Eb ?_ | refine Ec ?_ | refine Ed ?_)
    have g5 : S1.get 5 = some (L.at .busy .nrm) := by rw [← hS1]; exact St.get_sete hok hn5
    have gd : S1.get 4 = some .dfr := by rw [← hS1, St.get_setn hn5 (by omega)]; exact hdf
    have gx : ∀ o, 5 < o → S1.get o = S.get o := fun o ho => by rw [← hS1, St.get_setn hn5 (by omega)]
    refine ⟨⟨.busy, .nrm, ?_⟩, by show S1.base ≤ 5; omega, ?_⟩
    · rw [St.get_setn (by rw [St.setN]; omega) (by omega), St.get_setn (by omega) (by omega)]; exact g5
    simp only [decide_true, if_true]
    generalize hX : AObj.row [AV.int IntKind.i64 ((s.1 + 1 : Nat) : Int)] false = X
    generalize hY : AObj.row [AV.int IntKind.i64 ((max s.2 d : Nat) : Int)] false = Y
    have t1 : 5 < ((S1.set 1 X).set 2 Y).n := by simp only [St.setN]; omega
    have t2 : 2 < (S1.set 1 X).n := by rw [St.setN]; omega
    refine ⟨rfl, ⟨rfl, by simp only [St.setN]; omega, ?_, St.get_sete (St.ok_set (St.ok_set k1)) t1, ?_, ?_⟩, ⟨St.ok_set (St.ok_set (St.ok_set k1)), by simp only [St.setB]; omega, by simp only [St.setN]; omega, fun o x ho hn' hx => ?_⟩⟩
    · rw [St.get_setn t1 (by omega), St.get_setn t2 (by omega), St.get_setn hlt1 (by omega)]; exact gd
    · rw [St.get_setn t1 (by omega), St.get_setn t2 (by omega), St.get_sete k1 hlt1, ← hX]; rfl
    · rw [St.get_setn t1 (by omega), St.get_sete (St.ok_set k1) t2, ← hY]; rfl
    · rw [St.get_setn t1 (by omega), St.get_setn t2 (by omega), St.get_setn hlt1 (by omega), gx o ho]; exact hx
  have hp : 1 + (preN n 1).length ≤ 1000000 := by rw [preN_len]; omega
  obtain ⟨S', r, hr, hJ, hA⟩ := walkN_call hw (b := 3) T n hn (0, 0) hp (by simp only [preN_len]; omega) ((((((St.nil.push (AObj.row n.cells false)).push (AObj.row [.int .i64 0] false)).push (AObj.row [.int .i64 0] false)).push (AObj.row n.cells false)).push AObj.dfr).push (L.at LoopState.ready Ex.nrm)) (by
      refine ⟨rfl, by simp only [KA, KP, KQ, reduceCtorEq, ↓reduceIte, Int.reduceLT, Int.reduceLE, Int.reduceAdd, Int.reduceSub, Int.reduceNeg, Int.reduceMul, Int.reduceToNat, Int.reduceEq, Int.reduceNe, Int.reduceGT, Int.reduceGE, Nat.reducePow, Nat.reduceAdd, Nat.reduceSub, Nat.reduceLT, Nat.reduceMul, Nat.reduceDiv, Nat.reduceEqDiff, Nat.reduceLeDiff, KT w, hw.KF], by simp only [KA, KP, KQ, reduceCtorEq, ↓reduceIte, Int.reduceLT, Int.reduceLE, Int.reduceAdd, Int.reduceSub, Int.reduceNeg, Int.reduceMul, Int.reduceToNat, Int.reduceEq, Int.reduceNe, Int.reduceGT, Int.reduceGE, Nat.reducePow, Nat.reduceAdd, Nat.reduceSub, Nat.reduceLT, Nat.reduceMul, Nat.reduceDiv, Nat.reduceEqDiff, Nat.reduceLeDiff, KT w, hw.KF], by simp only [KA, KP, KQ, reduceCtorEq, ↓reduceIte, Int.reduceLT, Int.reduceLE, Int.reduceAdd, Int.reduceSub, Int.reduceNeg, Int.reduceMul, Int.reduceToNat, Int.reduceEq, Int.reduceNe, Int.reduceGT, Int.reduceGE, Nat.reducePow, Nat.reduceAdd, Nat.reduceSub, Nat.reduceLT, Nat.reduceMul, Nat.reduceDiv, Nat.reduceEqDiff, Nat.reduceLeDiff, KT w, hw.KF], by simp only [KA, KP, KQ, reduceCtorEq, ↓reduceIte, Int.reduceLT, Int.reduceLE, Int.reduceAdd, Int.reduceSub, Int.reduceNeg, Int.reduceMul, Int.reduceToNat, Int.reduceEq, Int.reduceNe, Int.reduceGT, Int.reduceGE, Nat.reducePow, Nat.reduceAdd, Nat.reduceSub, Nat.reduceLT, Nat.reduceMul, Nat.reduceDiv, Nat.reduceEqDiff, Nat.reduceLeDiff, KT w, hw.KF, Int.ofNat_zero], by simp only [KA, KP, KQ, reduceCtorEq, ↓reduceIte, Int.reduceLT, Int.reduceLE, Int.reduceAdd, Int.reduceSub, Int.reduceNeg, Int.reduceMul, Int.reduceToNat, Int.reduceEq, Int.reduceNe, Int.reduceGT, Int.reduceGE, Nat.reducePow, Nat.reduceAdd, Nat.reduceSub, Nat.reduceLT, Nat.reduceMul, Nat.reduceDiv, Nat.reduceEqDiff, Nat.reduceLeDiff, KT w, hw.KF, Int.ofNat_zero]⟩) (St.ok_push (St.ok_push (St.ok_push (St.ok_push (St.ok_push (St.ok_push St.ok_nil)))))) rfl (by simp only [KA, KP, KQ, reduceCtorEq, ↓reduceIte, Int.reduceLT, Int.reduceLE, Int.reduceAdd, Int.reduceSub, Int.reduceNeg, Int.reduceMul, Int.reduceToNat, Int.reduceEq, Int.reduceNe, Int.reduceGT, Int.reduceGE, Nat.reducePow, Nat.reduceAdd, Nat.reduceSub, Nat.reduceLT, Nat.reduceMul, Nat.reduceDiv, Nat.reduceEqDiff, Nat.reduceLeDiff, KT w, hw.KF]) (by simp only [KA, KP, KQ, reduceCtorEq, ↓reduceIte, Int.reduceLT, Int.reduceLE, Int.reduceAdd, Int.reduceSub, Int.reduceNeg, Int.reduceMul, Int.reduceToNat, Int.reduceEq, Int.reduceNe, Int.reduceGT, Int.reduceGE, Nat.reducePow, Nat.reduceAdd, Nat.reduceSub, Nat.reduceLT, Nat.reduceMul, Nat.reduceDiv, Nat.reduceEqDiff, Nat.reduceLeDiff, KT w, hw.KF]) (by simp only [KA, KP, KQ, reduceCtorEq, ↓reduceIte, Int.reduceLT, Int.reduceLE, Int.reduceAdd, Int.reduceSub, Int.reduceNeg, Int.reduceMul, Int.reduceToNat, Int.reduceEq, Int.reduceNe, Int.reduceGT, Int.reduceGE, Nat.reducePow, Nat.reduceAdd, Nat.reduceSub, Nat.reduceLT, Nat.reduceMul, Nat.reduceDiv, Nat.reduceEqDiff, Nat.reduceLeDiff, KT w, hw.KF])
  rw [runC] at hJ
  simp only [preN_len, foldD] at hJ
  have hdp := dep_pos n
  have ec : 0 + cnt n = cnt n := by omega
  have ed : max 0 (1 + dep n - 1) = dep n := by omega
  rw [ec, ed] at hJ
  obtain ⟨-, k0, k1, k2, k3, k4⟩ := hJ
  refine ⟨r, S', hr, .ready, .nrm, k2, by simp, by have := hA.base; simp only [St.pushB, St.nil_base] at this; omega, ?_⟩
  have hb' := hA.base
  have hn' := hA.n
  have hok' := hA.ok
  simp only [St.pushB, St.pushN, St.nil_base, St.nil_n] at hb' hn'
  simp only at k3 k4
  repeat with_reducible (first | refine E0 ?_ | refine E1 ?_ | refine E2 ?_ | refine E3 ?_ | refine E4 ?_ | refine E5 (by decide) ?_ | refine E6 ?_ | refine E7 ?_ | refine E8 ?_ | refine E9 ?_ | refine Ea ?_ | refine Eb ?_ | refine Ec ?_ | refine Ed ?_)
  refine W_regionD [[], [], [0], [1, 2, 0]] (by decide +kernel) (by decide +kernel) (by decide +kernel) fun K hK => ?_
  simp only [KA, KB, KP, KQ, reduceCtorEq, ↓reduceIte, Int.reduceLT, Int.reduceLE, Int.reduceAdd, Int.reduceSub, Int.reduceNeg, Int.reduceMul, Int.reduceToNat, Int.reduceEq, Int.reduceNe, Int.reduceGT, Int.reduceGE, Nat.reducePow, Nat.reduceAdd, Nat.reduceSub, Nat.reduceLT, Nat.reduceMul, Nat.reduceDiv, Nat.reduceEqDiff, Nat.reduceLeDiff, KT w, hw.KF, A58, A59, A5a, A5b, A5c, A5d, A5e, A5f, A5g, A5h, A5i, opP, rfoot, refsO, refs, wfoot, A5j, A5k, noisyOk, pairOk, Foot.isQuiet, Foot.apart, Ft.apart, Foot.none, A5l, A5m, A48, A49, A5n, A5o, A5p, A5q, Nat.reduceBEq, k3, k4, k0, hok', hb']
  refine hK _ _ ?_
  clear hK
  clear K
  repeat with_reducible (first | refine E0 ?_ | refine E1 ?_ | refine E2 ?_ | refine E3 ?_ | refine E4 ?_ | refine E5 (by decide) ?_ | refine E6 ?_ | refine E7 ?_ | refine E8 ?_ | refine E9 ?_ | refine Ea ?_ | refine Eb ?_ | refine Ec ?_ | refine Ed ?_)
  have h4' : (S'.set 5 (L.at LoopState.exhausted Ex.nrm)).get 4 = some .dfr := by rw [St.get_setn (by omega) (by omega)]; exact k1
  simp only [St.pushN, St.nil_n]
  refine AtEnd_one rfl h4' (by show S'.base ≤ 4; omega) ?_
  simp only [KA, KP, KQ, reduceCtorEq, ↓reduceIte, Int.reduceLT, Int.reduceLE, Int.reduceAdd, Int.reduceSub, Int.reduceNeg, Int.reduceMul, Int.reduceToNat, Int.reduceEq, Int.reduceNe, Int.reduceGT, Int.reduceGE, Nat.reducePow, Nat.reduceAdd, Nat.reduceSub, Nat.reduceLT, Nat.reduceMul, Nat.reduceDiv, Nat.reduceEqDiff, Nat.reduceLeDiff, KT w, hw.KF, RS_some, aresults_nil, aresults_tmp, aresults_cell, one]
  exact FZ_tup rfl
end Go.Am.B
