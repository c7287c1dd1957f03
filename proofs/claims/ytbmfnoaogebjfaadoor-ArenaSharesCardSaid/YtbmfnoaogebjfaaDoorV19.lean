/- THE LAW ArenaShares. -/
import Derived.Test.YtbmfnoaogebjfaaDoorVs
import Derived.Test.YtbmfnoaogebjfaaDoorV1
set_option linter.unusedSimpArgs false
set_option linter.unusedVariables false
set_option maxRecDepth 20000
namespace Go.Am.R
open Go.Proofs Go.IntWalk Classical

variable {w : Ways}

mutual
theorem nn_move : ∀ (c : Int) (n : Node), nn (moveN c n) = nn n
  | c, .mk k nm f a b d ks => by rw [moveN, nn, nn, nnL_move c ks]
theorem nnL_move : ∀ (c : Int) (ks : List Node), nnL (moveL c ks) = nnL ks
  | c, [] => by rw [moveL]
  | c, x :: xs => by rw [moveL, nnL, nnL, nn_move c x, nnL_move c xs]
end
theorem nn_mv (c : Int) (n : Node) : nn (mv c n) = nn n := by
  have := nn_move c n
  rw [mv]
  cases h : moveN c n with
  | mk k nm f a b d ks => rw [h] at this; rw [← this, nn, nn]
theorem mv_ok {c : Int} {n : Node} (hn : n.ok) : (mv c n).ok := by
  have := moveN_ok c n hn
  rw [mv]
  cases h : moveN c n with
  | mk k nm f a b d ks =>
    rw [h] at this
    simp only [Node.ok] at this ⊢
    exact ⟨this.1, by simp, this.2.2.1, this.2.2.2.1, this.2.2.2.2.1, this.2.2.2.2.2.1, this.2.2.2.2.2.2⟩
theorem mv_cells (c : Int) (n : Node) : (moveN c n).cells.take 2 ++ [AV.str []] ++ (moveN c n).cells.drop 3 = (mv c n).cells := by
  rw [mv]
  cases h : moveN c n with
  | mk k nm f a b d ks =>
    rw [Node.cells_eq, Node.cells_eq]
    rfl
theorem RAr.cells_len (A : RAr) : A.cells.length = 3 := rfl
theorem RAr.cells_take (A : RAr) : A.cells.take 3 = A.cells := rfl
theorem RAr.cells_drop (A : RAr) : A.cells.drop 3 = [] := rfl
theorem RAr.cells2 (A : RAr) : A.cells[2]? = some (.vec (ints A.roots)) := rfl
theorem RAr.cells_nrm (A : RAr) : nrmL A.cells = some A.cells := by
  have := A.nrm
  simpa [RAr.av, Am.nrm] using this
theorem arC_len (A : Ar) : (arC A).length = 3 := rfl
theorem arC_take (A : Ar) : (arC A).take 3 = arC A := rfl
theorem arC_drop (A : Ar) : (arC A).drop 3 = [] := rfl
theorem arC0 (A : Ar) : (arC A)[0]? = some (.vec (A.slots.map slCan)) := rfl
theorem arC_nrm (A : Ar) : nrmL (arC A) = some (arC A) := by
  have := nrm_arV A
  simpa [arV, nrm] using this
theorem shared_call (hx : w.ext 21 = some (.val sharedF)) {A : Ar} (h : ShOk A) (g k : Int) (S : St) :
    callF (cfg w) (lim (cfg w)) 21 [.agg (arC A), .int .i64 g, .int .i64 k] S = some (.int .i64 ((shN A g k : Nat) : Int), S) := by
  simp [callF, cfgP_ext, hx, XT.run, sharedF_eq h]

set_option maxHeartbeats 4000000 in
theorem shares6 (A : RAr) (hA : A.ok) (n : Node) (hn : n.ok) (by_ : Int) : PC (cfg vwS) 6 [A.av, n.av, .int .i64 by_] (.bool true) := by
  have hw := stdS
  have haw := awakeS
  refine PC_of (args' := [A.av, n.av, .int .i64 by_]) hw.e6 hw.m6 (by simp [nrmA, nrm, A.nrm, Node.nrm_all]) ?_
  have p8 := light8 hw A hA
  have p9 := fit9 hw A hA
  have p10 := small_okB hw n hn 200 (by omega) (by omega)
  have hx21 : vwS.ext 21 = some (.val sharedF) := rfl
  have p12 := fun X (y : Node) h1 c h2 h3 h4 h6 h5 => add12 hw (by rfl) (by rfl) (by rfl) X y h1 c h2 h3 h4 h6 h5
  have p18 := fun X h1 h2 => live18 hw X h1 h2
  have p22 : PC (cfg vwS) 22 [.agg n.cells, .int .i64 by_] (.agg (moveN by_ n).cells) := move22 hw by_ n hn
  have hfit : FitP A → A.cells = arC A.ar := fun h => by
    have := h.av
    simp only [arV, RAr.av, AV.agg.injEq] at this
    exact this.symm
  have q1 := A.cells_len
  have q2 := A.cells_take
  have q3 := A.cells_drop
  have q4 := A.cells2
  have q5 := ints_len A.roots
  have q6 := A.cells_nrm
  have hfew := fun (h : FitP A) => h.few
  have hinv := fun (h : FitP A) => h.inv
  have hro : A.ar.roots.length = A.roots.length := List.length_map _
  have ncl := Node.cells_len n
  have nct := Node.cells_take n
  have ncd := Node.cells_drop n
  have nrn := Node.nrm_all n
  have hav : A.av = .agg A.cells := rfl
  rw [hav] at p8 p9 ⊢
  generalize hW : vwS = w at *
  refine call_of_W (fn6 w) rfl ?_
  simp only [Tryd.f6, List.length_cons, List.length_nil, ↓reduceIte, Int.reduceLT, Int.reduceLE, Int.reduceAdd, Int.reduceSub, Int.reduceNeg, Int.reduceMul, Int.reduceToNat, Int.reduceEq, Int.reduceNe, Int.reduceGT, Int.reduceGE, Nat.reducePow, IntKind.bits, Nat.reduceAdd, Nat.reduceSub, List.cons_append, List.nil_append]
  repeat with_reducible (first | refine E0 ?_ | refine E1 ?_ | refine E2 ?_ | refine E3 ?_ | refine E4 ?_ | refine E5 (by decide) ?_ | refine E6 ?_ | refine E7 ?_ | refine E8 ?_ | refine E9 ?_ | refine Ea ?_ | refine Eb ?_ | refine Ec ?_ | refine Ed ?_)
  refine W_region fun K hK => ?_
  simp only [KA, KB, KP, KQ, KM, simprocAttr, KT w, KI, hw.KF]
  refine hK _ _ ?_
  clear hK
  clear K
  repeat with_reducible (first | refine E0 ?_ | refine E1 ?_ | refine E2 ?_ | refine E3 ?_ | refine E4 ?_ | refine E5 (by decide) ?_ | refine E6 ?_ | refine E7 ?_ | refine E8 ?_ | refine E9 ?_ | refine Ea ?_ | refine Eb ?_ | refine Ec ?_ | refine Ed ?_)
  by_cases hL : 0 ≤ lightL A.slots (4000 - A.roots.length)
  case neg =>
    rw [decide_eq_false hL] at p8
    refine W_region fun K hK => ?_
    simp only [KA, KB, KP, KQ, KM, simprocAttr, KT w, KI, hw.KF, q1, q2, q3, p8]
    refine hK _ _ ?_
    clear hK
    clear K
    repeat with_reducible (first | refine E0 ?_ | refine E1 ?_ | refine E2 ?_ | refine E3 ?_ | refine E4 ?_ | refine E5 (by decide) ?_ | refine E6 ?_ | refine E7 ?_ | refine E8 ?_ | refine E9 ?_ | refine Ea ?_ | refine Eb ?_ | refine Ec ?_ | refine Ed ?_)
    refine W_condT (by simp only [KA, KP, KQ, simprocAttr, KT w, KI, hw.KF]) ?_
    repeat with_reducible (first | refine E0 ?_ | refine E1 ?_ | refine E2 ?_ | refine E3 ?_ | refine E4 ?_ | refine E5 (by decide) ?_ | refine E6 ?_ | refine E7 ?_ | refine E8 ?_ | refine E9 ?_ | refine Ea ?_ | refine Eb ?_ | refine Ec ?_ | refine Ed ?_)
    refine W_region fun K hK => ?_
    simp only [KA, KB, KP, KQ, KM, simprocAttr, KT w, KI, hw.KF, haw]
    refine hK _ _ ?_
    clear hK
    clear K
    repeat with_reducible (first | refine E0 ?_ | refine E1 ?_ | refine E2 ?_ | refine E3 ?_ | refine E4 ?_ | refine E5 (by decide) ?_ | refine E6 ?_ | refine E7 ?_ | refine E8 ?_ | refine E9 ?_ | refine Ea ?_ | refine Eb ?_ | refine Ec ?_ | refine Ed ?_)
    refine AtEnd_of rfl ?_
    simp only [KA, KP, KQ, simprocAttr, KT w, KI, hw.KF, RS_some, aresults_nil, aresults_tmp, aresults_cell, one]
    exact FZ_bool
  rw [decide_eq_true hL] at p8
  by_cases hF : FitP A
  case neg =>
    rw [decide_eq_false hF] at p9
    refine W_region fun K hK => ?_
    simp only [KA, KB, KP, KQ, KM, simprocAttr, KT w, KI, hw.KF, q1, q2, q3, p8, p9]
    refine hK _ _ ?_
    clear hK
    clear K
    repeat with_reducible (first | refine E0 ?_ | refine E1 ?_ | refine E2 ?_ | refine E3 ?_ | refine E4 ?_ | refine E5 (by decide) ?_ | refine E6 ?_ | refine E7 ?_ | refine E8 ?_ | refine E9 ?_ | refine Ea ?_ | refine Eb ?_ | refine Ec ?_ | refine Ed ?_)
    refine W_condT (by simp only [KA, KP, KQ, simprocAttr, KT w, KI, hw.KF]) ?_
    repeat with_reducible (first | refine E0 ?_ | refine E1 ?_ | refine E2 ?_ | refine E3 ?_ | refine E4 ?_ | refine E5 (by decide) ?_ | refine E6 ?_ | refine E7 ?_ | refine E8 ?_ | refine E9 ?_ | refine Ea ?_ | refine Eb ?_ | refine Ec ?_ | refine Ed ?_)
    refine W_region fun K hK => ?_
    simp only [KA, KB, KP, KQ, KM, simprocAttr, KT w, KI, hw.KF, haw]
    refine hK _ _ ?_
    clear hK
    clear K
    repeat with_reducible (first | refine E0 ?_ | refine E1 ?_ | refine E2 ?_ | refine E3 ?_ | refine E4 ?_ | refine E5 (by decide) ?_ | refine E6 ?_ | refine E7 ?_ | refine E8 ?_ | refine E9 ?_ | refine Ea ?_ | refine Eb ?_ | refine Ec ?_ | refine Ed ?_)
    refine AtEnd_of rfl ?_
    simp only [KA, KP, KQ, simprocAttr, KT w, KI, hw.KF, RS_some, aresults_nil, aresults_tmp, aresults_cell, one]
    exact FZ_bool
  rw [decide_eq_true hF] at p9
  by_cases hS : small n 200 < 0
  · refine W_region fun K hK => ?_
    simp only [KA, KB, KP, KQ, KM, simprocAttr, KT w, KI, hw.KF, q1, q2, q3, p8, p9, ncl, nct, ncd, p10, hS]
    refine hK _ _ ?_
    clear hK
    clear K
    repeat with_reducible (first | refine E0 ?_ | refine E1 ?_ | refine E2 ?_ | refine E3 ?_ | refine E4 ?_ | refine E5 (by decide) ?_ | refine E6 ?_ | refine E7 ?_ | refine E8 ?_ | refine E9 ?_ | refine Ea ?_ | refine Eb ?_ | refine Ec ?_ | refine Ed ?_)
    refine W_condT (by simp only [KA, KP, KQ, simprocAttr, KT w, KI, hw.KF]) ?_
    repeat with_reducible (first | refine E0 ?_ | refine E1 ?_ | refine E2 ?_ | refine E3 ?_ | refine E4 ?_ | refine E5 (by decide) ?_ | refine E6 ?_ | refine E7 ?_ | refine E8 ?_ | refine E9 ?_ | refine Ea ?_ | refine Eb ?_ | refine Ec ?_ | refine Ed ?_)
    refine W_region fun K hK => ?_
    simp only [KA, KB, KP, KQ, KM, simprocAttr, KT w, KI, hw.KF, haw]
    refine hK _ _ ?_
    clear hK
    clear K
    repeat with_reducible (first | refine E0 ?_ | refine E1 ?_ | refine E2 ?_ | refine E3 ?_ | refine E4 ?_ | refine E5 (by decide) ?_ | refine E6 ?_ | refine E7 ?_ | refine E8 ?_ | refine E9 ?_ | refine Ea ?_ | refine Eb ?_ | refine Ec ?_ | refine Ed ?_)
    refine AtEnd_of rfl ?_
    simp only [KA, KP, KQ, simprocAttr, KT w, KI, hw.KF, RS_some, aresults_nil, aresults_tmp, aresults_cell, one]
    exact FZ_bool
  by_cases hR : (A.roots.length : Int) > 100
  · refine W_region fun K hK => ?_
    simp only [KA, KB, KP, KQ, KM, simprocAttr, KT w, KI, hw.KF, q1, q2, q3, q4, q5, p8, p9, ncl, nct, ncd, p10, hS, hR]
    refine hK _ _ ?_
    clear hK
    clear K
    repeat with_reducible (first | refine E0 ?_ | refine E1 ?_ | refine E2 ?_ | refine E3 ?_ | refine E4 ?_ | refine E5 (by decide) ?_ | refine E6 ?_ | refine E7 ?_ | refine E8 ?_ | refine E9 ?_ | refine Ea ?_ | refine Eb ?_ | refine Ec ?_ | refine Ed ?_)
    refine W_condT (by simp only [KA, KP, KQ, simprocAttr, KT w, KI, hw.KF]) ?_
    repeat with_reducible (first | refine E0 ?_ | refine E1 ?_ | refine E2 ?_ | refine E3 ?_ | refine E4 ?_ | refine E5 (by decide) ?_ | refine E6 ?_ | refine E7 ?_ | refine E8 ?_ | refine E9 ?_ | refine Ea ?_ | refine Eb ?_ | refine Ec ?_ | refine Ed ?_)
    refine W_region fun K hK => ?_
    simp only [KA, KB, KP, KQ, KM, simprocAttr, KT w, KI, hw.KF, haw]
    refine hK _ _ ?_
    clear hK
    clear K
    repeat with_reducible (first | refine E0 ?_ | refine E1 ?_ | refine E2 ?_ | refine E3 ?_ | refine E4 ?_ | refine E5 (by decide) ?_ | refine E6 ?_ | refine E7 ?_ | refine E8 ?_ | refine E9 ?_ | refine Ea ?_ | refine Eb ?_ | refine Ec ?_ | refine Ed ?_)
    refine AtEnd_of rfl ?_
    simp only [KA, KP, KQ, simprocAttr, KT w, KI, hw.KF, RS_some, aresults_nil, aresults_tmp, aresults_cell, one]
    exact FZ_bool
  have h200 : nn n ≤ 200 := by have := small_nn (n := n) (l := 200) (by omega); omega
  refine W_region fun K hK => ?_
  simp only [KA, KB, KP, KQ, KM, simprocAttr, KT w, KI, hw.KF, q1, q2, q3, q4, q5, p8, p9, ncl, nct, ncd, p10, hS, hR]
  refine hK _ _ ?_
  clear hK
  clear K
  repeat with_reducible (first | refine E0 ?_ | refine E1 ?_ | refine E2 ?_ | refine E3 ?_ | refine E4 ?_ | refine E5 (by decide) ?_ | refine E6 ?_ | refine E7 ?_ | refine E8 ?_ | refine E9 ?_ | refine Ea ?_ | refine Eb ?_ | refine Ec ?_ | refine Ed ?_)
  refine W_condF (by simp only [KA, KP, KQ, simprocAttr, KT w, KI, hw.KF]) ?_
  repeat with_reducible (first | refine E0 ?_ | refine E1 ?_ | refine E2 ?_ | refine E3 ?_ | refine E4 ?_ | refine E5 (by decide) ?_ | refine E6 ?_ | refine E7 ?_ | refine E8 ?_ | refine E9 ?_ | refine Ea ?_ | refine Eb ?_ | refine Ec ?_ | refine Ed ?_)
  obtain ⟨f1, f2, fRB, fKL⟩ := hfew hF hL
  have fI := hinv hF
  rw [hfit hF]
  generalize A.ar = X at *
  clear q1 q2 q3 q4 q5 q6 p8 p9 hfit hfew hinv hav
  have acl := arC_len
  have act := arC_take
  have acd := arC_drop
  have ac0 := arC0
  have acn := arC_nrm
  have a1 := p12 X n fI 20000000 fRB (by omega) (by omega) fKL (by omega)
  rcases add_or (n := n) fI (by omega) with e1 | ⟨i, B, e1, e2, e3, e4, e5, e6⟩
  · rw [e1] at a1
    have a1' : PC (cfg w) 12 [.agg (arC X), .agg n.cells] (.tup [.agg (arC X), .int .i64 0, .int .i64 22]) := a1
    refine W_region fun K hK => ?_
    simp only [KA, KB, KP, KQ, KM, simprocAttr, KT w, KI, hw.KF, acl, act, acd, ncl, nct, ncd, a1', A3p, splice]
    refine hK _ _ ?_
    clear hK
    clear K
    repeat with_reducible (first | refine E0 ?_ | refine E1 ?_ | refine E2 ?_ | refine E3 ?_ | refine E4 ?_ | refine E5 (by decide) ?_ | refine E6 ?_ | refine E7 ?_ | refine E8 ?_ | refine E9 ?_ | refine Ea ?_ | refine Eb ?_ | refine Ec ?_ | refine Ed ?_)
    refine W_region fun K hK => ?_
    simp only [KA, KB, KP, KQ, KM, simprocAttr, KT w, KI, hw.KF]
    refine hK _ _ ?_
    clear hK
    clear K
    repeat with_reducible (first | refine E0 ?_ | refine E1 ?_ | refine E2 ?_ | refine E3 ?_ | refine E4 ?_ | refine E5 (by decide) ?_ | refine E6 ?_ | refine E7 ?_ | refine E8 ?_ | refine E9 ?_ | refine Ea ?_ | refine Eb ?_ | refine Ec ?_ | refine Ed ?_)
    refine W_condT (by simp only [KA, KP, KQ, simprocAttr, KT w, KI, hw.KF]) ?_
    repeat with_reducible (first | refine E0 ?_ | refine E1 ?_ | refine E2 ?_ | refine E3 ?_ | refine E4 ?_ | refine E5 (by decide) ?_ | refine E6 ?_ | refine E7 ?_ | refine E8 ?_ | refine E9 ?_ | refine Ea ?_ | refine Eb ?_ | refine Ec ?_ | refine Ed ?_)
    refine W_region fun K hK => ?_
    simp only [KA, KB, KP, KQ, KM, simprocAttr, KT w, KI, hw.KF, haw]
    refine hK _ _ ?_
    clear hK
    clear K
    repeat with_reducible (first | refine E0 ?_ | refine E1 ?_ | refine E2 ?_ | refine E3 ?_ | refine E4 ?_ | refine E5 (by decide) ?_ | refine E6 ?_ | refine E7 ?_ | refine E8 ?_ | refine E9 ?_ | refine Ea ?_ | refine Eb ?_ | refine Ec ?_ | refine Ed ?_)
    refine AtEnd_of rfl ?_
    simp only [KA, KP, KQ, simprocAttr, KT w, KI, hw.KF, RS_some, aresults_nil, aresults_tmp, aresults_cell, one]
    exact FZ_bool
  rw [e1] at a1
  have a1' : PC (cfg w) 12 [.agg (arC X), .agg n.cells] (.tup [.agg (arC B), .int .i64 ((X.roots.length : Nat) : Int), .int .i64 0]) := a1
  have hBr : B.roots.length = X.roots.length + 1 := by rw [e4]; simp
  have bRB := add_rb (by omega) fRB e2
  have bKL := add_kl (by omega) fKL e2
  have a2 := p12 B n e3 (20000000 + nn n) bRB (by omega) (by omega) bKL (by omega)
  obtain ⟨C, k1, k2, k3, k4, k5, k6, k7, k8⟩ := add_twice e3 e5 (by omega)
  rw [k1] at a2
  have a2' : PC (cfg w) 12 [.agg (arC B), .agg n.cells] (.tup [.agg (arC C), .int .i64 ((B.roots.length : Nat) : Int), .int .i64 0]) := a2
  have hCr : C.roots.length = X.roots.length + 2 := by rw [k4]; simp [hBr]
  have cRB := add_rb (by omega) bRB k2
  have cKL := add_kl (by omega) bKL k2
  have l1 : PC (cfg w) 18 [.agg (arC B)] (.int .i64 (used B.slots : Nat)) := p18 B (by have := e3.len; omega) (nonneg e3)
  have l2 : PC (cfg w) 18 [.agg (arC C)] (.int .i64 (used C.slots : Nat)) := p18 C (by have := k3.len; omega) (nonneg k3)
  rw [k8] at l2
  have shC : ShOk C := ⟨k3, by omega, cKL⟩
  have slB : (B.slots.map slCan).length = B.slots.length := List.length_map _
  have slC' : (C.slots.map slCan).length = B.slots.length := by rw [List.length_map, k7]
  refine W_region fun K hK => ?_
  simp only [KA, KB, KP, KQ, KM, simprocAttr, KT w, KI, hw.KF, acl, act, acd, ncl, nct, ncd, a1', A3p, splice]
  refine hK _ _ ?_
  clear hK
  clear K
  repeat with_reducible (first | refine E0 ?_ | refine E1 ?_ | refine E2 ?_ | refine E3 ?_ | refine E4 ?_ | refine E5 (by decide) ?_ | refine E6 ?_ | refine E7 ?_ | refine E8 ?_ | refine E9 ?_ | refine Ea ?_ | refine Eb ?_ | refine Ec ?_ | refine Ed ?_)
  refine W_region fun K hK => ?_
  simp only [KA, KB, KP, KQ, KM, simprocAttr, KT w, KI, hw.KF]
  refine hK _ _ ?_
  clear hK
  clear K
  repeat with_reducible (first | refine E0 ?_ | refine E1 ?_ | refine E2 ?_ | refine E3 ?_ | refine E4 ?_ | refine E5 (by decide) ?_ | refine E6 ?_ | refine E7 ?_ | refine E8 ?_ | refine E9 ?_ | refine Ea ?_ | refine Eb ?_ | refine Ec ?_ | refine Ed ?_)
  refine W_condF (by simp only [KA, KP, KQ, simprocAttr, KT w, KI, hw.KF]) ?_
  repeat with_reducible (first | refine E0 ?_ | refine E1 ?_ | refine E2 ?_ | refine E3 ?_ | refine E4 ?_ | refine E5 (by decide) ?_ | refine E6 ?_ | refine E7 ?_ | refine E8 ?_ | refine E9 ?_ | refine Ea ?_ | refine Eb ?_ | refine Ec ?_ | refine Ed ?_)
  refine W_region fun K hK => ?_
  simp only [KA, KB, KP, KQ, KM, simprocAttr, KT w, KI, hw.KF, acl, act, acd, ncl, nct, ncd, a2', A3p, splice]
  refine hK _ _ ?_
  clear hK
  clear K
  repeat with_reducible (first | refine E0 ?_ | refine E1 ?_ | refine E2 ?_ | refine E3 ?_ | refine E4 ?_ | refine E5 (by decide) ?_ | refine E6 ?_ | refine E7 ?_ | refine E8 ?_ | refine E9 ?_ | refine Ea ?_ | refine Eb ?_ | refine Ec ?_ | refine Ed ?_)
  refine W_regionD [[], [0], [1, 0], [2, 1, 0], [3, 2, 1, 0], [4, 3, 2, 1, 0], [2, 1, 0], [6, 2, 1, 0], [7, 6, 2, 1, 0], [5, 4, 3, 2, 1, 0, 8, 7, 6], [2, 1, 0, 9, 5, 4, 3, 8, 7, 6], [10, 2, 1, 0, 9, 5, 4, 3, 8, 7, 6], [11, 10, 2, 1, 0, 9, 5, 4, 3, 8, 7, 6], [12, 11, 10, 2, 1, 0, 9, 5, 4, 3, 8, 7, 6], [11, 10, 2, 1, 0, 9, 5, 4, 3, 8, 7, 6], [14, 11, 10, 2, 1, 0, 9, 5, 4, 3, 8, 7, 6, 13, 12], [13, 12, 11, 10, 2, 1, 0, 9, 5, 4, 3, 8, 7, 6, 15, 14], [11, 10, 2, 1, 0, 9, 5, 4, 3, 8, 7, 6, 16, 13, 12, 15, 14]] (by decide +kernel) (by decide +kernel) (by decide +kernel) fun K hK => ?_
  simp only [KA, KB, KP, KQ, KM, simprocAttr, KT w, KI, hw.KF, A58, A59, A5a, A5b, A5c, A5d, A5e, A5f, A5g, A5h, KX, Foot.big, A5i, opP, rfoot, refsO, refs, wfoot, A5j, A5k, noisyOk, pairOk, Foot.isQuiet, Foot.apart, Ft.apart, Foot.none, A5l, A5m, A48, A49, A5n, A5o, A5p, A5q, Nat.reduceBEq, acl, act, acd, acn, ac0, slB, slC', l1, l2]
  refine hK _ _ ?_
  clear hK
  clear K
  repeat with_reducible (first | refine E0 ?_ | refine E1 ?_ | refine E2 ?_ | refine E3 ?_ | refine E4 ?_ | refine E5 (by decide) ?_ | refine E6 ?_ | refine E7 ?_ | refine E8 ?_ | refine E9 ?_ | refine Ea ?_ | refine Eb ?_ | refine Ec ?_ | refine Ed ?_)
  refine W_condF (by simp only [KA, KP, KQ, simprocAttr, KT w, KI, hw.KF]) ?_
  repeat with_reducible (first | refine E0 ?_ | refine E1 ?_ | refine E2 ?_ | refine E3 ?_ | refine E4 ?_ | refine E5 (by decide) ?_ | refine E6 ?_ | refine E7 ?_ | refine E8 ?_ | refine E9 ?_ | refine Ea ?_ | refine Eb ?_ | refine Ec ?_ | refine Ed ?_)
  have rg : ∀ (Y : Ar) (q j : Nat), Y.roots[q]? = some (some j) → rootR Y (q : Int) = ((j : Int), true) := fun Y q j h => by simp [rootR, h, optI]
  have rC1 := rg C X.roots.length i (by rw [k4, e4, List.getElem?_append_left (by simp)]; simp)
  have rC2 := rg C B.roots.length i (by rw [k4]; simp)
  have sh1 : shN C ((B.roots.length : Nat) : Int) ((B.roots.length : Nat) : Int) = both C.slots i i := by rw [shN, if_pos ⟨by rw [rC2], by rw [rC2]⟩, rC2]; simp
  have sh2 : shN C ((X.roots.length : Nat) : Int) ((B.roots.length : Nat) : Int) = both C.slots i i := by rw [shN, if_pos ⟨by rw [rC1], by rw [rC2]⟩, rC1, rC2]; simp
  have bC : both C.slots i i ≤ 4096 := by
    have : both C.slots i i ≤ (List.range C.slots.length).length := List.countP_le_length
    rw [List.length_range] at this
    have := k3.len
    omega
  have s1 := fun S => shared_call hx21 shC ((B.roots.length : Nat) : Int) ((B.roots.length : Nat) : Int) S
  rw [sh1] at s1
  have s2 := sharedF_eq shC ((X.roots.length : Nat) : Int) ((B.roots.length : Nat) : Int)
  rw [sh2] at s2
  have hMk := mv_cells by_ n
  have hMo : (mv by_ n).ok := mv_ok hn
  have hMn := nn_mv by_ n
  have mcl := Node.cells_len (moveN by_ n)
  have mct := Node.cells_take (moveN by_ n)
  have mcd := Node.cells_drop (moveN by_ n)
  have vcl := Node.cells_len (mv by_ n)
  have vct := Node.cells_take (mv by_ n)
  have vcd := Node.cells_drop (mv by_ n)
  have a3 := p12 C (mv by_ n) k3 (20000000 + nn n + nn n) cRB (by omega) (by omega) cKL (by omega)
  have a3s : ∀ D g e, addR C (mv by_ n) = (D, g, e) → PC (cfg w) 12 [.agg (arC C), .agg (mv by_ n).cells] (.tup [.agg (arC D), .int .i64 g, .int .i64 e]) := fun D g e h => by rw [h] at a3; exact a3
  have m0 := add_or (n := mv by_ n) k3 (by omega)
  have mm := fun (D : Ar) (hD : addA C (mv by_ n) = some (D, C.roots.length)) => add_moved (im := 0) k3 k5 hD
  have mb := fun (D : Ar) (im : Nat) (h1 : Le C.slots D.slots) (h2 : Apart D.slots) (h3 : Is D.slots im (nt (mv by_ n) 0)) => moved_both (C := C) (D := D) (im := im) (by_ := by_) h1 h2 k5 h3
  have hX := @opX_extv (cfg w) (lim (cfg w)) 6 15 (fn := 21) (F := sharedF) (he := by rw [cfgP_ext]; exact hx21)
  have ew : IntKind.i64.wrap ((both C.slots i i : Nat) - 1 : Int) = ((both C.slots i i : Nat) : Int) - 1 := i64_in _ (by omega)
  have uB : used B.slots ≤ 4096 := by have := used_le B.slots; have := e3.len; omega
  have eu : IntKind.i64.wrap (((used B.slots : Nat) : Int) + 1) = ((used B.slots : Nat) : Int) + 1 := i64_in _ (by omega)
  generalize (moveN by_ n).cells = MV at *
  generalize hVe : (mv by_ n).cells = VV at *
  generalize hAl : both C.slots i i = AL at *
  refine W_region fun K hK => ?_
  simp only [KA, KB, KP, KQ, KM, simprocAttr, KT w, KI, hw.KF, acl, act, acd, s1]
  refine hK _ _ ?_
  clear hK
  clear K
  repeat with_reducible (first | refine E0 ?_ | refine E1 ?_ | refine E2 ?_ | refine E3 ?_ | refine E4 ?_ | refine E5 (by decide) ?_ | refine E6 ?_ | refine E7 ?_ | refine E8 ?_ | refine E9 ?_ | refine Ea ?_ | refine Eb ?_ | refine Ec ?_ | refine Ed ?_)
  refine W_region fun K hK => ?_
  simp only [KA, KB, KP, KQ, KM, simprocAttr, KT w, KI, hw.KF, ncl, nct, ncd, p22, mcl, mct, mcd, A3p, splice]
  refine hK _ _ ?_
  clear hK
  clear K
  repeat with_reducible (first | refine E0 ?_ | refine E1 ?_ | refine E2 ?_ | refine E3 ?_ | refine E4 ?_ | refine E5 (by decide) ?_ | refine E6 ?_ | refine E7 ?_ | refine E8 ?_ | refine E9 ?_ | refine Ea ?_ | refine Eb ?_ | refine Ec ?_ | refine Ed ?_)
  refine W_region fun K hK => ?_
  simp only [KA, KB, KP, KQ, KM, simprocAttr, KT w, KI, hw.KF, mcl, hMk, splice]
  refine hK _ _ ?_
  clear hK
  clear K
  repeat with_reducible (first | refine E0 ?_ | refine E1 ?_ | refine E2 ?_ | refine E3 ?_ | refine E4 ?_ | refine E5 (by decide) ?_ | refine E6 ?_ | refine E7 ?_ | refine E8 ?_ | refine E9 ?_ | refine Ea ?_ | refine Eb ?_ | refine Ec ?_ | refine Ed ?_)
  rcases m0 with e1' | ⟨im, D, d1, d2, d3, d4, d5, d6⟩
  · have a3' := a3s _ _ _ e1'
    refine W_region fun K hK => ?_
    simp only [KA, KB, KP, KQ, KM, simprocAttr, KT w, KI, hw.KF, acl, act, acd, vcl, vct, vcd, a3', A3p, splice]
    refine hK _ _ ?_
    clear hK
    clear K
    repeat with_reducible (first | refine E0 ?_ | refine E1 ?_ | refine E2 ?_ | refine E3 ?_ | refine E4 ?_ | refine E5 (by decide) ?_ | refine E6 ?_ | refine E7 ?_ | refine E8 ?_ | refine E9 ?_ | refine Ea ?_ | refine Eb ?_ | refine Ec ?_ | refine Ed ?_)
    refine W_region fun K hK => ?_
    simp only [KA, KB, KP, KQ, KM, simprocAttr, KT w, KI, hw.KF]
    refine hK _ _ ?_
    clear hK
    clear K
    repeat with_reducible (first | refine E0 ?_ | refine E1 ?_ | refine E2 ?_ | refine E3 ?_ | refine E4 ?_ | refine E5 (by decide) ?_ | refine E6 ?_ | refine E7 ?_ | refine E8 ?_ | refine E9 ?_ | refine Ea ?_ | refine Eb ?_ | refine Ec ?_ | refine Ed ?_)
    refine W_condT (by simp only [KA, KP, KQ, simprocAttr, KT w, KI, hw.KF]) ?_
    repeat with_reducible (first | refine E0 ?_ | refine E1 ?_ | refine E2 ?_ | refine E3 ?_ | refine E4 ?_ | refine E5 (by decide) ?_ | refine E6 ?_ | refine E7 ?_ | refine E8 ?_ | refine E9 ?_ | refine Ea ?_ | refine Eb ?_ | refine Ec ?_ | refine Ed ?_)
    refine W_region fun K hK => ?_
    simp only [KA, KB, KP, KQ, KM, simprocAttr, KT w, KI, hw.KF, haw]
    refine hK _ _ ?_
    clear hK
    clear K
    repeat with_reducible (first | refine E0 ?_ | refine E1 ?_ | refine E2 ?_ | refine E3 ?_ | refine E4 ?_ | refine E5 (by decide) ?_ | refine E6 ?_ | refine E7 ?_ | refine E8 ?_ | refine E9 ?_ | refine Ea ?_ | refine Eb ?_ | refine Ec ?_ | refine Ed ?_)
    refine AtEnd_of rfl ?_
    simp only [KA, KP, KQ, simprocAttr, KT w, KI, hw.KF, RS_some, aresults_nil, aresults_tmp, aresults_cell, one]
    exact FZ_bool
  have a3' := a3s _ _ _ d1
  have hDr : D.roots.length = X.roots.length + 3 := by rw [d4]; simp [hCr]
  have dKL := add_kl (by omega) cKL d2
  have l3 : PC (cfg w) 18 [.agg (arC D)] (.int .i64 (used D.slots : Nat)) := p18 D (by have := d3.len; omega) (nonneg d3)
  have shD : ShOk D := ⟨d3, by omega, dKL⟩
  have rD1 := rg D X.roots.length i (by rw [d4, k4, e4, List.append_assoc, List.append_assoc, List.getElem?_append_right (by omega)]; simp)
  have rD2 := rg D C.roots.length im (by rw [d4]; simp)
  have s3 := sharedF_eq shD ((X.roots.length : Nat) : Int) ((C.roots.length : Nat) : Int)
  have sh3 : shN D ((X.roots.length : Nat) : Int) ((C.roots.length : Nat) : Int) = both D.slots i im := by rw [shN, if_pos ⟨by rw [rD1], by rw [rD2]⟩, rD1, rD2]; simp
  rw [sh3] at s3
  have g1 := mm D d2
  rw [k8] at g1
  have g2 := mb D im d6 d3.apart d5
  have g3 : ((both D.slots i im : Nat) : Int) ≥ (AL : Int) - 1 := by omega
  have g4 : ((used D.slots : Nat) : Int) ≤ ((used B.slots : Nat) : Int) + 1 := by omega
  generalize both D.slots i im = DL at *
  generalize used D.slots = UD at *
  generalize used B.slots = UB at *
  refine W_region fun K hK => ?_
  simp only [KA, KB, KP, KQ, KM, simprocAttr, KT w, KI, hw.KF, acl, act, acd, vcl, vct, vcd, a3', A3p, splice]
  refine hK _ _ ?_
  clear hK
  clear K
  repeat with_reducible (first | refine E0 ?_ | refine E1 ?_ | refine E2 ?_ | refine E3 ?_ | refine E4 ?_ | refine E5 (by decide) ?_ | refine E6 ?_ | refine E7 ?_ | refine E8 ?_ | refine E9 ?_ | refine Ea ?_ | refine Eb ?_ | refine Ec ?_ | refine Ed ?_)
  refine W_region fun K hK => ?_
  simp only [KA, KB, KP, KQ, KM, simprocAttr, KT w, KI, hw.KF]
  refine hK _ _ ?_
  clear hK
  clear K
  repeat with_reducible (first | refine E0 ?_ | refine E1 ?_ | refine E2 ?_ | refine E3 ?_ | refine E4 ?_ | refine E5 (by decide) ?_ | refine E6 ?_ | refine E7 ?_ | refine E8 ?_ | refine E9 ?_ | refine Ea ?_ | refine Eb ?_ | refine Ec ?_ | refine Ed ?_)
  refine W_condF (by simp only [KA, KP, KQ, simprocAttr, KT w, KI, hw.KF]) ?_
  repeat with_reducible (first | refine E0 ?_ | refine E1 ?_ | refine E2 ?_ | refine E3 ?_ | refine E4 ?_ | refine E5 (by decide) ?_ | refine E6 ?_ | refine E7 ?_ | refine E8 ?_ | refine E9 ?_ | refine Ea ?_ | refine Eb ?_ | refine Ec ?_ | refine Ed ?_)
  refine W_regionD [[], [], [], [0, 1, 2], [], [3, 0, 1, 2, 4], [5, 3, 0, 1, 2, 4], [6, 5, 3, 0, 1, 2, 4], [6, 5, 3, 0, 1, 2, 4], [6, 5, 3, 0, 1, 2, 4], [7, 6, 5, 3, 0, 1, 2, 4, 8, 9], [6, 5, 3, 0, 1, 2, 4], [11, 6, 5, 3, 0, 1, 2, 4], [10, 7, 6, 5, 3, 0, 1, 2, 4, 8, 9, 12, 11], [6, 5, 3, 0, 1, 2, 4, 13, 10, 7, 8, 9, 12, 11], [14, 6, 5, 3, 0, 1, 2, 4, 13, 10, 7, 8, 9, 12, 11], [15, 14, 6, 5, 3, 0, 1, 2, 4, 13, 10, 7, 8, 9, 12, 11], [16, 15, 14, 6, 5, 3, 0, 1, 2, 4, 13, 10, 7, 8, 9, 12, 11], [15, 14, 6, 5, 3, 0, 1, 2, 4, 13, 10, 7, 8, 9, 12, 11], [18, 15, 14, 6, 5, 3, 0, 1, 2, 4, 13, 10, 7, 8, 9, 12, 11, 17, 16], [19, 18, 15, 14, 6, 5, 3, 0, 1, 2, 4, 13, 10, 7, 8, 9, 12, 11, 17, 16], [17, 16, 15, 14, 6, 5, 3, 0, 1, 2, 4, 13, 10, 7, 8, 9, 12, 11, 20, 19, 18], [15, 14, 6, 5, 3, 0, 1, 2, 4, 13, 10, 7, 8, 9, 12, 11, 21, 17, 16, 20, 19, 18], [22, 15, 14, 6, 5, 3, 0, 1, 2, 4, 13, 10, 7, 8, 9, 12, 11, 21, 17, 16, 20, 19, 18], [23, 22, 15, 14, 6, 5, 3, 0, 1, 2, 4, 13, 10, 7, 8, 9, 12, 11, 21, 17, 16, 20, 19, 18], [23, 22, 15, 14, 6, 5, 3, 0, 1, 2, 4, 13, 10, 7, 8, 9, 12, 11, 21, 17, 16, 20, 19, 18, 24], [25, 23, 22, 15, 14, 6, 5, 3, 0, 1, 2, 4, 13, 10, 7, 8, 9, 12, 11, 21, 17, 16, 20, 19, 18, 24]] (by decide +kernel) (by decide +kernel) (by decide +kernel) fun K hK => ?_
  simp only [KA, KB, KP, KQ, KM, simprocAttr, KT w, KI, hw.KF, A58, A59, A5a, A5b, A5c, A5d, A5e, A5f, A5g, A5h, KX, Foot.big, A5i, opP, rfoot, refsO, refs, wfoot, A5j, A5k, noisyOk, pairOk, Foot.isQuiet, Foot.apart, Ft.apart, Foot.none, A5l, A5m, A48, A49, A5n, A5o, A5p, A5q, Nat.reduceBEq, hX, acl, act, acd, acn, s2, s3, l2, l3, g3, g4, ew, eu, haw]
  refine hK _ _ ?_
  clear hK
  clear K
  repeat with_reducible (first | refine E0 ?_ | refine E1 ?_ | refine E2 ?_ | refine E3 ?_ | refine E4 ?_ | refine E5 (by decide) ?_ | refine E6 ?_ | refine E7 ?_ | refine E8 ?_ | refine E9 ?_ | refine Ea ?_ | refine Eb ?_ | refine Ec ?_ | refine Ed ?_)
  refine AtEnd_of rfl ?_
  simp only [KA, KP, KQ, simprocAttr, KT w, KI, hw.KF, RS_some, aresults_nil, aresults_tmp, aresults_cell, one]
  exact FZ_bool
end Go.Am.R
