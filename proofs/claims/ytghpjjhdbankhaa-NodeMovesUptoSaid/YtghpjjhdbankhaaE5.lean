/- TREES MOVED, BY THE PROGRAM. -/
import Derived.Test.YtghpjjhdbankhaaE4
set_option linter.unusedSimpArgs false
set_option linter.unusedVariables false
set_option maxRecDepth 20000
namespace Go.Am.B
open Go.Proofs Go.IntWalk

variable {w : Ways}

theorem rows_set (by_ : Int) (ks : List Node) (i : Nat) (y : Node) (hy : ks[i]? = some y) :
    (Node.rows ((ks.take i).map (moveN by_) ++ ks.drop i)).set i (moveN by_ y).cells = Node.rows ((ks.take (i + 1)).map (moveN by_) ++ ks.drop (i + 1)) := by
  have hi : i < ks.length := by rw [List.getElem?_eq_some_iff] at hy; exact hy.1
  have hl : ((ks.take i).map (moveN by_)).length = i := by simp; omega
  rw [Node.rows_map, Node.rows_map, drop_of_get hy, List.take_add_one, hy]
  simp only [List.map_append, List.map_cons, Option.toList_some, List.map_nil]
  rw [List.set_append_right _ _ (by simp; omega)]
  have : i - (List.map Node.cells (List.map (moveN by_) (List.take i ks))).length = 0 := by simp; omega
  rw [this]
  simp

theorem move56_ok (hw : Std w) (he : w.ext 86 = some (.push cloneM)) (by_ : Int) (n : Node) : n.ok → PC (cfg w) 56 [n.av, .int .i64 by_] ((moveN by_ n).av) := by
  induction n using Node.ind with
  | h n ih =>
  intro hn
  have hkl := Node.ok_kids hn
  have hkid := Node.ok_kid hn
  refine PC_of (args' := [n.av, .int .i64 by_]) hw.e56 hw.m56 (by simp [nrmA, nrm, Node.nrm_all]) ?_
  clear hn
  obtain ⟨k, nm, fl, a, b, d, ks⟩ := n
  simp only [Node.kids] at ih hkl hkid
  have hav : (Node.mk k nm fl a b d ks).av = .agg [.str k, .bool nm, .str fl, .int .i64 a, .int .i64 b, .int .i64 d, .vec (Node.rows ks)] := by simp [Node.av, Node.cells, Node.rows]
  have hav2 : (moveN by_ (Node.mk k nm fl a b d ks)).av = .agg [.str k, .bool nm, .str fl, .int .i64 (IntKind.i64.wrap (a + by_)), .int .i64 (IntKind.i64.wrap (b + by_)), .int .i64 d, .vec (Node.rows (ks.map (moveN by_)))] := by simp [moveN, Node.av, Node.cells, Node.rows, moveL_map]
  rw [hav, hav2]
  obtain ⟨a2, ha2⟩ : ∃ a2, IntKind.i64.wrap (a + by_) = a2 := ⟨_, rfl⟩
  obtain ⟨b2, hb2⟩ : ∃ b2, IntKind.i64.wrap (b + by_) = b2 := ⟨_, rfl⟩
  rw [ha2, hb2]
  rcases Nat.eq_zero_or_pos ks.length with h0 | h0
  · have hks := List.eq_nil_of_length_eq_zero h0
    subst hks
    rw [show Node.rows [] = [] from rfl, show Node.rows (List.map (moveN by_) []) = [] from rfl]
    have hcl : ∀ m, cloneM [.vec []] m = some (.lit [], .dead) := fun _ => rfl
    refine call_of_W (fn56 w) rfl ?_
    simp only [Try.f56, List.length_cons, List.length_nil, ↓reduceIte, Int.reduceLT, Int.reduceLE, Int.reduceAdd, Int.reduceSub, Int.reduceNeg, Int.reduceMul, Int.reduceToNat, Int.reduceEq, Int.reduceNe, Int.reduceGT, Int.reduceGE, Nat.reducePow, IntKind.bits, Nat.reduceAdd, Nat.reduceSub, List.cons_append, List.nil_append]
    repeat with_reducible (first | refine E0 ?_ | refine E1 ?_ | refine E2 ?_ | refine E3 ?_ | refine E4 ?_ | refine E5 (by decide) ?_ | refine E6 ?_ | refine E7 ?_ | refine E8 ?_ | refine E9 ?_ | refine Ea ?_ | refine Eb ?_ | refine Ec ?_ | refine Ed ?_)
    refine W_region fun K hK => ?_
    simp only [KA, KB, KP, KQ, reduceCtorEq, ↓reduceIte, Int.reduceLT, Int.reduceLE, Int.reduceAdd, Int.reduceSub, Int.reduceNeg, Int.reduceMul, Int.reduceToNat, Int.reduceEq, Int.reduceNe, Int.reduceGT, Int.reduceGE, Nat.reducePow, Nat.reduceAdd, Nat.reduceSub, Nat.reduceLT, Nat.reduceMul, Nat.reduceDiv, Nat.reduceEqDiff, Nat.reduceLeDiff, KT w, hw.KF]
    refine hK _ _ ?_
    clear hK
    clear K
    repeat with_reducible (first | refine E0 ?_ | refine E1 ?_ | refine E2 ?_ | refine E3 ?_ | refine E4 ?_ | refine E5 (by decide) ?_ | refine E6 ?_ | refine E7 ?_ | refine E8 ?_ | refine E9 ?_ | refine Ea ?_ | refine Eb ?_ | refine Ec ?_ | refine Ed ?_)
    refine W_regionD [[], [0], [], [1, 0, 2], [], [4], [], [5, 4, 6], [], [8], [9, 8], [0, 1, 2, 3, 4, 5, 8, 9], [11, 0, 1, 2, 3, 4, 5, 8, 9, 10], [0, 1, 2, 3, 4, 5, 6, 7, 8, 9, 11, 12, 10], [13, 0, 1, 2, 3, 4, 5, 6, 7, 8, 9, 11, 12, 10], [0, 1, 2, 3, 4, 5, 6, 7, 8, 9, 10, 11, 12, 13, 14], [15, 0, 1, 2, 3, 4, 5, 6, 7, 8, 9, 10, 11, 12, 13, 14]] (by decide +kernel) (by decide +kernel) (by decide +kernel) fun K hK => ?_
    simp only [KA, KB, KP, KQ, reduceCtorEq, ↓reduceIte, Int.reduceLT, Int.reduceLE, Int.reduceAdd, Int.reduceSub, Int.reduceNeg, Int.reduceMul, Int.reduceToNat, Int.reduceEq, Int.reduceNe, Int.reduceGT, Int.reduceGE, Nat.reducePow, Nat.reduceAdd, Nat.reduceSub, Nat.reduceLT, Nat.reduceMul, Nat.reduceDiv, Nat.reduceEqDiff, Nat.reduceLeDiff, KT w, hw.KF, A58, A59, A5a, A5b, A5c, A5d, A5e, A5f, A5g, A5h, A5i, opP, rfoot, refsO, refs, wfoot, A5j, A5k, noisyOk, pairOk, Foot.isQuiet, Foot.apart, Ft.apart, Foot.none, A5l, A5m, A48, A49, A5n, A5o, A5p, A5q, Nat.reduceBEq, ha2, hb2, hcl, opX_push (c := cfg w) he, splice, List.length_append]
    refine hK _ _ ?_
    clear hK
    clear K
    repeat with_reducible (first | refine E0 ?_ | refine E1 ?_ | refine E2 ?_ | refine E3 ?_ | refine E4 ?_ | refine E5 (by decide) ?_ | refine E6 ?_ | refine E7 ?_ | refine E8 ?_ | refine E9 ?_ | refine Ea ?_ | refine Eb ?_ | refine Ec ?_ | refine Ed ?_)
    refine W_region fun K hK => ?_
    simp only [KA, KB, KP, KQ, reduceCtorEq, ↓reduceIte, Int.reduceLT, Int.reduceLE, Int.reduceAdd, Int.reduceSub, Int.reduceNeg, Int.reduceMul, Int.reduceToNat, Int.reduceEq, Int.reduceNe, Int.reduceGT, Int.reduceGE, Nat.reducePow, Nat.reduceAdd, Nat.reduceSub, Nat.reduceLT, Nat.reduceMul, Nat.reduceDiv, Nat.reduceEqDiff, Nat.reduceLeDiff, KT w, hw.KF]
    refine hK _ _ ?_
    clear hK
    clear K
    repeat with_reducible (first | refine E0 ?_ | refine E1 ?_ | refine E2 ?_ | refine E3 ?_ | refine E4 ?_ | refine E5 (by decide) ?_ | refine E6 ?_ | refine E7 ?_ | refine E8 ?_ | refine E9 ?_ | refine Ea ?_ | refine Eb ?_ | refine Ec ?_ | refine Ed ?_)
    refine W_loop (fun k0 fr S => ∃ (tm : List AV), fr = ⟨tm, [], none, 56⟩ ∧ S.ok ∧ S.base = 0 ∧ 1 < S.n ∧ S.get 0 = some (.row [.str k, .bool nm, .str fl, .int .i64 a2, .int .i64 b2, .int .i64 d, .lit []] false) ∧ S.get 1 = some (.row [.str [], .bool false, .str [], .int .i64 0, .int .i64 0, .int .i64 0, .nils] false) ∧
        tm.length = 38 ∧ tget tm 2 = .ptr 0 0 ∧ tget tm 4 = .ptr 1 0 ∧ tget tm 23 = .int .i64 0 ∧ tget tm 24 = .int .i64 0) 0
      ⟨_, rfl, St.ok_push (St.ok_push (St.ok_push St.ok_nil)), ?_, ?_, ?_, ?_, ?_⟩ ?_
    any_goals simp only [KA, KP, KQ, reduceCtorEq, ↓reduceIte, Int.reduceLT, Int.reduceLE, Int.reduceAdd, Int.reduceSub, Int.reduceNeg, Int.reduceMul, Int.reduceToNat, Int.reduceEq, Int.reduceNe, Int.reduceGT, Int.reduceGE, Nat.reducePow, Nat.reduceAdd, Nat.reduceSub, Nat.reduceLT, Nat.reduceMul, Nat.reduceDiv, Nat.reduceEqDiff, Nat.reduceLeDiff, KT w, hw.KF, Int.ofNat_zero]
    rintro k0 fr S ⟨tm, rfl, hok, hbs, hsn, g0, g1, htm, h2, h4, h23, h24⟩
    have hs0 : 0 < S.n := by omega
    repeat with_reducible (first | refine E0 ?_ | refine E1 ?_ | refine E2 ?_ | refine E3 ?_ | refine E4 ?_ | refine E5 (by decide) ?_ | refine E6 ?_ | refine E7 ?_ | refine E8 ?_ | refine E9 ?_ | refine Ea ?_ | refine Eb ?_ | refine Ec ?_ | refine Ed ?_)
    refine W_region fun K hK => ?_
    simp only [KA, KB, KP, KQ, reduceCtorEq, ↓reduceIte, Int.reduceLT, Int.reduceLE, Int.reduceAdd, Int.reduceSub, Int.reduceNeg, Int.reduceMul, Int.reduceToNat, Int.reduceEq, Int.reduceNe, Int.reduceGT, Int.reduceGE, Nat.reducePow, Nat.reduceAdd, Nat.reduceSub, Nat.reduceLT, Nat.reduceMul, Nat.reduceDiv, Nat.reduceEqDiff, Nat.reduceLeDiff, KT w, hw.KF, htm, h23, h24]
    refine hK _ _ ?_
    clear hK
    clear K
    repeat with_reducible (first | refine E0 ?_ | refine E1 ?_ | refine E2 ?_ | refine E3 ?_ | refine E4 ?_ | refine E5 (by decide) ?_ | refine E6 ?_ | refine E7 ?_ | refine E8 ?_ | refine E9 ?_ | refine Ea ?_ | refine Eb ?_ | refine Ec ?_ | refine Ed ?_)
    refine W_condF (by simp only [KA, KP, KQ, reduceCtorEq, ↓reduceIte, Int.reduceLT, Int.reduceLE, Int.reduceAdd, Int.reduceSub, Int.reduceNeg, Int.reduceMul, Int.reduceToNat, Int.reduceEq, Int.reduceNe, Int.reduceGT, Int.reduceGE, Nat.reducePow, Nat.reduceAdd, Nat.reduceSub, Nat.reduceLT, Nat.reduceMul, Nat.reduceDiv, Nat.reduceEqDiff, Nat.reduceLeDiff, KT w, hw.KF, htm]) ?_
    repeat with_reducible (first | refine E0 ?_ | refine E1 ?_ | refine E2 ?_ | refine E3 ?_ | refine E4 ?_ | refine E5 (by decide) ?_ | refine E6 ?_ | refine E7 ?_ | refine E8 ?_ | refine E9 ?_ | refine Ea ?_ | refine Eb ?_ | refine Ec ?_ | refine Ed ?_)
    refine W_region fun K hK => ?_
    simp only [KA, KB, KP, KQ, reduceCtorEq, ↓reduceIte, Int.reduceLT, Int.reduceLE, Int.reduceAdd, Int.reduceSub, Int.reduceNeg, Int.reduceMul, Int.reduceToNat, Int.reduceEq, Int.reduceNe, Int.reduceGT, Int.reduceGE, Nat.reducePow, Nat.reduceAdd, Nat.reduceSub, Nat.reduceLT, Nat.reduceMul, Nat.reduceDiv, Nat.reduceEqDiff, Nat.reduceLeDiff, KT w, hw.KF, htm, h2, h4, g0, g1, hok, hbs, hs0, hsn, splice, List.length_append]
    refine hK _ _ ?_
    clear hK
    clear K
    repeat with_reducible (first | refine E0 ?_ | refine E1 ?_ | refine E2 ?_ | refine E3 ?_ | refine E4 ?_ | refine E5 (by decide) ?_ | refine E6 ?_ | refine E7 ?_ | refine E8 ?_ | refine E9 ?_ | refine Ea ?_ | refine Eb ?_ | refine Ec ?_ | refine Ed ?_)
    refine AtEnd_of rfl ?_
    simp only [KA, KP, KQ, reduceCtorEq, ↓reduceIte, Int.reduceLT, Int.reduceLE, Int.reduceAdd, Int.reduceSub, Int.reduceNeg, Int.reduceMul, Int.reduceToNat, Int.reduceEq, Int.reduceNe, Int.reduceGT, Int.reduceGE, Nat.reducePow, Nat.reduceAdd, Nat.reduceSub, Nat.reduceLT, Nat.reduceMul, Nat.reduceDiv, Nat.reduceEqDiff, Nat.reduceLeDiff, KT w, hw.KF, htm, h4, hok, hs0, hsn, RS_some, aresults_nil, aresults_tmp, aresults_cell, one]
    refine FZ_plain ?_ (fun vs h => by cases h)
    simp [nrm, nrmL, nrmR]
  · have hcl : ∀ m, cloneM [.vec (Node.rows ks)] m = some (.sref m 0 0 ks.length, .seq 0 7 (Node.rows ks) 0) := fun m => by
      cases hq : ks with
      | nil => rw [hq] at h0; simp at h0
      | cons x xs =>
        rw [← hq]
        unfold cloneM
        have h1 : headOk 7 (Node.rows ks) = true := by rw [hq]; simp [Node.rows_map, headOk, Node.cells_len]
        have h2 : Node.rows ks ≠ [] := by rw [hq]; simp [Node.rows_map]
        cases hr : Node.rows ks with
        | nil => exact absurd hr h2
        | cons r rs =>
          have h3 : (r :: rs).length = ks.length := by rw [← hr, Node.rows_len]
          rw [hr] at h1
          simp only [h1, h3, true_and]
          rw [if_pos hkl]
    refine call_of_W (fn56 w) rfl ?_
    simp only [Try.f56, List.length_cons, List.length_nil, ↓reduceIte, Int.reduceLT, Int.reduceLE, Int.reduceAdd, Int.reduceSub, Int.reduceNeg, Int.reduceMul, Int.reduceToNat, Int.reduceEq, Int.reduceNe, Int.reduceGT, Int.reduceGE, Nat.reducePow, IntKind.bits, Nat.reduceAdd, Nat.reduceSub, List.cons_append, List.nil_append]
    repeat with_reducible (first | refine E0 ?_ | refine E1 ?_ | refine E2 ?_ | refine E3 ?_ | refine E4 ?_ | refine E5 (by decide) ?_ | refine E6 ?_ | refine E7 ?_ | refine E8 ?_ | refine E9 ?_ | refine Ea ?_ | refine Eb ?_ | refine Ec ?_ | refine Ed ?_)
    refine W_region fun K hK => ?_
    simp only [KA, KB, KP, KQ, reduceCtorEq, ↓reduceIte, Int.reduceLT, Int.reduceLE, Int.reduceAdd, Int.reduceSub, Int.reduceNeg, Int.reduceMul, Int.reduceToNat, Int.reduceEq, Int.reduceNe, Int.reduceGT, Int.reduceGE, Nat.reducePow, Nat.reduceAdd, Nat.reduceSub, Nat.reduceLT, Nat.reduceMul, Nat.reduceDiv, Nat.reduceEqDiff, Nat.reduceLeDiff, KT w, hw.KF]
    refine hK _ _ ?_
    clear hK
    clear K
    repeat with_reducible (first | refine E0 ?_ | refine E1 ?_ | refine E2 ?_ | refine E3 ?_ | refine E4 ?_ | refine E5 (by decide) ?_ | refine E6 ?_ | refine E7 ?_ | refine E8 ?_ | refine E9 ?_ | refine Ea ?_ | refine Eb ?_ | refine Ec ?_ | refine Ed ?_)
    refine W_regionD [[], [0], [], [1, 0, 2], [], [4], [], [5, 4, 6], [], [8], [9, 8], [0, 1, 2, 3, 4, 5, 8, 9], [11, 0, 1, 2, 3, 4, 5, 8, 9, 10], [0, 1, 2, 3, 4, 5, 6, 7, 8, 9, 11, 12, 10], [13, 0, 1, 2, 3, 4, 5, 6, 7, 8, 9, 11, 12, 10], [0, 1, 2, 3, 4, 5, 6, 7, 8, 9, 10, 11, 12, 13, 14], [15, 0, 1, 2, 3, 4, 5, 6, 7, 8, 9, 10, 11, 12, 13, 14]] (by decide +kernel) (by decide +kernel) (by decide +kernel) fun K hK => ?_
    simp only [KA, KB, KP, KQ, reduceCtorEq, ↓reduceIte, Int.reduceLT, Int.reduceLE, Int.reduceAdd, Int.reduceSub, Int.reduceNeg, Int.reduceMul, Int.reduceToNat, Int.reduceEq, Int.reduceNe, Int.reduceGT, Int.reduceGE, Nat.reducePow, Nat.reduceAdd, Nat.reduceSub, Nat.reduceLT, Nat.reduceMul, Nat.reduceDiv, Nat.reduceEqDiff, Nat.reduceLeDiff, KT w, hw.KF, A58, A59, A5a, A5b, A5c, A5d, A5e, A5f, A5g, A5h, A5i, opP, rfoot, refsO, refs, wfoot, A5j, A5k, noisyOk, pairOk, Foot.isQuiet, Foot.apart, Ft.apart, Foot.none, A5l, A5m, A48, A49, A5n, A5o, A5p, A5q, Nat.reduceBEq, ha2, hb2, hcl, opX_push (c := cfg w) he, splice, List.length_append]
    refine hK _ _ ?_
    clear hK
    clear K
    repeat with_reducible (first | refine E0 ?_ | refine E1 ?_ | refine E2 ?_ | refine E3 ?_ | refine E4 ?_ | refine E5 (by decide) ?_ | refine E6 ?_ | refine E7 ?_ | refine E8 ?_ | refine E9 ?_ | refine Ea ?_ | refine Eb ?_ | refine Ec ?_ | refine Ed ?_)
    refine W_region fun K hK => ?_
    simp only [KA, KB, KP, KQ, reduceCtorEq, ↓reduceIte, Int.reduceLT, Int.reduceLE, Int.reduceAdd, Int.reduceSub, Int.reduceNeg, Int.reduceMul, Int.reduceToNat, Int.reduceEq, Int.reduceNe, Int.reduceGT, Int.reduceGE, Nat.reducePow, Nat.reduceAdd, Nat.reduceSub, Nat.reduceLT, Nat.reduceMul, Nat.reduceDiv, Nat.reduceEqDiff, Nat.reduceLeDiff, KT w, hw.KF]
    refine hK _ _ ?_
    clear hK
    clear K
    repeat with_reducible (first | refine E0 ?_ | refine E1 ?_ | refine E2 ?_ | refine E3 ?_ | refine E4 ?_ | refine E5 (by decide) ?_ | refine E6 ?_ | refine E7 ?_ | refine E8 ?_ | refine E9 ?_ | refine Ea ?_ | refine Eb ?_ | refine Ec ?_ | refine Ed ?_)
    have hkr : Node.rows ks = Node.rows ((ks.take 0).map (moveN by_) ++ ks.drop 0) := by simp
    refine W_loop (fun k0 fr S => ∃ (tm : List AV) (i : Nat), fr = ⟨tm, [], none, 56⟩ ∧ S.ok ∧ S.base = 0 ∧ 2 < S.n ∧ S.get 0 = some (.row [.str k, .bool nm, .str fl, .int .i64 a2, .int .i64 b2, .int .i64 d, .sref 2 0 0 ks.length] false) ∧ S.get 1 = some (.row [.str [], .bool false, .str [], .int .i64 0, .int .i64 0, .int .i64 0, .nils] false) ∧
        S.get 2 = some (.seq 0 7 (Node.rows ((ks.take i).map (moveN by_) ++ ks.drop i)) 0) ∧ k0 = ks.length - i ∧ i ≤ ks.length ∧
        tm.length = 38 ∧ tget tm 1 = .int .i64 by_ ∧ tget tm 2 = .ptr 0 0 ∧ tget tm 4 = .ptr 1 0 ∧ tget tm 22 = .sref 2 0 0 ks.length ∧ tget tm 23 = .int .i64 ks.length ∧ tget tm 24 = .int .i64 i) ks.length
      ⟨_, 0, rfl, St.ok_push (St.ok_push (St.ok_push St.ok_nil)), ?_, ?_, ?_, ?_, ?_, rfl, Nat.zero_le _, ?_⟩ ?_
    any_goals simp only [KA, KP, KQ, reduceCtorEq, ↓reduceIte, Int.reduceLT, Int.reduceLE, Int.reduceAdd, Int.reduceSub, Int.reduceNeg, Int.reduceMul, Int.reduceToNat, Int.reduceEq, Int.reduceNe, Int.reduceGT, Int.reduceGE, Nat.reducePow, Nat.reduceAdd, Nat.reduceSub, Nat.reduceLT, Nat.reduceMul, Nat.reduceDiv, Nat.reduceEqDiff, Nat.reduceLeDiff, KT w, hw.KF, Int.ofNat_zero]
    · rfl
    clear hkr
    rintro k0 fr S ⟨tm, i, rfl, hok, hbs, hsn, g0, g1, g2, rfl, hi, htm, h1, h2, h4, h22, h23, h24⟩
    have hs0 : 0 < S.n := by omega
    have hs1 : 1 < S.n := by omega
    have hlenR : (Node.rows ((ks.take i).map (moveN by_) ++ ks.drop i)).length = ks.length := by simp [Node.rows_len]; omega
    repeat with_reducible (first | refine E0 ?_ | refine E1 ?_ | refine E2 ?_ | refine E3 ?_ | refine E4 ?_ | refine E5 (by decide) ?_ | refine E6 ?_ | refine E7 ?_ | refine E8 ?_ | refine E9 ?_ | refine Ea ?_ | refine Eb ?_ | refine Ec ?_ | refine Ed ?_)
    refine W_region fun K hK => ?_
    simp only [KA, KB, KP, KQ, reduceCtorEq, ↓reduceIte, Int.reduceLT, Int.reduceLE, Int.reduceAdd, Int.reduceSub, Int.reduceNeg, Int.reduceMul, Int.reduceToNat, Int.reduceEq, Int.reduceNe, Int.reduceGT, Int.reduceGE, Nat.reducePow, Nat.reduceAdd, Nat.reduceSub, Nat.reduceLT, Nat.reduceMul, Nat.reduceDiv, Nat.reduceEqDiff, Nat.reduceLeDiff, KT w, hw.KF, htm, h23, h24]
    refine hK _ _ ?_
    clear hK
    clear K
    repeat with_reducible (first | refine E0 ?_ | refine E1 ?_ | refine E2 ?_ | refine E3 ?_ | refine E4 ?_ | refine E5 (by decide) ?_ | refine E6 ?_ | refine E7 ?_ | refine E8 ?_ | refine E9 ?_ | refine Ea ?_ | refine Eb ?_ | refine Ec ?_ | refine Ed ?_)
    refine W_condP (p := _) (by simp only [KA, KP, KQ, reduceCtorEq, ↓reduceIte, Int.reduceLT, Int.reduceLE, Int.reduceAdd, Int.reduceSub, Int.reduceNeg, Int.reduceMul, Int.reduceToNat, Int.reduceEq, Int.reduceNe, Int.reduceGT, Int.reduceGE, Nat.reducePow, Nat.reduceAdd, Nat.reduceSub, Nat.reduceLT, Nat.reduceMul, Nat.reduceDiv, Nat.reduceEqDiff, Nat.reduceLeDiff, KT w, hw.KF, htm]; rfl) (fun hb => ?_) (fun hb => ?_)
    · obtain ⟨y, hy⟩ := get_of_lt (l := ks) (i := i) (by omega)
      have hym := List.mem_of_getElem? hy
      have hrec := ih y hym (hkid y hym)
      have hmy : (moveN by_ y).av = .agg (moveN by_ y).cells := rfl
      rw [hmy] at hrec
      clear hmy
      have e1 : IntKind.i64.wrap ((i : Int) + 1) = (i : Int) + 1 := i64_in _ (by omega)
      have hrs := rows_set by_ ks i y hy
      have hgy : (Node.rows ((ks.take i).map (moveN by_) ++ ks.drop i))[i]? = some y.cells := by
        rw [Node.rows_get, drop_of_get hy, List.getElem?_append_right (by simp; omega)]
        have : i - (List.map (moveN by_) (List.take i ks)).length = 0 := by simp; omega
        rw [this]; rfl
      generalize Node.rows ((ks.take i).map (moveN by_) ++ ks.drop i) = R at *
      generalize hR' : Node.rows ((ks.take (i + 1)).map (moveN by_) ++ ks.drop (i + 1)) = R' at *
      have hle : (S.n ≤ 2) = False := by simp; omega
      have hlt : ((i : Int) < (ks.length : Nat)) = True := by simp; omega
      have hlt2 : (i < ks.length) = True := by simp; omega
      have hd7 : (moveN by_ y).cells.length = 7 := Node.cells_len _
      have hn0 : (0 = S.n) = False := by simp; omega
      have hn2 : (2 = S.n) = False := by simp; omega
      repeat with_reducible (first | refine E0 ?_ | refine E1 ?_ | refine E2 ?_ | refine E3 ?_ | refine E4 ?_ | refine E5 (by decide) ?_ | refine E6 ?_ | refine E7 ?_ | refine E8 ?_ | refine E9 ?_ | refine Ea ?_ | refine Eb ?_ | refine Ec ?_ | refine Ed ?_)
      refine W_region fun K hK => ?_
      simp only [KA, KB, KP, KQ, reduceCtorEq, ↓reduceIte, Int.reduceLT, Int.reduceLE, Int.reduceAdd, Int.reduceSub, Int.reduceNeg, Int.reduceMul, Int.reduceToNat, Int.reduceEq, Int.reduceNe, Int.reduceGT, Int.reduceGE, Nat.reducePow, Nat.reduceAdd, Nat.reduceSub, Nat.reduceLT, Nat.reduceMul, Nat.reduceDiv, Nat.reduceEqDiff, Nat.reduceLeDiff, KT w, hw.KF, htm, h22, h24, g2, hgy, hlt, hlt2, hok, hbs, splice, List.length_append]
      refine hK _ _ ?_
      clear hK
      clear K
      repeat with_reducible (first | refine E0 ?_ | refine E1 ?_ | refine E2 ?_ | refine E3 ?_ | refine E4 ?_ | refine E5 (by decide) ?_ | refine E6 ?_ | refine E7 ?_ | refine E8 ?_ | refine E9 ?_ | refine Ea ?_ | refine Eb ?_ | refine Ec ?_ | refine Ed ?_)
      have hz7 : ∀ c : List AV, c.length = 7 → ([] ++ c ++ (y.cells.drop (0 + 7)) : List AV) = c := fun c hc => by
        rw [show y.cells.drop (0 + 7) = [] from Node.cells_drop y]; simp
      refine W_regionD [[], [0], [], [], [], [3, 4], [1, 0, 2, 3, 4, 5], [6, 1, 0, 2, 3, 4, 5]] (by decide +kernel) (by decide +kernel) (by decide +kernel) fun K hK => ?_
      simp only [KA, KB, KP, KQ, reduceCtorEq, ↓reduceIte, Int.reduceLT, Int.reduceLE, Int.reduceAdd, Int.reduceSub, Int.reduceNeg, Int.reduceMul, Int.reduceToNat, Int.reduceEq, Int.reduceNe, Int.reduceGT, Int.reduceGE, Nat.reducePow, Nat.reduceAdd, Nat.reduceSub, Nat.reduceLT, Nat.reduceMul, Nat.reduceDiv, Nat.reduceEqDiff, Nat.reduceLeDiff, KT w, hw.KF, A58, A59, A5a, A5b, A5c, A5d, A5e, A5f, A5g, A5h, A5i, opP, rfoot, refsO, refs, wfoot, A5j, A5k, noisyOk, pairOk, Foot.isQuiet, Foot.apart, Ft.apart, Foot.none, A5l, A5m, A48, A49, A5n, A5o, A5p, A5q, Nat.reduceBEq, htm, h1, h2, g0, hle, g2, hgy, hlt, hlt2, hd7, hrs, hrec, hok, hbs, hsn, hs0, hn0, hn2, splice, hz7, List.length_append, A4p, A4o]
      refine hK _ _ ?_
      clear hK
      clear K
      repeat with_reducible (first | refine E0 ?_ | refine E1 ?_ | refine E2 ?_ | refine E3 ?_ | refine E4 ?_ | refine E5 (by decide) ?_ | refine E6 ?_ | refine E7 ?_ | refine E8 ?_ | refine E9 ?_ | refine Ea ?_ | refine Eb ?_ | refine Ec ?_ | refine Ed ?_)
      refine W_region fun K hK => ?_
      simp only [KA, KB, KP, KQ, reduceCtorEq, ↓reduceIte, Int.reduceLT, Int.reduceLE, Int.reduceAdd, Int.reduceSub, Int.reduceNeg, Int.reduceMul, Int.reduceToNat, Int.reduceEq, Int.reduceNe, Int.reduceGT, Int.reduceGE, Nat.reducePow, Nat.reduceAdd, Nat.reduceSub, Nat.reduceLT, Nat.reduceMul, Nat.reduceDiv, Nat.reduceEqDiff, Nat.reduceLeDiff, KT w, hw.KF, htm, h24, e1]
      refine hK _ _ ?_
      clear hK
      clear K
      refine ⟨ks.length - (i + 1), by omega, _, i + 1, rfl, St.ok_push (St.ok_set hok), hbs, by simp only [St.pushN, St.setN]; omega, ?_, ?_, ?_, rfl, by omega, ?_⟩
      · rw [St.get_pushn (by simp only [St.setN]; omega), St.get_setn (by omega) (by omega)]; exact g0
      · rw [St.get_pushn (by simp only [St.setN]; omega), St.get_setn (by omega) (by omega)]; exact g1
      · rw [St.get_pushn (by simp only [St.setN]; omega), St.get_sete hok (by omega), hR']
      · simp only [KA, KP, KQ, reduceCtorEq, ↓reduceIte, Int.reduceLT, Int.reduceLE, Int.reduceAdd, Int.reduceSub, Int.reduceNeg, Int.reduceMul, Int.reduceToNat, Int.reduceEq, Int.reduceNe, Int.reduceGT, Int.reduceGE, Nat.reducePow, Nat.reduceAdd, Nat.reduceSub, Nat.reduceLT, Nat.reduceMul, Nat.reduceDiv, Nat.reduceEqDiff, Nat.reduceLeDiff, KT w, hw.KF, htm, h1, h2, h4, h22, h23, Int.natCast_add, A3z]
    · have hie : i = ks.length := by omega
      subst hie
      rw [List.take_length, List.drop_length, List.append_nil] at g2
      have hlr : (Node.rows (ks.map (moveN by_))).length = ks.length := by simp [Node.rows_len]
      generalize hRR : Node.rows (ks.map (moveN by_)) = R at *
      have hnr : nrmR R = some R := by rw [← hRR]; exact Node.nrm_rows _
      have hrw : ∀ z : AObj, (S.set 1 z).rows 2 0 0 ks.length = some R := fun z => by
        unfold St.rows
        rw [St.get_setn hs1 (by omega), g2]
        simp [hlr, List.take_of_length_le]
      repeat with_reducible (first | refine E0 ?_ | refine E1 ?_ | refine E2 ?_ | refine E3 ?_ | refine E4 ?_ | refine E5 (by decide) ?_ | refine E6 ?_ | refine E7 ?_ | refine E8 ?_ | refine E9 ?_ | refine Ea ?_ | refine Eb ?_ | refine Ec ?_ | refine Ed ?_)
      refine W_region fun K hK => ?_
      simp only [KA, KB, KP, KQ, reduceCtorEq, ↓reduceIte, Int.reduceLT, Int.reduceLE, Int.reduceAdd, Int.reduceSub, Int.reduceNeg, Int.reduceMul, Int.reduceToNat, Int.reduceEq, Int.reduceNe, Int.reduceGT, Int.reduceGE, Nat.reducePow, Nat.reduceAdd, Nat.reduceSub, Nat.reduceLT, Nat.reduceMul, Nat.reduceDiv, Nat.reduceEqDiff, Nat.reduceLeDiff, KT w, hw.KF, htm, h2, h4, g0, g1, hok, hbs, hs0, hs1, splice, List.length_append]
      refine hK _ _ ?_
      clear hK
      clear K
      repeat with_reducible (first | refine E0 ?_ | refine E1 ?_ | refine E2 ?_ | refine E3 ?_ | refine E4 ?_ | refine E5 (by decide) ?_ | refine E6 ?_ | refine E7 ?_ | refine E8 ?_ | refine E9 ?_ | refine Ea ?_ | refine Eb ?_ | refine Ec ?_ | refine Ed ?_)
      refine AtEnd_of rfl ?_
      simp only [KA, KP, KQ, reduceCtorEq, ↓reduceIte, Int.reduceLT, Int.reduceLE, Int.reduceAdd, Int.reduceSub, Int.reduceNeg, Int.reduceMul, Int.reduceToNat, Int.reduceEq, Int.reduceNe, Int.reduceGT, Int.reduceGE, Nat.reducePow, Nat.reduceAdd, Nat.reduceSub, Nat.reduceLT, Nat.reduceMul, Nat.reduceDiv, Nat.reduceEqDiff, Nat.reduceLeDiff, KT w, hw.KF, htm, h4, hok, hs0, hs1, RS_some, aresults_nil, aresults_tmp, aresults_cell, one]
      refine ⟨[(2, 0 + ks.length)], ?_⟩
      simp [frz, frzA, frzL, frz1, hrw, nrm, hnr]
end Go.Am.B
