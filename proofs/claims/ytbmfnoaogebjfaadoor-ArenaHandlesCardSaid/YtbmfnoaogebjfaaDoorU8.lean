/- THE REFERENCE'S plain: slots and roots are such as may be. -/
import Derived.Test.YtbmfnoaogebjfaaDoorU7
set_option linter.unusedSimpArgs false
set_option linter.unusedVariables false
set_option maxRecDepth 20000
namespace Go.Am.R
open Go.Proofs Go.IntWalk

variable {w : Ways}

set_option maxHeartbeats 1000000 in
theorem plain29 (hw : Std w) (A : Ar) (hA : Inv A [] []) (hkb : KidB A.slots) (hr : A.roots.length ≤ 4096) : PC (cfg w) 29 [arV A] (.bool true) := by
  refine PC_of (args' := [arV A]) hw.e29 hw.m29 (by simp [nrmA, nrm_arV]) ?_
  have hlen := hA.len
  have hsl : (A.slots.map slCan).length = A.slots.length := List.length_map _
  have hrl := rs_len A.roots
  have hneg : ∀ (i : Nat) (s : Sl), A.slots[i]? = some s → 0 ≤ s.refs := fun i s hs => by
    by_cases h : s.refs < 0
    · have := (hA.neg i s hs h).2; cases this
    · omega
  have hzero := fun i s hs h0 => hA.zero i s hs h0
  have hnext := fun i s hs h0 => hA.next i s hs h0
  have hap := hA.apart
  have hroot := fun i h => hA.root i h
  have hkid := fun i j s hs hj => hA.kid (i := i) (j := j) (s := s) hs hj
  have harv : arV A = .agg [.vec (A.slots.map slCan), .int .i64 (optI A.free), .vec (rs A.roots)] := rfl
  have hP20 := leaf20n hw fs0 fs0
  simp only [lf, fs0, decide_true] at hP20
  rw [harv]
  obtain ⟨SL, FR, RT⟩ := A
  simp only at hlen hsl hrl hr hneg hzero hnext hap hroot hkid hkb ⊢
  generalize optI FR = FF
  have hc1 : ¬ (SL.length : Int) > 4096 := by omega
  have hc2 : ¬ (RT.length : Int) > 4096 := by omega
  refine call_of_W (fn29 w) rfl ?_
  simp only [Tryd.f29, List.length_cons, List.length_nil, ↓reduceIte, Int.reduceLT, Int.reduceLE, Int.reduceAdd, Int.reduceSub, Int.reduceNeg, Int.reduceMul, Int.reduceToNat, Int.reduceEq, Int.reduceNe, Int.reduceGT, Int.reduceGE, Nat.reducePow, IntKind.bits, Nat.reduceAdd, Nat.reduceSub, List.cons_append, List.nil_append]
  repeat with_reducible (first | refine E0 ?_ | refine E1 ?_ | refine E2 ?_ | refine E3 ?_ | refine E4 ?_ | refine E5 (by decide) ?_ | refine E6 ?_ | refine E7 ?_ | refine E8 ?_ | refine E9 ?_ | refine Ea ?_ | refine Eb ?_ | refine Ec ?_ | refine Ed ?_)
  refine W_region fun K hK => ?_
  simp only [KA, KB, KP, KQ, KM, simprocAttr, KT w, KI, hw.KF]
  refine hK _ _ ?_
  clear hK
  clear K
  repeat with_reducible (first | refine E0 ?_ | refine E1 ?_ | refine E2 ?_ | refine E3 ?_ | refine E4 ?_ | refine E5 (by decide) ?_ | refine E6 ?_ | refine E7 ?_ | refine E8 ?_ | refine E9 ?_ | refine Ea ?_ | refine Eb ?_ | refine Ec ?_ | refine Ed ?_)
  refine W_region fun K hK => ?_
  simp only [KA, KB, KP, KQ, KM, simprocAttr, KT w, KI, hw.KF, hsl]
  refine hK _ _ ?_
  clear hK
  clear K
  repeat with_reducible (first | refine E0 ?_ | refine E1 ?_ | refine E2 ?_ | refine E3 ?_ | refine E4 ?_ | refine E5 (by decide) ?_ | refine E6 ?_ | refine E7 ?_ | refine E8 ?_ | refine E9 ?_ | refine Ea ?_ | refine Eb ?_ | refine Ec ?_ | refine Ed ?_)
  refine W_region fun K hK => ?_
  simp only [KA, KB, KP, KQ, KM, simprocAttr, KT w, KI, hw.KF, hsl, hrl, hc1, hc2]
  refine hK _ _ ?_
  clear hK
  clear K
  repeat with_reducible (first | refine E0 ?_ | refine E1 ?_ | refine E2 ?_ | refine E3 ?_ | refine E4 ?_ | refine E5 (by decide) ?_ | refine E6 ?_ | refine E7 ?_ | refine E8 ?_ | refine E9 ?_ | refine Ea ?_ | refine Eb ?_ | refine Ec ?_ | refine Ed ?_)
  refine W_condF (by simp only [KA, KP, KQ, simprocAttr, KT w, KI, hw.KF]) ?_
  repeat with_reducible (first | refine E0 ?_ | refine E1 ?_ | refine E2 ?_ | refine E3 ?_ | refine E4 ?_ | refine E5 (by decide) ?_ | refine E6 ?_ | refine E7 ?_ | refine E8 ?_ | refine E9 ?_ | refine Ea ?_ | refine Eb ?_ | refine Ec ?_ | refine Ed ?_)
  refine W_region fun K hK => ?_
  simp only [KA, KB, KP, KQ, KM, simprocAttr, KT w, KI, hw.KF]
  refine hK _ _ ?_
  clear hK
  clear K
  repeat with_reducible (first | refine E0 ?_ | refine E1 ?_ | refine E2 ?_ | refine E3 ?_ | refine E4 ?_ | refine E5 (by decide) ?_ | refine E6 ?_ | refine E7 ?_ | refine E8 ?_ | refine E9 ?_ | refine Ea ?_ | refine Eb ?_ | refine Ec ?_ | refine Ed ?_)
  refine W_loop (fun k0 fr T => ∃ (tm : List AV) (i : Nat), fr = ⟨tm, [], none, 29⟩ ∧ T.ok ∧ T.base = 0 ∧ 1 ≤ T.n ∧ T.get 0 = some (.row [.vec (SL.map slCan), .int .i64 FF, .vec (rs RT)] false) ∧ k0 = SL.length - i ∧ i ≤ SL.length ∧
      tm.length = 172 ∧ tget tm 1 = .ptr 0 0 ∧ tget tm 3 = .int .i64 (SL.length : Nat) ∧ tget tm 4 = .int .i64 (i : Nat)) SL.length
    ⟨_, 0, rfl, St.ok_push St.ok_nil, rfl, by simp [St.pushN], rfl, rfl, Nat.zero_le _, ?_⟩ ?_
  · simp only [KA, KP, KQ, simprocAttr, KT w, KI, hw.KF, Int.ofNat_zero]
  rintro k0 fr T ⟨tm, i, rfl, hok, hb, hn, g0, rfl, hi, htm, t1, t3, t4⟩
  repeat with_reducible (first | refine E0 ?_ | refine E1 ?_ | refine E2 ?_ | refine E3 ?_ | refine E4 ?_ | refine E5 (by decide) ?_ | refine E6 ?_ | refine E7 ?_ | refine E8 ?_ | refine E9 ?_ | refine Ea ?_ | refine Eb ?_ | refine Ec ?_ | refine Ed ?_)
  by_cases hil : (i : Int) < (SL.length : Int)
  case neg =>
    refine W_region fun K hK => ?_
    simp only [KA, KB, KP, KQ, KM, simprocAttr, KT w, KI, hw.KF, htm, t3, t4, hil]
    refine hK _ _ ?_
    clear hK
    clear K
    repeat with_reducible (first | refine E0 ?_ | refine E1 ?_ | refine E2 ?_ | refine E3 ?_ | refine E4 ?_ | refine E5 (by decide) ?_ | refine E6 ?_ | refine E7 ?_ | refine E8 ?_ | refine E9 ?_ | refine Ea ?_ | refine Eb ?_ | refine Ec ?_ | refine Ed ?_)
    refine W_condF (by simp only [KA, KP, KQ, simprocAttr, KT w, KI, hw.KF, htm]) ?_
    repeat with_reducible (first | refine E0 ?_ | refine E1 ?_ | refine E2 ?_ | refine E3 ?_ | refine E4 ?_ | refine E5 (by decide) ?_ | refine E6 ?_ | refine E7 ?_ | refine E8 ?_ | refine E9 ?_ | refine Ea ?_ | refine Eb ?_ | refine Ec ?_ | refine Ed ?_)
    refine W_region fun K hK => ?_
    simp only [KA, KB, KP, KQ, KM, simprocAttr, KT w, KI, hw.KF, htm]
    refine hK _ _ ?_
    clear hK
    clear K
    repeat with_reducible (first | refine E0 ?_ | refine E1 ?_ | refine E2 ?_ | refine E3 ?_ | refine E4 ?_ | refine E5 (by decide) ?_ | refine E6 ?_ | refine E7 ?_ | refine E8 ?_ | refine E9 ?_ | refine Ea ?_ | refine Eb ?_ | refine Ec ?_ | refine Ed ?_)
    refine W_loop (fun k0 fr T' => ∃ (tm : List AV) (j : Nat), fr = ⟨tm, [], none, 29⟩ ∧ T' = T ∧ k0 = RT.length - j ∧ j ≤ RT.length ∧ tm.length = 172 ∧ tget tm 1 = .ptr 0 0 ∧ tget tm 3 = .int .i64 (SL.length : Nat) ∧ tget tm 8 = .int .i64 (j : Nat)) RT.length
      ⟨_, 0, rfl, rfl, rfl, Nat.zero_le _, ?_⟩ ?_
    · simp only [KA, KP, KQ, simprocAttr, KT w, KI, hw.KF, htm, t1, t3, Int.ofNat_zero]
    clear htm t1 t3 t4 tm
    rintro k0 fr T' ⟨tm, j, rfl, rfl, rfl, hj, htm, t1, t3, t8⟩
    repeat with_reducible (first | refine E0 ?_ | refine E1 ?_ | refine E2 ?_ | refine E3 ?_ | refine E4 ?_ | refine E5 (by decide) ?_ | refine E6 ?_ | refine E7 ?_ | refine E8 ?_ | refine E9 ?_ | refine Ea ?_ | refine Eb ?_ | refine Ec ?_ | refine Ed ?_)
    by_cases hjl : (j : Int) < (RT.length : Int)
    case neg =>
      refine W_region fun K hK => ?_
      simp only [KA, KB, KP, KQ, KM, simprocAttr, KT w, KI, hw.KF, htm, t1, t8, g0, hrl, hjl]
      refine hK _ _ ?_
      clear hK
      clear K
      repeat with_reducible (first | refine E0 ?_ | refine E1 ?_ | refine E2 ?_ | refine E3 ?_ | refine E4 ?_ | refine E5 (by decide) ?_ | refine E6 ?_ | refine E7 ?_ | refine E8 ?_ | refine E9 ?_ | refine Ea ?_ | refine Eb ?_ | refine Ec ?_ | refine Ed ?_)
      refine W_condF (by simp only [KA, KP, KQ, simprocAttr, KT w, KI, hw.KF, htm]) ?_
      repeat with_reducible (first | refine E0 ?_ | refine E1 ?_ | refine E2 ?_ | refine E3 ?_ | refine E4 ?_ | refine E5 (by decide) ?_ | refine E6 ?_ | refine E7 ?_ | refine E8 ?_ | refine E9 ?_ | refine Ea ?_ | refine Eb ?_ | refine Ec ?_ | refine Ed ?_)
      refine W_region fun K hK => ?_
      simp only [KA, KB, KP, KQ, KM, simprocAttr, KT w, KI, hw.KF, htm]
      refine hK _ _ ?_
      clear hK
      clear K
      repeat with_reducible (first | refine E0 ?_ | refine E1 ?_ | refine E2 ?_ | refine E3 ?_ | refine E4 ?_ | refine E5 (by decide) ?_ | refine E6 ?_ | refine E7 ?_ | refine E8 ?_ | refine E9 ?_ | refine Ea ?_ | refine Eb ?_ | refine Ec ?_ | refine Ed ?_)
      refine AtEnd_of rfl ?_
      simp only [KA, KP, KQ, simprocAttr, KT w, KI, hw.KF, htm, RS_some, aresults_nil, aresults_tmp, aresults_cell, one]
      exact FZ_bool
    obtain ⟨o, ho⟩ : ∃ o, RT[j]? = some o := ⟨_, List.getElem?_eq_getElem (by omega)⟩
    have hro : (rs RT)[j]? = some [.int .i64 (optI o)] := by rw [rs_get, ho]; rfl
    have hj0 : ¬ (j : Int) < 0 := by omega
    have e1 : IntKind.i64.wrap ((j : Int) + 1) = (j : Int) + 1 := i64_in _ (by omega)
    refine W_region fun K hK => ?_
    simp only [KA, KB, KP, KQ, KM, simprocAttr, KT w, KI, hw.KF, htm, t1, t8, g0, hrl, hjl]
    refine hK _ _ ?_
    clear hK
    clear K
    repeat with_reducible (first | refine E0 ?_ | refine E1 ?_ | refine E2 ?_ | refine E3 ?_ | refine E4 ?_ | refine E5 (by decide) ?_ | refine E6 ?_ | refine E7 ?_ | refine E8 ?_ | refine E9 ?_ | refine Ea ?_ | refine Eb ?_ | refine Ec ?_ | refine Ed ?_)
    refine W_condT (by simp only [KA, KP, KQ, simprocAttr, KT w, KI, hw.KF, htm]) ?_
    repeat with_reducible (first | refine E0 ?_ | refine E1 ?_ | refine E2 ?_ | refine E3 ?_ | refine E4 ?_ | refine E5 (by decide) ?_ | refine E6 ?_ | refine E7 ?_ | refine E8 ?_ | refine E9 ?_ | refine Ea ?_ | refine Eb ?_ | refine Ec ?_ | refine Ed ?_)
    cases o with
    | none =>
      rw [show optI none = -1 from rfl] at hro
      refine W_regionD [[], [0], [], [1, 0, 2], [3, 1, 0, 2], [4, 3, 1, 0, 2], [5, 4, 3, 1, 0, 2], [6, 5, 4, 3, 1, 0, 2], [7, 6, 5, 4, 3, 1, 0, 2], [6, 5, 4, 3, 1, 0, 2], [8, 7, 6, 5, 4, 3, 1, 0, 2, 9], [10, 8, 7, 6, 5, 4, 3, 1, 0, 2, 9], [11, 10, 8, 7, 6, 5, 4, 3, 1, 0, 2, 9], [12, 11, 10, 8, 7, 6, 5, 4, 3, 1, 0, 2, 9], [13, 12, 11, 10, 8, 7, 6, 5, 4, 3, 1, 0, 2, 9], [14, 13, 12, 11, 10, 8, 7, 6, 5, 4, 3, 1, 0, 2, 9], [13, 12, 11, 10, 8, 7, 6, 5, 4, 3, 1, 0, 2, 9], [15, 14, 13, 12, 11, 10, 8, 7, 6, 5, 4, 3, 1, 0, 2, 9, 16], [17, 15, 14, 13, 12, 11, 10, 8, 7, 6, 5, 4, 3, 1, 0, 2, 9, 16], [13, 12, 11, 10, 8, 7, 6, 5, 4, 3, 1, 0, 2, 9], [18, 17, 15, 14, 13, 12, 11, 10, 8, 7, 6, 5, 4, 3, 1, 0, 2, 9, 16, 19], [13, 12, 11, 10, 8, 7, 6, 5, 4, 3, 1, 0, 2, 9, 20, 18, 17, 15, 14, 16, 19], [21, 13, 12, 11, 10, 8, 7, 6, 5, 4, 3, 1, 0, 2, 9, 20, 18, 17, 15, 14, 16, 19], [22, 21, 13, 12, 11, 10, 8, 7, 6, 5, 4, 3, 1, 0, 2, 9, 20, 18, 17, 15, 14, 16, 19], [23, 22, 21, 13, 12, 11, 10, 8, 7, 6, 5, 4, 3, 1, 0, 2, 9, 20, 18, 17, 15, 14, 16, 19], [22, 21, 13, 12, 11, 10, 8, 7, 6, 5, 4, 3, 1, 0, 2, 9, 20, 18, 17, 15, 14, 16, 19], [25, 22, 21, 13, 12, 11, 10, 8, 7, 6, 5, 4, 3, 1, 0, 2, 9, 20, 18, 17, 15, 14, 16, 19], [22, 21, 13, 12, 11, 10, 8, 7, 6, 5, 4, 3, 1, 0, 2, 9, 20, 18, 17, 15, 14, 16, 19], [26, 25, 22, 21, 13, 12, 11, 10, 8, 7, 6, 5, 4, 3, 1, 0, 2, 9, 20, 18, 17, 15, 14, 16, 19, 27], [28, 26, 25, 22, 21, 13, 12, 11, 10, 8, 7, 6, 5, 4, 3, 1, 0, 2, 9, 20, 18, 17, 15, 14, 16, 19, 27], [24, 23, 22, 21, 13, 12, 11, 10, 8, 7, 6, 5, 4, 3, 1, 0, 2, 9, 20, 18, 17, 15, 14, 16, 19, 29, 28, 26, 25, 27], [30, 24, 23, 22, 21, 13, 12, 11, 10, 8, 7, 6, 5, 4, 3, 1, 0, 2, 9, 20, 18, 17, 15, 14, 16, 19, 29, 28, 26, 25, 27], [31, 30, 24, 23, 22, 21, 13, 12, 11, 10, 8, 7, 6, 5, 4, 3, 1, 0, 2, 9, 20, 18, 17, 15, 14, 16, 19, 29, 28, 26, 25, 27], [32, 31, 30, 24, 23, 22, 21, 13, 12, 11, 10, 8, 7, 6, 5, 4, 3, 1, 0, 2, 9, 20, 18, 17, 15, 14, 16, 19, 29, 28, 26, 25, 27], [22, 21, 13, 12, 11, 10, 8, 7, 6, 5, 4, 3, 1, 0, 2, 9, 20, 18, 17, 15, 14, 16, 19, 33, 32, 31, 30, 24, 23, 29, 28, 26, 25, 27], [6, 5, 4, 3, 1, 0, 2, 34, 22, 21, 13, 12, 11, 10, 8, 7, 9, 20, 18, 17, 15, 14, 16, 19, 33, 32, 31, 30, 24, 23, 29, 28, 26, 25, 27]] (by decide +kernel) (by decide +kernel) (by decide +kernel) fun K hK => ?_
      simp only [KA, KB, KP, KQ, KM, simprocAttr, KT w, KI, hw.KF, A58, A59, A5a, A5b, A5c, A5d, A5e, A5f, A5g, A5h, KX, Foot.big, A5i, opP, rfoot, refsO, refs, wfoot, A5j, A5k, noisyOk, pairOk, Foot.isQuiet, Foot.apart, Ft.apart, Foot.none, A5l, A5m, A48, A49, A5n, A5o, A5p, A5q, Nat.reduceBEq, htm, t1, t3, t8, g0, hro, hj0, hjl, hrl]
      refine hK _ _ ?_
      clear hK
      clear K
      repeat with_reducible (first | refine E0 ?_ | refine E1 ?_ | refine E2 ?_ | refine E3 ?_ | refine E4 ?_ | refine E5 (by decide) ?_ | refine E6 ?_ | refine E7 ?_ | refine E8 ?_ | refine E9 ?_ | refine Ea ?_ | refine Eb ?_ | refine Ec ?_ | refine Ed ?_)
      refine W_condF (by simp only [KA, KP, KQ, simprocAttr, KT w, KI, hw.KF, htm]) ?_
      repeat with_reducible (first | refine E0 ?_ | refine E1 ?_ | refine E2 ?_ | refine E3 ?_ | refine E4 ?_ | refine E5 (by decide) ?_ | refine E6 ?_ | refine E7 ?_ | refine E8 ?_ | refine E9 ?_ | refine Ea ?_ | refine Eb ?_ | refine Ec ?_ | refine Ed ?_)
      refine W_region fun K hK => ?_
      simp only [KA, KB, KP, KQ, KM, simprocAttr, KT w, KI, hw.KF, htm, t8, e1]
      refine hK _ _ ?_
      clear hK
      clear K
      refine ⟨RT.length - (j + 1), by omega, _, j + 1, rfl, rfl, rfl, by omega, ?_⟩
      simp only [KA, KP, KQ, simprocAttr, KT w, KI, hw.KF, htm, t1, t3, Int.natCast_add, A3z]
    | some r =>
      rw [show optI (some r) = (r : Int) from rfl] at hro
      obtain ⟨s, hs, hs0⟩ := hroot r (List.mem_of_getElem? ho)
      have hrS : r < SL.length := (List.getElem?_eq_some_iff.1 hs).1
      have hrow : (SL.map slCan)[r]? = some (slCan s) := by rw [List.getElem?_map, hs]; rfl
      have := hneg r s hs
      have hmx : max s.refs 0 = s.refs := by omega
      simp only [slCan, slC, hmx] at hrow
      have h1 : ¬ (r : Int) = -1 := by omega
      have h2 : ¬ (r : Int) < 0 := by omega
      have h3 : ¬ (r : Int) ≥ (SL.length : Int) := by omega
      have h4 : (r : Int) < (SL.length : Int) := by omega
      refine W_regionD [[], [0], [], [1, 0, 2], [3, 1, 0, 2], [4, 3, 1, 0, 2], [5, 4, 3, 1, 0, 2], [6, 5, 4, 3, 1, 0, 2], [7, 6, 5, 4, 3, 1, 0, 2], [6, 5, 4, 3, 1, 0, 2], [8, 7, 6, 5, 4, 3, 1, 0, 2, 9], [10, 8, 7, 6, 5, 4, 3, 1, 0, 2, 9], [11, 10, 8, 7, 6, 5, 4, 3, 1, 0, 2, 9], [12, 11, 10, 8, 7, 6, 5, 4, 3, 1, 0, 2, 9], [13, 12, 11, 10, 8, 7, 6, 5, 4, 3, 1, 0, 2, 9], [14, 13, 12, 11, 10, 8, 7, 6, 5, 4, 3, 1, 0, 2, 9], [13, 12, 11, 10, 8, 7, 6, 5, 4, 3, 1, 0, 2, 9], [15, 14, 13, 12, 11, 10, 8, 7, 6, 5, 4, 3, 1, 0, 2, 9, 16], [17, 15, 14, 13, 12, 11, 10, 8, 7, 6, 5, 4, 3, 1, 0, 2, 9, 16], [13, 12, 11, 10, 8, 7, 6, 5, 4, 3, 1, 0, 2, 9], [18, 17, 15, 14, 13, 12, 11, 10, 8, 7, 6, 5, 4, 3, 1, 0, 2, 9, 16, 19], [13, 12, 11, 10, 8, 7, 6, 5, 4, 3, 1, 0, 2, 9, 20, 18, 17, 15, 14, 16, 19], [21, 13, 12, 11, 10, 8, 7, 6, 5, 4, 3, 1, 0, 2, 9, 20, 18, 17, 15, 14, 16, 19], [22, 21, 13, 12, 11, 10, 8, 7, 6, 5, 4, 3, 1, 0, 2, 9, 20, 18, 17, 15, 14, 16, 19], [23, 22, 21, 13, 12, 11, 10, 8, 7, 6, 5, 4, 3, 1, 0, 2, 9, 20, 18, 17, 15, 14, 16, 19], [22, 21, 13, 12, 11, 10, 8, 7, 6, 5, 4, 3, 1, 0, 2, 9, 20, 18, 17, 15, 14, 16, 19], [25, 22, 21, 13, 12, 11, 10, 8, 7, 6, 5, 4, 3, 1, 0, 2, 9, 20, 18, 17, 15, 14, 16, 19], [22, 21, 13, 12, 11, 10, 8, 7, 6, 5, 4, 3, 1, 0, 2, 9, 20, 18, 17, 15, 14, 16, 19], [26, 25, 22, 21, 13, 12, 11, 10, 8, 7, 6, 5, 4, 3, 1, 0, 2, 9, 20, 18, 17, 15, 14, 16, 19, 27], [28, 26, 25, 22, 21, 13, 12, 11, 10, 8, 7, 6, 5, 4, 3, 1, 0, 2, 9, 20, 18, 17, 15, 14, 16, 19, 27], [24, 23, 22, 21, 13, 12, 11, 10, 8, 7, 6, 5, 4, 3, 1, 0, 2, 9, 20, 18, 17, 15, 14, 16, 19, 29, 28, 26, 25, 27], [30, 24, 23, 22, 21, 13, 12, 11, 10, 8, 7, 6, 5, 4, 3, 1, 0, 2, 9, 20, 18, 17, 15, 14, 16, 19, 29, 28, 26, 25, 27], [31, 30, 24, 23, 22, 21, 13, 12, 11, 10, 8, 7, 6, 5, 4, 3, 1, 0, 2, 9, 20, 18, 17, 15, 14, 16, 19, 29, 28, 26, 25, 27], [32, 31, 30, 24, 23, 22, 21, 13, 12, 11, 10, 8, 7, 6, 5, 4, 3, 1, 0, 2, 9, 20, 18, 17, 15, 14, 16, 19, 29, 28, 26, 25, 27], [22, 21, 13, 12, 11, 10, 8, 7, 6, 5, 4, 3, 1, 0, 2, 9, 20, 18, 17, 15, 14, 16, 19, 33, 32, 31, 30, 24, 23, 29, 28, 26, 25, 27], [6, 5, 4, 3, 1, 0, 2, 34, 22, 21, 13, 12, 11, 10, 8, 7, 9, 20, 18, 17, 15, 14, 16, 19, 33, 32, 31, 30, 24, 23, 29, 28, 26, 25, 27]] (by decide +kernel) (by decide +kernel) (by decide +kernel) fun K hK => ?_
      simp only [KA, KB, KP, KQ, KM, simprocAttr, KT w, KI, hw.KF, A58, A59, A5a, A5b, A5c, A5d, A5e, A5f, A5g, A5h, KX, Foot.big, A5i, opP, rfoot, refsO, refs, wfoot, A5j, A5k, noisyOk, pairOk, Foot.isQuiet, Foot.apart, Ft.apart, Foot.none, A5l, A5m, A48, A49, A5n, A5o, A5p, A5q, Nat.reduceBEq, htm, t1, t3, t8, g0, hro, hj0, hjl, hrl, h1, h2, h3, h4, hs0, hrow, hsl]
      refine hK _ _ ?_
      clear hK
      clear K
      repeat with_reducible (first | refine E0 ?_ | refine E1 ?_ | refine E2 ?_ | refine E3 ?_ | refine E4 ?_ | refine E5 (by decide) ?_ | refine E6 ?_ | refine E7 ?_ | refine E8 ?_ | refine E9 ?_ | refine Ea ?_ | refine Eb ?_ | refine Ec ?_ | refine Ed ?_)
      refine W_condF (by simp only [KA, KP, KQ, simprocAttr, KT w, KI, hw.KF, htm]) ?_
      repeat with_reducible (first | refine E0 ?_ | refine E1 ?_ | refine E2 ?_ | refine E3 ?_ | refine E4 ?_ | refine E5 (by decide) ?_ | refine E6 ?_ | refine E7 ?_ | refine E8 ?_ | refine E9 ?_ | refine Ea ?_ | refine Eb ?_ | refine Ec ?_ | refine Ed ?_)
      refine W_region fun K hK => ?_
      simp only [KA, KB, KP, KQ, KM, simprocAttr, KT w, KI, hw.KF, htm, t8, e1]
      refine hK _ _ ?_
      clear hK
      clear K
      refine ⟨RT.length - (j + 1), by omega, _, j + 1, rfl, rfl, rfl, by omega, ?_⟩
      simp only [KA, KP, KQ, simprocAttr, KT w, KI, hw.KF, htm, t1, t3, Int.natCast_add, A3z]
  have hin : i < SL.length := by omega
  obtain ⟨s, hs⟩ : ∃ s, SL[i]? = some s := ⟨_, List.getElem?_eq_getElem hin⟩
  have hs0 := hneg i s hs
  have hkl := (hkb i s hs).1
  have hkn := ks_len s.kids
  have hrow : (SL.map slCan)[i]? = some (slCan s) := by rw [List.getElem?_map, hs]; rfl
  have hmx : max s.refs 0 = s.refs := by omega
  have hi0 : ¬ (i : Int) < 0 := by omega
  have e1 : IntKind.i64.wrap ((i : Int) + 1) = (i : Int) + 1 := i64_in _ (by omega)
  have hh42 : ∀ (j : Nat) (s' : Sl), j < i → SL[j]? = some s' → s.refs > 0 → s'.refs > 0 → PC (cfg w) 42 [.agg (slCan s), .agg (slCan s')] (.bool false) := fun j s' hj hs' h1 h2 => by
    have := holds42g hw s s' hkl (hkb j s' hs').1
    have hne : ¬ s.key = s'.key := fun h => by
      have := hap i j s s' hs hs' (by omega) (by omega) h
      omega
    rw [decide_eq_false hne] at this
    exact this
  have hnr := (SlRow.can s).nrm.1
  simp only [slCan, slC, hmx] at hrow hh42 hnr
  refine W_region fun K hK => ?_
  simp only [KA, KB, KP, KQ, KM, simprocAttr, KT w, KI, hw.KF, htm, t3, t4, hil]
  refine hK _ _ ?_
  clear hK
  clear K
  repeat with_reducible (first | refine E0 ?_ | refine E1 ?_ | refine E2 ?_ | refine E3 ?_ | refine E4 ?_ | refine E5 (by decide) ?_ | refine E6 ?_ | refine E7 ?_ | refine E8 ?_ | refine E9 ?_ | refine Ea ?_ | refine Eb ?_ | refine Ec ?_ | refine Ed ?_)
  refine W_condT (by simp only [KA, KP, KQ, simprocAttr, KT w, KI, hw.KF, htm]) ?_
  repeat with_reducible (first | refine E0 ?_ | refine E1 ?_ | refine E2 ?_ | refine E3 ?_ | refine E4 ?_ | refine E5 (by decide) ?_ | refine E6 ?_ | refine E7 ?_ | refine E8 ?_ | refine E9 ?_ | refine Ea ?_ | refine Eb ?_ | refine Ec ?_ | refine Ed ?_)
  refine W_region fun K hK => ?_
  simp only [KA, KB, KP, KQ, KM, simprocAttr, KT w, KI, hw.KF, htm, t1, t4, g0, hrow, hsl, hi0, hil, hok, hb, A3p, splice]
  refine hK _ _ ?_
  clear hK
  clear K
  repeat with_reducible (first | refine E0 ?_ | refine E1 ?_ | refine E2 ?_ | refine E3 ?_ | refine E4 ?_ | refine E5 (by decide) ?_ | refine E6 ?_ | refine E7 ?_ | refine E8 ?_ | refine E9 ?_ | refine Ea ?_ | refine Eb ?_ | refine Ec ?_ | refine Ed ?_)
  have gN : ∀ X, (T.push X).get T.n = some X := fun X => St.get_pushe
  have gO : ∀ X, (T.push X).get 0 = T.get 0 := fun X => St.get_pushn (by omega)
  have okN : ∀ X, (T.push X).ok := fun X => St.ok_push hok
  have bN : ∀ X, (T.push X).base = 0 := fun X => by rw [St.pushB]; exact hb
  have nN : ∀ X, (T.push X).n = T.n + 1 := fun X => St.pushN _ _
  generalize hTN : T.n = TN at *
  by_cases hz : s.refs = 0
  · have hsz := hzero i s hs hz
    have hC : s.fs = fs0 ∧ s.kids = [] := by rw [hsz]; exact ⟨rfl, rfl⟩
    have hng : ¬ (s.refs < 0) := by omega
    have hgt : ¬ (s.refs > 0) := by omega
    have hkz : ks s.kids = [] := by rw [hC.2]; rfl
    have f1 : s.fs.kind = [] := by rw [hC.1]; rfl
    have f2 : s.fs.named = false := by rw [hC.1]; rfl
    have f3 : s.fs.field = [] := by rw [hC.1]; rfl
    have f4 : s.fs.frm = 0 := by rw [hC.1]; rfl
    have f5 : s.fs.to = 0 := by rw [hC.1]; rfl
    have f6 : s.fs.bad = 0 := by rw [hC.1]; rfl
    refine W_region fun K hK => ?_
    simp only [KA, KB, KP, KQ, KM, simprocAttr, KT w, KI, hw.KF, htm, gN, okN, bN, hng, hgt, hz, hkz, f1, f2, f3, f4, f5, f6, hP20, splice]
    refine hK _ _ ?_
    clear hK
    clear K
    repeat with_reducible (first | refine E0 ?_ | refine E1 ?_ | refine E2 ?_ | refine E3 ?_ | refine E4 ?_ | refine E5 (by decide) ?_ | refine E6 ?_ | refine E7 ?_ | refine E8 ?_ | refine E9 ?_ | refine Ea ?_ | refine Eb ?_ | refine Ec ?_ | refine Ed ?_)
    refine W_condF (by simp only [KA, KP, KQ, simprocAttr, KT w, KI, hw.KF, htm]) ?_
    repeat with_reducible (first | refine E0 ?_ | refine E1 ?_ | refine E2 ?_ | refine E3 ?_ | refine E4 ?_ | refine E5 (by decide) ?_ | refine E6 ?_ | refine E7 ?_ | refine E8 ?_ | refine E9 ?_ | refine Ea ?_ | refine Eb ?_ | refine Ec ?_ | refine Ed ?_)
    refine W_region fun K hK => ?_
    simp only [KA, KB, KP, KQ, KM, simprocAttr, KT w, KI, hw.KF, htm]
    refine hK _ _ ?_
    clear hK
    clear K
    repeat with_reducible (first | refine E0 ?_ | refine E1 ?_ | refine E2 ?_ | refine E3 ?_ | refine E4 ?_ | refine E5 (by decide) ?_ | refine E6 ?_ | refine E7 ?_ | refine E8 ?_ | refine E9 ?_ | refine Ea ?_ | refine Eb ?_ | refine Ec ?_ | refine Ed ?_)
    refine W_loop (fun k0 fr T' => ∃ (tm : List AV) (k : Nat), fr = ⟨tm, [], none, 29⟩ ∧ T' = T.push (.row [.str s.fs.kind, .bool s.fs.named, .str s.fs.field, .int .i64 s.fs.frm, .int .i64 s.fs.to, .int .i64 s.fs.bad, .nils, .vec (ks s.kids), .int .i64 s.refs, .int .i64 (optI s.next)] false) ∧ k0 = s.kids.length - k ∧ k ≤ s.kids.length ∧
        tm.length = 172 ∧ tget tm 1 = .ptr 0 0 ∧ tget tm 3 = .int .i64 (SL.length : Nat) ∧ tget tm 4 = .int .i64 (i : Nat) ∧ tget tm 5 = .ptr TN 0 ∧ tget tm 6 = .int .i64 (k : Nat)) s.kids.length
      ⟨_, 0, rfl, (by first | rfl | simp only [f1, f2, f3, f4, f5, f6, hkz, hz]), rfl, Nat.zero_le _, ?_⟩ ?_
    · simp only [KA, KP, KQ, simprocAttr, KT w, KI, hw.KF, htm, t1, t3, t4, Int.ofNat_zero]
    clear htm t1 t3 t4 tm
    rintro k0 fr T' ⟨tm, k, rfl, rfl, rfl, hk, htm, t1, t3, t4, t5, t6⟩
    repeat with_reducible (first | refine E0 ?_ | refine E1 ?_ | refine E2 ?_ | refine E3 ?_ | refine E4 ?_ | refine E5 (by decide) ?_ | refine E6 ?_ | refine E7 ?_ | refine E8 ?_ | refine E9 ?_ | refine Ea ?_ | refine Eb ?_ | refine Ec ?_ | refine Ed ?_)
    by_cases hkk : (k : Int) < (s.kids.length : Int)
    case neg =>
      refine W_region fun K hK => ?_
      simp only [KA, KB, KP, KQ, KM, simprocAttr, KT w, KI, hw.KF, htm, t5, t6, gN, hkn, hkk]
      refine hK _ _ ?_
      clear hK
      clear K
      repeat with_reducible (first | refine E0 ?_ | refine E1 ?_ | refine E2 ?_ | refine E3 ?_ | refine E4 ?_ | refine E5 (by decide) ?_ | refine E6 ?_ | refine E7 ?_ | refine E8 ?_ | refine E9 ?_ | refine Ea ?_ | refine Eb ?_ | refine Ec ?_ | refine Ed ?_)
      refine W_condF (by simp only [KA, KP, KQ, simprocAttr, KT w, KI, hw.KF, htm]) ?_
      repeat with_reducible (first | refine E0 ?_ | refine E1 ?_ | refine E2 ?_ | refine E3 ?_ | refine E4 ?_ | refine E5 (by decide) ?_ | refine E6 ?_ | refine E7 ?_ | refine E8 ?_ | refine E9 ?_ | refine Ea ?_ | refine Eb ?_ | refine Ec ?_ | refine Ed ?_)
      refine W_region fun K hK => ?_
      simp only [KA, KB, KP, KQ, KM, simprocAttr, KT w, KI, hw.KF, htm]
      refine hK _ _ ?_
      clear hK
      clear K
      repeat with_reducible (first | refine E0 ?_ | refine E1 ?_ | refine E2 ?_ | refine E3 ?_ | refine E4 ?_ | refine E5 (by decide) ?_ | refine E6 ?_ | refine E7 ?_ | refine E8 ?_ | refine E9 ?_ | refine Ea ?_ | refine Eb ?_ | refine Ec ?_ | refine Ed ?_)
      refine W_loop (fun k0 fr T' => ∃ (tm : List AV) (k : Nat), fr = ⟨tm, [], none, 29⟩ ∧ T' = T.push (.row [.str s.fs.kind, .bool s.fs.named, .str s.fs.field, .int .i64 s.fs.frm, .int .i64 s.fs.to, .int .i64 s.fs.bad, .nils, .vec (ks s.kids), .int .i64 s.refs, .int .i64 (optI s.next)] false) ∧ k0 = i - k ∧ k ≤ i ∧
          tm.length = 172 ∧ tget tm 1 = .ptr 0 0 ∧ tget tm 3 = .int .i64 (SL.length : Nat) ∧ tget tm 4 = .int .i64 (i : Nat) ∧ tget tm 5 = .ptr TN 0 ∧ tget tm 7 = .int .i64 (k : Nat)) i
        ⟨_, 0, rfl, rfl, rfl, Nat.zero_le _, ?_⟩ ?_
      · simp only [KA, KP, KQ, simprocAttr, KT w, KI, hw.KF, htm, t1, t3, t4, t5, Int.ofNat_zero]
      clear htm t1 t3 t4 t5 t6 tm
      rintro k0 fr T' ⟨tm, m, rfl, rfl, rfl, hm, htm, t1, t3, t4, t5, t7⟩
      repeat with_reducible (first | refine E0 ?_ | refine E1 ?_ | refine E2 ?_ | refine E3 ?_ | refine E4 ?_ | refine E5 (by decide) ?_ | refine E6 ?_ | refine E7 ?_ | refine E8 ?_ | refine E9 ?_ | refine Ea ?_ | refine Eb ?_ | refine Ec ?_ | refine Ed ?_)
      by_cases hmi : (m : Int) < (i : Int)
      case neg =>
        refine W_region fun K hK => ?_
        simp only [KA, KB, KP, KQ, KM, simprocAttr, KT w, KI, hw.KF, htm, t4, t7, hmi]
        refine hK _ _ ?_
        clear hK
        clear K
        repeat with_reducible (first | refine E0 ?_ | refine E1 ?_ | refine E2 ?_ | refine E3 ?_ | refine E4 ?_ | refine E5 (by decide) ?_ | refine E6 ?_ | refine E7 ?_ | refine E8 ?_ | refine E9 ?_ | refine Ea ?_ | refine Eb ?_ | refine Ec ?_ | refine Ed ?_)
        refine W_condF (by simp only [KA, KP, KQ, simprocAttr, KT w, KI, hw.KF, htm]) ?_
        repeat with_reducible (first | refine E0 ?_ | refine E1 ?_ | refine E2 ?_ | refine E3 ?_ | refine E4 ?_ | refine E5 (by decide) ?_ | refine E6 ?_ | refine E7 ?_ | refine E8 ?_ | refine E9 ?_ | refine Ea ?_ | refine Eb ?_ | refine Ec ?_ | refine Ed ?_)
        refine W_region fun K hK => ?_
        simp only [KA, KB, KP, KQ, KM, simprocAttr, KT w, KI, hw.KF, htm, t4, e1]
        refine hK _ _ ?_
        clear hK
        clear K
        refine ⟨SL.length - (i + 1), by omega, _, i + 1, rfl, okN _, bN _, by rw [nN]; omega, by rw [gO]; exact g0, rfl, by omega, ?_⟩
        simp only [KA, KP, KQ, simprocAttr, KT w, KI, hw.KF, htm, t1, t3, Int.natCast_add, A3z]
      obtain ⟨s', hs'⟩ : ∃ s', SL[m]? = some s' := ⟨_, List.getElem?_eq_getElem (by omega)⟩
      have hs'0 := hneg m s' hs'
      have hmx' : max s'.refs 0 = s'.refs := by omega
      have hrow' : (SL.map slCan)[m]? = some (slCan s') := by rw [List.getElem?_map, hs']; rfl
      have hh := hh42 m s' (by omega) hs'
      have hnr' := (SlRow.can s').nrm.1
      simp only [slCan, slC, hmx'] at hrow' hh hnr'
      have hm0 : ¬ (m : Int) < 0 := by omega
      have hmS : (m : Int) < (SL.length : Int) := by omega
      have e2 : IntKind.i64.wrap ((m : Int) + 1) = (m : Int) + 1 := i64_in _ (by omega)
      refine W_region fun K hK => ?_
      simp only [KA, KB, KP, KQ, KM, simprocAttr, KT w, KI, hw.KF, htm, t4, t7, hmi]
      refine hK _ _ ?_
      clear hK
      clear K
      repeat with_reducible (first | refine E0 ?_ | refine E1 ?_ | refine E2 ?_ | refine E3 ?_ | refine E4 ?_ | refine E5 (by decide) ?_ | refine E6 ?_ | refine E7 ?_ | refine E8 ?_ | refine E9 ?_ | refine Ea ?_ | refine Eb ?_ | refine Ec ?_ | refine Ed ?_)
      refine W_condT (by simp only [KA, KP, KQ, simprocAttr, KT w, KI, hw.KF, htm]) ?_
      repeat with_reducible (first | refine E0 ?_ | refine E1 ?_ | refine E2 ?_ | refine E3 ?_ | refine E4 ?_ | refine E5 (by decide) ?_ | refine E6 ?_ | refine E7 ?_ | refine E8 ?_ | refine E9 ?_ | refine Ea ?_ | refine Eb ?_ | refine Ec ?_ | refine Ed ?_)
      by_cases ha : s.refs > 0
      · by_cases hb' : s'.refs > 0
        · have hhc := hh ha hb'
          refine W_regionD [[], [0], [1, 0], [2, 1, 0], [3, 2, 1, 0], [4, 3, 2, 1, 0], [3, 2, 1, 0], [5, 4, 3, 2, 1, 0, 6], [7, 5, 4, 3, 2, 1, 0, 6], [8, 7, 5, 4, 3, 2, 1, 0, 6], [9, 8, 7, 5, 4, 3, 2, 1, 0, 6], [3, 2, 1, 0, 10, 9, 8, 7, 5, 4, 6], [11, 3, 2, 1, 0, 10, 9, 8, 7, 5, 4, 6], [12, 11, 3, 2, 1, 0, 10, 9, 8, 7, 5, 4, 6], [12, 11, 3, 2, 1, 0, 10, 9, 8, 7, 5, 4, 6], [14, 12, 11, 3, 2, 1, 0, 10, 9, 8, 7, 5, 4, 6], [12, 11, 3, 2, 1, 0, 10, 9, 8, 7, 5, 4, 6], [15, 14, 12, 11, 3, 2, 1, 0, 10, 9, 8, 7, 5, 4, 6, 16], [17, 15, 14, 12, 11, 3, 2, 1, 0, 10, 9, 8, 7, 5, 4, 6, 16], [13, 12, 11, 3, 2, 1, 0, 10, 9, 8, 7, 5, 4, 6, 18, 17, 15, 14, 16], [12, 11, 3, 2, 1, 0, 10, 9, 8, 7, 5, 4, 6, 19, 13, 18, 17, 15, 14, 16]] (by decide +kernel) (by decide +kernel) (by decide +kernel) fun K hK => ?_
          simp only [KA, KB, KP, KQ, KM, simprocAttr, KT w, KI, hw.KF, A58, A59, A5a, A5b, A5c, A5d, A5e, A5f, A5g, A5h, KX, Foot.big, A5i, opP, rfoot, refsO, refs, wfoot, A5j, A5k, noisyOk, pairOk, Foot.isQuiet, Foot.apart, Ft.apart, Foot.none, A5l, A5m, A48, A49, A5n, A5o, A5p, A5q, Nat.reduceBEq, htm, t1, t4, t5, t7, gN, gO, g0, hm0, hmS, hsl, hrow', ha, hb', hhc, hnr, hnr']
          refine hK _ _ ?_
          clear hK
          clear K
          repeat with_reducible (first | refine E0 ?_ | refine E1 ?_ | refine E2 ?_ | refine E3 ?_ | refine E4 ?_ | refine E5 (by decide) ?_ | refine E6 ?_ | refine E7 ?_ | refine E8 ?_ | refine E9 ?_ | refine Ea ?_ | refine Eb ?_ | refine Ec ?_ | refine Ed ?_)
          refine W_condF (by simp only [KA, KP, KQ, simprocAttr, KT w, KI, hw.KF, htm]) ?_
          repeat with_reducible (first | refine E0 ?_ | refine E1 ?_ | refine E2 ?_ | refine E3 ?_ | refine E4 ?_ | refine E5 (by decide) ?_ | refine E6 ?_ | refine E7 ?_ | refine E8 ?_ | refine E9 ?_ | refine Ea ?_ | refine Eb ?_ | refine Ec ?_ | refine Ed ?_)
          refine W_region fun K hK => ?_
          simp only [KA, KB, KP, KQ, KM, simprocAttr, KT w, KI, hw.KF, htm, t7, e2]
          refine hK _ _ ?_
          clear hK
          clear K
          refine ⟨i - (m + 1), by omega, _, m + 1, rfl, rfl, rfl, by omega, ?_⟩
          simp only [KA, KP, KQ, simprocAttr, KT w, KI, hw.KF, htm, t1, t3, t4, t5, Int.natCast_add, A3z]
        · refine W_regionD [[], [0], [1, 0], [2, 1, 0], [3, 2, 1, 0], [4, 3, 2, 1, 0], [3, 2, 1, 0], [5, 4, 3, 2, 1, 0, 6], [7, 5, 4, 3, 2, 1, 0, 6], [8, 7, 5, 4, 3, 2, 1, 0, 6], [9, 8, 7, 5, 4, 3, 2, 1, 0, 6], [3, 2, 1, 0, 10, 9, 8, 7, 5, 4, 6], [11, 3, 2, 1, 0, 10, 9, 8, 7, 5, 4, 6], [12, 11, 3, 2, 1, 0, 10, 9, 8, 7, 5, 4, 6], [12, 11, 3, 2, 1, 0, 10, 9, 8, 7, 5, 4, 6], [14, 12, 11, 3, 2, 1, 0, 10, 9, 8, 7, 5, 4, 6], [12, 11, 3, 2, 1, 0, 10, 9, 8, 7, 5, 4, 6], [15, 14, 12, 11, 3, 2, 1, 0, 10, 9, 8, 7, 5, 4, 6, 16], [17, 15, 14, 12, 11, 3, 2, 1, 0, 10, 9, 8, 7, 5, 4, 6, 16], [13, 12, 11, 3, 2, 1, 0, 10, 9, 8, 7, 5, 4, 6, 18, 17, 15, 14, 16], [12, 11, 3, 2, 1, 0, 10, 9, 8, 7, 5, 4, 6, 19, 13, 18, 17, 15, 14, 16]] (by decide +kernel) (by decide +kernel) (by decide +kernel) fun K hK => ?_
          simp only [KA, KB, KP, KQ, KM, simprocAttr, KT w, KI, hw.KF, A58, A59, A5a, A5b, A5c, A5d, A5e, A5f, A5g, A5h, KX, Foot.big, A5i, opP, rfoot, refsO, refs, wfoot, A5j, A5k, noisyOk, pairOk, Foot.isQuiet, Foot.apart, Ft.apart, Foot.none, A5l, A5m, A48, A49, A5n, A5o, A5p, A5q, Nat.reduceBEq, htm, t1, t4, t5, t7, gN, gO, g0, hm0, hmS, hsl, hrow', ha, hb']
          refine hK _ _ ?_
          clear hK
          clear K
          repeat with_reducible (first | refine E0 ?_ | refine E1 ?_ | refine E2 ?_ | refine E3 ?_ | refine E4 ?_ | refine E5 (by decide) ?_ | refine E6 ?_ | refine E7 ?_ | refine E8 ?_ | refine E9 ?_ | refine Ea ?_ | refine Eb ?_ | refine Ec ?_ | refine Ed ?_)
          refine W_condF (by simp only [KA, KP, KQ, simprocAttr, KT w, KI, hw.KF, htm]) ?_
          repeat with_reducible (first | refine E0 ?_ | refine E1 ?_ | refine E2 ?_ | refine E3 ?_ | refine E4 ?_ | refine E5 (by decide) ?_ | refine E6 ?_ | refine E7 ?_ | refine E8 ?_ | refine E9 ?_ | refine Ea ?_ | refine Eb ?_ | refine Ec ?_ | refine Ed ?_)
          refine W_region fun K hK => ?_
          simp only [KA, KB, KP, KQ, KM, simprocAttr, KT w, KI, hw.KF, htm, t7, e2]
          refine hK _ _ ?_
          clear hK
          clear K
          refine ⟨i - (m + 1), by omega, _, m + 1, rfl, rfl, rfl, by omega, ?_⟩
          simp only [KA, KP, KQ, simprocAttr, KT w, KI, hw.KF, htm, t1, t3, t4, t5, Int.natCast_add, A3z]
      · refine W_regionD [[], [0], [1, 0], [2, 1, 0], [3, 2, 1, 0], [4, 3, 2, 1, 0], [3, 2, 1, 0], [5, 4, 3, 2, 1, 0, 6], [7, 5, 4, 3, 2, 1, 0, 6], [8, 7, 5, 4, 3, 2, 1, 0, 6], [9, 8, 7, 5, 4, 3, 2, 1, 0, 6], [3, 2, 1, 0, 10, 9, 8, 7, 5, 4, 6], [11, 3, 2, 1, 0, 10, 9, 8, 7, 5, 4, 6], [12, 11, 3, 2, 1, 0, 10, 9, 8, 7, 5, 4, 6], [12, 11, 3, 2, 1, 0, 10, 9, 8, 7, 5, 4, 6], [14, 12, 11, 3, 2, 1, 0, 10, 9, 8, 7, 5, 4, 6], [12, 11, 3, 2, 1, 0, 10, 9, 8, 7, 5, 4, 6], [15, 14, 12, 11, 3, 2, 1, 0, 10, 9, 8, 7, 5, 4, 6, 16], [17, 15, 14, 12, 11, 3, 2, 1, 0, 10, 9, 8, 7, 5, 4, 6, 16], [13, 12, 11, 3, 2, 1, 0, 10, 9, 8, 7, 5, 4, 6, 18, 17, 15, 14, 16], [12, 11, 3, 2, 1, 0, 10, 9, 8, 7, 5, 4, 6, 19, 13, 18, 17, 15, 14, 16]] (by decide +kernel) (by decide +kernel) (by decide +kernel) fun K hK => ?_
        simp only [KA, KB, KP, KQ, KM, simprocAttr, KT w, KI, hw.KF, A58, A59, A5a, A5b, A5c, A5d, A5e, A5f, A5g, A5h, KX, Foot.big, A5i, opP, rfoot, refsO, refs, wfoot, A5j, A5k, noisyOk, pairOk, Foot.isQuiet, Foot.apart, Ft.apart, Foot.none, A5l, A5m, A48, A49, A5n, A5o, A5p, A5q, Nat.reduceBEq, htm, t1, t4, t5, t7, gN, gO, g0, hm0, hmS, hsl, hrow', ha]
        refine hK _ _ ?_
        clear hK
        clear K
        repeat with_reducible (first | refine E0 ?_ | refine E1 ?_ | refine E2 ?_ | refine E3 ?_ | refine E4 ?_ | refine E5 (by decide) ?_ | refine E6 ?_ | refine E7 ?_ | refine E8 ?_ | refine E9 ?_ | refine Ea ?_ | refine Eb ?_ | refine Ec ?_ | refine Ed ?_)
        refine W_condF (by simp only [KA, KP, KQ, simprocAttr, KT w, KI, hw.KF, htm]) ?_
        repeat with_reducible (first | refine E0 ?_ | refine E1 ?_ | refine E2 ?_ | refine E3 ?_ | refine E4 ?_ | refine E5 (by decide) ?_ | refine E6 ?_ | refine E7 ?_ | refine E8 ?_ | refine E9 ?_ | refine Ea ?_ | refine Eb ?_ | refine Ec ?_ | refine Ed ?_)
        refine W_region fun K hK => ?_
        simp only [KA, KB, KP, KQ, KM, simprocAttr, KT w, KI, hw.KF, htm, t7, e2]
        refine hK _ _ ?_
        clear hK
        clear K
        refine ⟨i - (m + 1), by omega, _, m + 1, rfl, rfl, rfl, by omega, ?_⟩
        simp only [KA, KP, KQ, simprocAttr, KT w, KI, hw.KF, htm, t1, t3, t4, t5, Int.natCast_add, A3z]
    obtain ⟨q, hq⟩ : ∃ q, s.kids[k]? = some q := ⟨_, List.getElem?_eq_getElem (by omega)⟩
    obtain ⟨s', hs', hs'0⟩ := hkid i q s hs (List.mem_of_getElem? hq)
    have hqS : q < SL.length := (List.getElem?_eq_some_iff.1 hs').1
    have hs'1 := hneg q s' hs'
    have hmx' : max s'.refs 0 = s'.refs := by omega
    have hrow' : (SL.map slCan)[q]? = some (slCan s') := by rw [List.getElem?_map, hs']; rfl
    simp only [slCan, slC, hmx'] at hrow'
    have hkq : (ks s.kids)[k]? = some [.int .i64 (q : Int)] := by rw [ks_get, hq]; rfl
    have hk0 : ¬ (k : Int) < 0 := by omega
    have h2 : ¬ (q : Int) < 0 := by omega
    have h3 : ¬ (q : Int) ≥ (SL.length : Int) := by omega
    have h4 : (q : Int) < (SL.length : Int) := by omega
    have e2 : IntKind.i64.wrap ((k : Int) + 1) = (k : Int) + 1 := i64_in _ (by omega)
    refine W_region fun K hK => ?_
    simp only [KA, KB, KP, KQ, KM, simprocAttr, KT w, KI, hw.KF, htm, t5, t6, gN, hkn, hkk]
    refine hK _ _ ?_
    clear hK
    clear K
    repeat with_reducible (first | refine E0 ?_ | refine E1 ?_ | refine E2 ?_ | refine E3 ?_ | refine E4 ?_ | refine E5 (by decide) ?_ | refine E6 ?_ | refine E7 ?_ | refine E8 ?_ | refine E9 ?_ | refine Ea ?_ | refine Eb ?_ | refine Ec ?_ | refine Ed ?_)
    refine W_condT (by simp only [KA, KP, KQ, simprocAttr, KT w, KI, hw.KF, htm]) ?_
    repeat with_reducible (first | refine E0 ?_ | refine E1 ?_ | refine E2 ?_ | refine E3 ?_ | refine E4 ?_ | refine E5 (by decide) ?_ | refine E6 ?_ | refine E7 ?_ | refine E8 ?_ | refine E9 ?_ | refine Ea ?_ | refine Eb ?_ | refine Ec ?_ | refine Ed ?_)
    refine W_regionD [[], [0], [], [1, 0, 2], [3, 1, 0, 2], [4, 3, 1, 0, 2], [5, 4, 3, 1, 0, 2], [6, 5, 4, 3, 1, 0, 2], [7, 6, 5, 4, 3, 1, 0, 2], [6, 5, 4, 3, 1, 0, 2], [8, 7, 6, 5, 4, 3, 1, 0, 2, 9], [10, 8, 7, 6, 5, 4, 3, 1, 0, 2, 9], [6, 5, 4, 3, 1, 0, 2], [11, 10, 8, 7, 6, 5, 4, 3, 1, 0, 2, 9, 12], [6, 5, 4, 3, 1, 0, 2, 13, 11, 10, 8, 7, 9, 12], [14, 6, 5, 4, 3, 1, 0, 2, 13, 11, 10, 8, 7, 9, 12], [15, 14, 6, 5, 4, 3, 1, 0, 2, 13, 11, 10, 8, 7, 9, 12], [16, 15, 14, 6, 5, 4, 3, 1, 0, 2, 13, 11, 10, 8, 7, 9, 12], [15, 14, 6, 5, 4, 3, 1, 0, 2, 13, 11, 10, 8, 7, 9, 12], [18, 15, 14, 6, 5, 4, 3, 1, 0, 2, 13, 11, 10, 8, 7, 9, 12], [15, 14, 6, 5, 4, 3, 1, 0, 2, 13, 11, 10, 8, 7, 9, 12], [19, 18, 15, 14, 6, 5, 4, 3, 1, 0, 2, 13, 11, 10, 8, 7, 9, 12, 20], [21, 19, 18, 15, 14, 6, 5, 4, 3, 1, 0, 2, 13, 11, 10, 8, 7, 9, 12, 20], [17, 16, 15, 14, 6, 5, 4, 3, 1, 0, 2, 13, 11, 10, 8, 7, 9, 12, 22, 21, 19, 18, 20], [23, 17, 16, 15, 14, 6, 5, 4, 3, 1, 0, 2, 13, 11, 10, 8, 7, 9, 12, 22, 21, 19, 18, 20], [24, 23, 17, 16, 15, 14, 6, 5, 4, 3, 1, 0, 2, 13, 11, 10, 8, 7, 9, 12, 22, 21, 19, 18, 20], [25, 24, 23, 17, 16, 15, 14, 6, 5, 4, 3, 1, 0, 2, 13, 11, 10, 8, 7, 9, 12, 22, 21, 19, 18, 20], [15, 14, 6, 5, 4, 3, 1, 0, 2, 13, 11, 10, 8, 7, 9, 12, 26, 25, 24, 23, 17, 16, 22, 21, 19, 18, 20]] (by decide +kernel) (by decide +kernel) (by decide +kernel) fun K hK => ?_
    simp only [KA, KB, KP, KQ, KM, simprocAttr, KT w, KI, hw.KF, A58, A59, A5a, A5b, A5c, A5d, A5e, A5f, A5g, A5h, KX, Foot.big, A5i, opP, rfoot, refsO, refs, wfoot, A5j, A5k, noisyOk, pairOk, Foot.isQuiet, Foot.apart, Ft.apart, Foot.none, A5l, A5m, A48, A49, A5n, A5o, A5p, A5q, Nat.reduceBEq, htm, t1, t3, t5, t6, gN, gO, g0, hkq, hk0, hkk, hkn, h2, h3, h4, hs'0, hrow', hsl]
    refine hK _ _ ?_
    clear hK
    clear K
    repeat with_reducible (first | refine E0 ?_ | refine E1 ?_ | refine E2 ?_ | refine E3 ?_ | refine E4 ?_ | refine E5 (by decide) ?_ | refine E6 ?_ | refine E7 ?_ | refine E8 ?_ | refine E9 ?_ | refine Ea ?_ | refine Eb ?_ | refine Ec ?_ | refine Ed ?_)
    refine W_condF (by simp only [KA, KP, KQ, simprocAttr, KT w, KI, hw.KF, htm]) ?_
    repeat with_reducible (first | refine E0 ?_ | refine E1 ?_ | refine E2 ?_ | refine E3 ?_ | refine E4 ?_ | refine E5 (by decide) ?_ | refine E6 ?_ | refine E7 ?_ | refine E8 ?_ | refine E9 ?_ | refine Ea ?_ | refine Eb ?_ | refine Ec ?_ | refine Ed ?_)
    refine W_region fun K hK => ?_
    simp only [KA, KB, KP, KQ, KM, simprocAttr, KT w, KI, hw.KF, htm, t6, e2]
    refine hK _ _ ?_
    clear hK
    clear K
    refine ⟨s.kids.length - (k + 1), by omega, _, k + 1, rfl, rfl, rfl, by omega, ?_⟩
    simp only [KA, KP, KQ, simprocAttr, KT w, KI, hw.KF, htm, t1, t3, t4, t5, Int.natCast_add, A3z]
  · have hpos : s.refs > 0 := by omega
    have hng : ¬ (s.refs < 0) := by omega
    have hnx := hnext i s hs hz
    have hnx' : optI s.next = -1 := by rw [hnx]; rfl
    refine W_region fun K hK => ?_
    simp only [KA, KB, KP, KQ, KM, simprocAttr, KT w, KI, hw.KF, htm, gN, okN, bN, hng, hz, hpos, hnx', splice]
    refine hK _ _ ?_
    clear hK
    clear K
    repeat with_reducible (first | refine E0 ?_ | refine E1 ?_ | refine E2 ?_ | refine E3 ?_ | refine E4 ?_ | refine E5 (by decide) ?_ | refine E6 ?_ | refine E7 ?_ | refine E8 ?_ | refine E9 ?_ | refine Ea ?_ | refine Eb ?_ | refine Ec ?_ | refine Ed ?_)
    refine W_condF (by simp only [KA, KP, KQ, simprocAttr, KT w, KI, hw.KF, htm]) ?_
    repeat with_reducible (first | refine E0 ?_ | refine E1 ?_ | refine E2 ?_ | refine E3 ?_ | refine E4 ?_ | refine E5 (by decide) ?_ | refine E6 ?_ | refine E7 ?_ | refine E8 ?_ | refine E9 ?_ | refine Ea ?_ | refine Eb ?_ | refine Ec ?_ | refine Ed ?_)
    refine W_region fun K hK => ?_
    simp only [KA, KB, KP, KQ, KM, simprocAttr, KT w, KI, hw.KF, htm]
    refine hK _ _ ?_
    clear hK
    clear K
    repeat with_reducible (first | refine E0 ?_ | refine E1 ?_ | refine E2 ?_ | refine E3 ?_ | refine E4 ?_ | refine E5 (by decide) ?_ | refine E6 ?_ | refine E7 ?_ | refine E8 ?_ | refine E9 ?_ | refine Ea ?_ | refine Eb ?_ | refine Ec ?_ | refine Ed ?_)
    refine W_loop (fun k0 fr T' => ∃ (tm : List AV) (k : Nat), fr = ⟨tm, [], none, 29⟩ ∧ T' = T.push (.row [.str s.fs.kind, .bool s.fs.named, .str s.fs.field, .int .i64 s.fs.frm, .int .i64 s.fs.to, .int .i64 s.fs.bad, .nils, .vec (ks s.kids), .int .i64 s.refs, .int .i64 (optI s.next)] false) ∧ k0 = s.kids.length - k ∧ k ≤ s.kids.length ∧
        tm.length = 172 ∧ tget tm 1 = .ptr 0 0 ∧ tget tm 3 = .int .i64 (SL.length : Nat) ∧ tget tm 4 = .int .i64 (i : Nat) ∧ tget tm 5 = .ptr TN 0 ∧ tget tm 6 = .int .i64 (k : Nat)) s.kids.length
      ⟨_, 0, rfl, (by rw [hnx']), rfl, Nat.zero_le _, ?_⟩ ?_
    · simp only [KA, KP, KQ, simprocAttr, KT w, KI, hw.KF, htm, t1, t3, t4, Int.ofNat_zero]
    clear htm t1 t3 t4 tm
    rintro k0 fr T' ⟨tm, k, rfl, rfl, rfl, hk, htm, t1, t3, t4, t5, t6⟩
    repeat with_reducible (first | refine E0 ?_ | refine E1 ?_ | refine E2 ?_ | refine E3 ?_ | refine E4 ?_ | refine E5 (by decide) ?_ | refine E6 ?_ | refine E7 ?_ | refine E8 ?_ | refine E9 ?_ | refine Ea ?_ | refine Eb ?_ | refine Ec ?_ | refine Ed ?_)
    by_cases hkk : (k : Int) < (s.kids.length : Int)
    case neg =>
      refine W_region fun K hK => ?_
      simp only [KA, KB, KP, KQ, KM, simprocAttr, KT w, KI, hw.KF, htm, t5, t6, gN, hkn, hkk]
      refine hK _ _ ?_
      clear hK
      clear K
      repeat with_reducible (first | refine E0 ?_ | refine E1 ?_ | refine E2 ?_ | refine E3 ?_ | refine E4 ?_ | refine E5 (by decide) ?_ | refine E6 ?_ | refine E7 ?_ | refine E8 ?_ | refine E9 ?_ | refine Ea ?_ | refine Eb ?_ | refine Ec ?_ | refine Ed ?_)
      refine W_condF (by simp only [KA, KP, KQ, simprocAttr, KT w, KI, hw.KF, htm]) ?_
      repeat with_reducible (first | refine E0 ?_ | refine E1 ?_ | refine E2 ?_ | refine E3 ?_ | refine E4 ?_ | refine E5 (by decide) ?_ | refine E6 ?_ | refine E7 ?_ | refine E8 ?_ | refine E9 ?_ | refine Ea ?_ | refine Eb ?_ | refine Ec ?_ | refine Ed ?_)
      refine W_region fun K hK => ?_
      simp only [KA, KB, KP, KQ, KM, simprocAttr, KT w, KI, hw.KF, htm]
      refine hK _ _ ?_
      clear hK
      clear K
      repeat with_reducible (first | refine E0 ?_ | refine E1 ?_ | refine E2 ?_ | refine E3 ?_ | refine E4 ?_ | refine E5 (by decide) ?_ | refine E6 ?_ | refine E7 ?_ | refine E8 ?_ | refine E9 ?_ | refine Ea ?_ | refine Eb ?_ | refine Ec ?_ | refine Ed ?_)
      refine W_loop (fun k0 fr T' => ∃ (tm : List AV) (k : Nat), fr = ⟨tm, [], none, 29⟩ ∧ T' = T.push (.row [.str s.fs.kind, .bool s.fs.named, .str s.fs.field, .int .i64 s.fs.frm, .int .i64 s.fs.to, .int .i64 s.fs.bad, .nils, .vec (ks s.kids), .int .i64 s.refs, .int .i64 (optI s.next)] false) ∧ k0 = i - k ∧ k ≤ i ∧
          tm.length = 172 ∧ tget tm 1 = .ptr 0 0 ∧ tget tm 3 = .int .i64 (SL.length : Nat) ∧ tget tm 4 = .int .i64 (i : Nat) ∧ tget tm 5 = .ptr TN 0 ∧ tget tm 7 = .int .i64 (k : Nat)) i
        ⟨_, 0, rfl, rfl, rfl, Nat.zero_le _, ?_⟩ ?_
      · simp only [KA, KP, KQ, simprocAttr, KT w, KI, hw.KF, htm, t1, t3, t4, t5, Int.ofNat_zero]
      clear htm t1 t3 t4 t5 t6 tm
      rintro k0 fr T' ⟨tm, m, rfl, rfl, rfl, hm, htm, t1, t3, t4, t5, t7⟩
      repeat with_reducible (first | refine E0 ?_ | refine E1 ?_ | refine E2 ?_ | refine E3 ?_ | refine E4 ?_ | refine E5 (by decide) ?_ | refine E6 ?_ | refine E7 ?_ | refine E8 ?_ | refine E9 ?_ | refine Ea ?_ | refine Eb ?_ | refine Ec ?_ | refine Ed ?_)
      by_cases hmi : (m : Int) < (i : Int)
      case neg =>
        refine W_region fun K hK => ?_
        simp only [KA, KB, KP, KQ, KM, simprocAttr, KT w, KI, hw.KF, htm, t4, t7, hmi]
        refine hK _ _ ?_
        clear hK
        clear K
        repeat with_reducible (first | refine E0 ?_ | refine E1 ?_ | refine E2 ?_ | refine E3 ?_ | refine E4 ?_ | refine E5 (by decide) ?_ | refine E6 ?_ | refine E7 ?_ | refine E8 ?_ | refine E9 ?_ | refine Ea ?_ | refine Eb ?_ | refine Ec ?_ | refine Ed ?_)
        refine W_condF (by simp only [KA, KP, KQ, simprocAttr, KT w, KI, hw.KF, htm]) ?_
        repeat with_reducible (first | refine E0 ?_ | refine E1 ?_ | refine E2 ?_ | refine E3 ?_ | refine E4 ?_ | refine E5 (by decide) ?_ | refine E6 ?_ | refine E7 ?_ | refine E8 ?_ | refine E9 ?_ | refine Ea ?_ | refine Eb ?_ | refine Ec ?_ | refine Ed ?_)
        refine W_region fun K hK => ?_
        simp only [KA, KB, KP, KQ, KM, simprocAttr, KT w, KI, hw.KF, htm, t4, e1]
        refine hK _ _ ?_
        clear hK
        clear K
        refine ⟨SL.length - (i + 1), by omega, _, i + 1, rfl, okN _, bN _, by rw [nN]; omega, by rw [gO]; exact g0, rfl, by omega, ?_⟩
        simp only [KA, KP, KQ, simprocAttr, KT w, KI, hw.KF, htm, t1, t3, Int.natCast_add, A3z]
      obtain ⟨s', hs'⟩ : ∃ s', SL[m]? = some s' := ⟨_, List.getElem?_eq_getElem (by omega)⟩
      have hs'0 := hneg m s' hs'
      have hmx' : max s'.refs 0 = s'.refs := by omega
      have hrow' : (SL.map slCan)[m]? = some (slCan s') := by rw [List.getElem?_map, hs']; rfl
      have hh := hh42 m s' (by omega) hs'
      have hnr' := (SlRow.can s').nrm.1
      simp only [slCan, slC, hmx'] at hrow' hh hnr'
      have hm0 : ¬ (m : Int) < 0 := by omega
      have hmS : (m : Int) < (SL.length : Int) := by omega
      have e2 : IntKind.i64.wrap ((m : Int) + 1) = (m : Int) + 1 := i64_in _ (by omega)
      refine W_region fun K hK => ?_
      simp only [KA, KB, KP, KQ, KM, simprocAttr, KT w, KI, hw.KF, htm, t4, t7, hmi]
      refine hK _ _ ?_
      clear hK
      clear K
      repeat with_reducible (first | refine E0 ?_ | refine E1 ?_ | refine E2 ?_ | refine E3 ?_ | refine E4 ?_ | refine E5 (by decide) ?_ | refine E6 ?_ | refine E7 ?_ | refine E8 ?_ | refine E9 ?_ | refine Ea ?_ | refine Eb ?_ | refine Ec ?_ | refine Ed ?_)
      refine W_condT (by simp only [KA, KP, KQ, simprocAttr, KT w, KI, hw.KF, htm]) ?_
      repeat with_reducible (first | refine E0 ?_ | refine E1 ?_ | refine E2 ?_ | refine E3 ?_ | refine E4 ?_ | refine E5 (by decide) ?_ | refine E6 ?_ | refine E7 ?_ | refine E8 ?_ | refine E9 ?_ | refine Ea ?_ | refine Eb ?_ | refine Ec ?_ | refine Ed ?_)
      by_cases ha : s.refs > 0
      · by_cases hb' : s'.refs > 0
        · have hhc := hh ha hb'
          refine W_regionD [[], [0], [1, 0], [2, 1, 0], [3, 2, 1, 0], [4, 3, 2, 1, 0], [3, 2, 1, 0], [5, 4, 3, 2, 1, 0, 6], [7, 5, 4, 3, 2, 1, 0, 6], [8, 7, 5, 4, 3, 2, 1, 0, 6], [9, 8, 7, 5, 4, 3, 2, 1, 0, 6], [3, 2, 1, 0, 10, 9, 8, 7, 5, 4, 6], [11, 3, 2, 1, 0, 10, 9, 8, 7, 5, 4, 6], [12, 11, 3, 2, 1, 0, 10, 9, 8, 7, 5, 4, 6], [12, 11, 3, 2, 1, 0, 10, 9, 8, 7, 5, 4, 6], [14, 12, 11, 3, 2, 1, 0, 10, 9, 8, 7, 5, 4, 6], [12, 11, 3, 2, 1, 0, 10, 9, 8, 7, 5, 4, 6], [15, 14, 12, 11, 3, 2, 1, 0, 10, 9, 8, 7, 5, 4, 6, 16], [17, 15, 14, 12, 11, 3, 2, 1, 0, 10, 9, 8, 7, 5, 4, 6, 16], [13, 12, 11, 3, 2, 1, 0, 10, 9, 8, 7, 5, 4, 6, 18, 17, 15, 14, 16], [12, 11, 3, 2, 1, 0, 10, 9, 8, 7, 5, 4, 6, 19, 13, 18, 17, 15, 14, 16]] (by decide +kernel) (by decide +kernel) (by decide +kernel) fun K hK => ?_
          simp only [KA, KB, KP, KQ, KM, simprocAttr, KT w, KI, hw.KF, A58, A59, A5a, A5b, A5c, A5d, A5e, A5f, A5g, A5h, KX, Foot.big, A5i, opP, rfoot, refsO, refs, wfoot, A5j, A5k, noisyOk, pairOk, Foot.isQuiet, Foot.apart, Ft.apart, Foot.none, A5l, A5m, A48, A49, A5n, A5o, A5p, A5q, Nat.reduceBEq, htm, t1, t4, t5, t7, gN, gO, g0, hm0, hmS, hsl, hrow', ha, hb', hhc, hnr, hnr']
          refine hK _ _ ?_
          clear hK
          clear K
          repeat with_reducible (first | refine E0 ?_ | refine E1 ?_ | refine E2 ?_ | refine E3 ?_ | refine E4 ?_ | refine E5 (by decide) ?_ | refine E6 ?_ | refine E7 ?_ | refine E8 ?_ | refine E9 ?_ | refine Ea ?_ | refine Eb ?_ | refine Ec ?_ | refine Ed ?_)
          refine W_condF (by simp only [KA, KP, KQ, simprocAttr, KT w, KI, hw.KF, htm]) ?_
          repeat with_reducible (first | refine E0 ?_ | refine E1 ?_ | refine E2 ?_ | refine E3 ?_ | refine E4 ?_ | refine E5 (by decide) ?_ | refine E6 ?_ | refine E7 ?_ | refine E8 ?_ | refine E9 ?_ | refine Ea ?_ | refine Eb ?_ | refine Ec ?_ | refine Ed ?_)
          refine W_region fun K hK => ?_
          simp only [KA, KB, KP, KQ, KM, simprocAttr, KT w, KI, hw.KF, htm, t7, e2]
          refine hK _ _ ?_
          clear hK
          clear K
          refine ⟨i - (m + 1), by omega, _, m + 1, rfl, rfl, rfl, by omega, ?_⟩
          simp only [KA, KP, KQ, simprocAttr, KT w, KI, hw.KF, htm, t1, t3, t4, t5, Int.natCast_add, A3z]
        · refine W_regionD [[], [0], [1, 0], [2, 1, 0], [3, 2, 1, 0], [4, 3, 2, 1, 0], [3, 2, 1, 0], [5, 4, 3, 2, 1, 0, 6], [7, 5, 4, 3, 2, 1, 0, 6], [8, 7, 5, 4, 3, 2, 1, 0, 6], [9, 8, 7, 5, 4, 3, 2, 1, 0, 6], [3, 2, 1, 0, 10, 9, 8, 7, 5, 4, 6], [11, 3, 2, 1, 0, 10, 9, 8, 7, 5, 4, 6], [12, 11, 3, 2, 1, 0, 10, 9, 8, 7, 5, 4, 6], [12, 11, 3, 2, 1, 0, 10, 9, 8, 7, 5, 4, 6], [14, 12, 11, 3, 2, 1, 0, 10, 9, 8, 7, 5, 4, 6], [12, 11, 3, 2, 1, 0, 10, 9, 8, 7, 5, 4, 6], [15, 14, 12, 11, 3, 2, 1, 0, 10, 9, 8, 7, 5, 4, 6, 16], [17, 15, 14, 12, 11, 3, 2, 1, 0, 10, 9, 8, 7, 5, 4, 6, 16], [13, 12, 11, 3, 2, 1, 0, 10, 9, 8, 7, 5, 4, 6, 18, 17, 15, 14, 16], [12, 11, 3, 2, 1, 0, 10, 9, 8, 7, 5, 4, 6, 19, 13, 18, 17, 15, 14, 16]] (by decide +kernel) (by decide +kernel) (by decide +kernel) fun K hK => ?_
          simp only [KA, KB, KP, KQ, KM, simprocAttr, KT w, KI, hw.KF, A58, A59, A5a, A5b, A5c, A5d, A5e, A5f, A5g, A5h, KX, Foot.big, A5i, opP, rfoot, refsO, refs, wfoot, A5j, A5k, noisyOk, pairOk, Foot.isQuiet, Foot.apart, Ft.apart, Foot.none, A5l, A5m, A48, A49, A5n, A5o, A5p, A5q, Nat.reduceBEq, htm, t1, t4, t5, t7, gN, gO, g0, hm0, hmS, hsl, hrow', ha, hb']
          refine hK _ _ ?_
          clear hK
          clear K
          repeat with_reducible (first | refine E0 ?_ | refine E1 ?_ | refine E2 ?_ | refine E3 ?_ | refine E4 ?_ | refine E5 (by decide) ?_ | refine E6 ?_ | refine E7 ?_ | refine E8 ?_ | refine E9 ?_ | refine Ea ?_ | refine Eb ?_ | refine Ec ?_ | refine Ed ?_)
          refine W_condF (by simp only [KA, KP, KQ, simprocAttr, KT w, KI, hw.KF, htm]) ?_
          repeat with_reducible (first | refine E0 ?_ | refine E1 ?_ | refine E2 ?_ | refine E3 ?_ | refine E4 ?_ | refine E5 (by decide) ?_ | refine E6 ?_ | refine E7 ?_ | refine E8 ?_ | refine E9 ?_ | refine Ea ?_ | refine Eb ?_ | refine Ec ?_ | refine Ed ?_)
          refine W_region fun K hK => ?_
          simp only [KA, KB, KP, KQ, KM, simprocAttr, KT w, KI, hw.KF, htm, t7, e2]
          refine hK _ _ ?_
          clear hK
          clear K
          refine ⟨i - (m + 1), by omega, _, m + 1, rfl, rfl, rfl, by omega, ?_⟩
          simp only [KA, KP, KQ, simprocAttr, KT w, KI, hw.KF, htm, t1, t3, t4, t5, Int.natCast_add, A3z]
      · refine W_regionD [[], [0], [1, 0], [2, 1, 0], [3, 2, 1, 0], [4, 3, 2, 1, 0], [3, 2, 1, 0], [5, 4, 3, 2, 1, 0, 6], [7, 5, 4, 3, 2, 1, 0, 6], [8, 7, 5, 4, 3, 2, 1, 0, 6], [9, 8, 7, 5, 4, 3, 2, 1, 0, 6], [3, 2, 1, 0, 10, 9, 8, 7, 5, 4, 6], [11, 3, 2, 1, 0, 10, 9, 8, 7, 5, 4, 6], [12, 11, 3, 2, 1, 0, 10, 9, 8, 7, 5, 4, 6], [12, 11, 3, 2, 1, 0, 10, 9, 8, 7, 5, 4, 6], [14, 12, 11, 3, 2, 1, 0, 10, 9, 8, 7, 5, 4, 6], [12, 11, 3, 2, 1, 0, 10, 9, 8, 7, 5, 4, 6], [15, 14, 12, 11, 3, 2, 1, 0, 10, 9, 8, 7, 5, 4, 6, 16], [17, 15, 14, 12, 11, 3, 2, 1, 0, 10, 9, 8, 7, 5, 4, 6, 16], [13, 12, 11, 3, 2, 1, 0, 10, 9, 8, 7, 5, 4, 6, 18, 17, 15, 14, 16], [12, 11, 3, 2, 1, 0, 10, 9, 8, 7, 5, 4, 6, 19, 13, 18, 17, 15, 14, 16]] (by decide +kernel) (by decide +kernel) (by decide +kernel) fun K hK => ?_
        simp only [KA, KB, KP, KQ, KM, simprocAttr, KT w, KI, hw.KF, A58, A59, A5a, A5b, A5c, A5d, A5e, A5f, A5g, A5h, KX, Foot.big, A5i, opP, rfoot, refsO, refs, wfoot, A5j, A5k, noisyOk, pairOk, Foot.isQuiet, Foot.apart, Ft.apart, Foot.none, A5l, A5m, A48, A49, A5n, A5o, A5p, A5q, Nat.reduceBEq, htm, t1, t4, t5, t7, gN, gO, g0, hm0, hmS, hsl, hrow', ha]
        refine hK _ _ ?_
        clear hK
        clear K
        repeat with_reducible (first | refine E0 ?_ | refine E1 ?_ | refine E2 ?_ | refine E3 ?_ | refine E4 ?_ | refine E5 (by decide) ?_ | refine E6 ?_ | refine E7 ?_ | refine E8 ?_ | refine E9 ?_ | refine Ea ?_ | refine Eb ?_ | refine Ec ?_ | refine Ed ?_)
        refine W_condF (by simp only [KA, KP, KQ, simprocAttr, KT w, KI, hw.KF, htm]) ?_
        repeat with_reducible (first | refine E0 ?_ | refine E1 ?_ | refine E2 ?_ | refine E3 ?_ | refine E4 ?_ | refine E5 (by decide) ?_ | refine E6 ?_ | refine E7 ?_ | refine E8 ?_ | refine E9 ?_ | refine Ea ?_ | refine Eb ?_ | refine Ec ?_ | refine Ed ?_)
        refine W_region fun K hK => ?_
        simp only [KA, KB, KP, KQ, KM, simprocAttr, KT w, KI, hw.KF, htm, t7, e2]
        refine hK _ _ ?_
        clear hK
        clear K
        refine ⟨i - (m + 1), by omega, _, m + 1, rfl, rfl, rfl, by omega, ?_⟩
        simp only [KA, KP, KQ, simprocAttr, KT w, KI, hw.KF, htm, t1, t3, t4, t5, Int.natCast_add, A3z]
    obtain ⟨q, hq⟩ : ∃ q, s.kids[k]? = some q := ⟨_, List.getElem?_eq_getElem (by omega)⟩
    obtain ⟨s', hs', hs'0⟩ := hkid i q s hs (List.mem_of_getElem? hq)
    have hqS : q < SL.length := (List.getElem?_eq_some_iff.1 hs').1
    have hs'1 := hneg q s' hs'
    have hmx' : max s'.refs 0 = s'.refs := by omega
    have hrow' : (SL.map slCan)[q]? = some (slCan s') := by rw [List.getElem?_map, hs']; rfl
    simp only [slCan, slC, hmx'] at hrow'
    have hkq : (ks s.kids)[k]? = some [.int .i64 (q : Int)] := by rw [ks_get, hq]; rfl
    have hk0 : ¬ (k : Int) < 0 := by omega
    have h2 : ¬ (q : Int) < 0 := by omega
    have h3 : ¬ (q : Int) ≥ (SL.length : Int) := by omega
    have h4 : (q : Int) < (SL.length : Int) := by omega
    have e2 : IntKind.i64.wrap ((k : Int) + 1) = (k : Int) + 1 := i64_in _ (by omega)
    refine W_region fun K hK => ?_
    simp only [KA, KB, KP, KQ, KM, simprocAttr, KT w, KI, hw.KF, htm, t5, t6, gN, hkn, hkk]
    refine hK _ _ ?_
    clear hK
    clear K
    repeat with_reducible (first | refine E0 ?_ | refine E1 ?_ | refine E2 ?_ | refine E3 ?_ | refine E4 ?_ | refine E5 (by decide) ?_ | refine E6 ?_ | refine E7 ?_ | refine E8 ?_ | refine E9 ?_ | refine Ea ?_ | refine Eb ?_ | refine Ec ?_ | refine Ed ?_)
    refine W_condT (by simp only [KA, KP, KQ, simprocAttr, KT w, KI, hw.KF, htm]) ?_
    repeat with_reducible (first | refine E0 ?_ | refine E1 ?_ | refine E2 ?_ | refine E3 ?_ | refine E4 ?_ | refine E5 (by decide) ?_ | refine E6 ?_ | refine E7 ?_ | refine E8 ?_ | refine E9 ?_ | refine Ea ?_ | refine Eb ?_ | refine Ec ?_ | refine Ed ?_)
    refine W_regionD [[], [0], [], [1, 0, 2], [3, 1, 0, 2], [4, 3, 1, 0, 2], [5, 4, 3, 1, 0, 2], [6, 5, 4, 3, 1, 0, 2], [7, 6, 5, 4, 3, 1, 0, 2], [6, 5, 4, 3, 1, 0, 2], [8, 7, 6, 5, 4, 3, 1, 0, 2, 9], [10, 8, 7, 6, 5, 4, 3, 1, 0, 2, 9], [6, 5, 4, 3, 1, 0, 2], [11, 10, 8, 7, 6, 5, 4, 3, 1, 0, 2, 9, 12], [6, 5, 4, 3, 1, 0, 2, 13, 11, 10, 8, 7, 9, 12], [14, 6, 5, 4, 3, 1, 0, 2, 13, 11, 10, 8, 7, 9, 12], [15, 14, 6, 5, 4, 3, 1, 0, 2, 13, 11, 10, 8, 7, 9, 12], [16, 15, 14, 6, 5, 4, 3, 1, 0, 2, 13, 11, 10, 8, 7, 9, 12], [15, 14, 6, 5, 4, 3, 1, 0, 2, 13, 11, 10, 8, 7, 9, 12], [18, 15, 14, 6, 5, 4, 3, 1, 0, 2, 13, 11, 10, 8, 7, 9, 12], [15, 14, 6, 5, 4, 3, 1, 0, 2, 13, 11, 10, 8, 7, 9, 12], [19, 18, 15, 14, 6, 5, 4, 3, 1, 0, 2, 13, 11, 10, 8, 7, 9, 12, 20], [21, 19, 18, 15, 14, 6, 5, 4, 3, 1, 0, 2, 13, 11, 10, 8, 7, 9, 12, 20], [17, 16, 15, 14, 6, 5, 4, 3, 1, 0, 2, 13, 11, 10, 8, 7, 9, 12, 22, 21, 19, 18, 20], [23, 17, 16, 15, 14, 6, 5, 4, 3, 1, 0, 2, 13, 11, 10, 8, 7, 9, 12, 22, 21, 19, 18, 20], [24, 23, 17, 16, 15, 14, 6, 5, 4, 3, 1, 0, 2, 13, 11, 10, 8, 7, 9, 12, 22, 21, 19, 18, 20], [25, 24, 23, 17, 16, 15, 14, 6, 5, 4, 3, 1, 0, 2, 13, 11, 10, 8, 7, 9, 12, 22, 21, 19, 18, 20], [15, 14, 6, 5, 4, 3, 1, 0, 2, 13, 11, 10, 8, 7, 9, 12, 26, 25, 24, 23, 17, 16, 22, 21, 19, 18, 20]] (by decide +kernel) (by decide +kernel) (by decide +kernel) fun K hK => ?_
    simp only [KA, KB, KP, KQ, KM, simprocAttr, KT w, KI, hw.KF, A58, A59, A5a, A5b, A5c, A5d, A5e, A5f, A5g, A5h, KX, Foot.big, A5i, opP, rfoot, refsO, refs, wfoot, A5j, A5k, noisyOk, pairOk, Foot.isQuiet, Foot.apart, Ft.apart, Foot.none, A5l, A5m, A48, A49, A5n, A5o, A5p, A5q, Nat.reduceBEq, htm, t1, t3, t5, t6, gN, gO, g0, hkq, hk0, hkk, hkn, h2, h3, h4, hs'0, hrow', hsl]
    refine hK _ _ ?_
    clear hK
    clear K
    repeat with_reducible (first | refine E0 ?_ | refine E1 ?_ | refine E2 ?_ | refine E3 ?_ | refine E4 ?_ | refine E5 (by decide) ?_ | refine E6 ?_ | refine E7 ?_ | refine E8 ?_ | refine E9 ?_ | refine Ea ?_ | refine Eb ?_ | refine Ec ?_ | refine Ed ?_)
    refine W_condF (by simp only [KA, KP, KQ, simprocAttr, KT w, KI, hw.KF, htm]) ?_
    repeat with_reducible (first | refine E0 ?_ | refine E1 ?_ | refine E2 ?_ | refine E3 ?_ | refine E4 ?_ | refine E5 (by decide) ?_ | refine E6 ?_ | refine E7 ?_ | refine E8 ?_ | refine E9 ?_ | refine Ea ?_ | refine Eb ?_ | refine Ec ?_ | refine Ed ?_)
    refine W_region fun K hK => ?_
    simp only [KA, KB, KP, KQ, KM, simprocAttr, KT w, KI, hw.KF, htm, t6, e2]
    refine hK _ _ ?_
    clear hK
    clear K
    refine ⟨s.kids.length - (k + 1), by omega, _, k + 1, rfl, rfl, rfl, by omega, ?_⟩
    simp only [KA, KP, KQ, simprocAttr, KT w, KI, hw.KF, htm, t1, t3, t4, t5, Int.natCast_add, A3z]
end Go.Am.R
