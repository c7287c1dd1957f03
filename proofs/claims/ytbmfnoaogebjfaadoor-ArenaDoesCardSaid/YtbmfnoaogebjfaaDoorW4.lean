/- THE REFERENCE: releasing; the same. -/
import Derived.Test.YtbmfnoaogebjfaaDoorW3
set_option linter.unusedSimpArgs false
set_option linter.unusedVariables false
set_option maxRecDepth 20000
namespace Go.Am.R
open Go.Proofs Go.IntWalk

variable {w : Ways}

theorem drop15_no (hw : Std w) (A : Ar) (h : Int) (hrl : A.roots.length ≤ 100000) (hh : (rootR A h).2 = false) : PC (cfg w) 15 [arV A, .int .i64 h] (.tup [arV A, .int .i64 19]) := by
  refine PC_of (args' := [arV A, .int .i64 h]) hw.e15 hw.m15 (by simp [nrmA, nrm_arV, nrm]) ?_
  have hrt := root39 hw A h (by omega)
  have hq : rootQ A h = (0, false) := by unfold rootQ; rw [if_neg (by rw [hh]; simp)]
  rw [hq] at hrt
  have harv : arV A = .agg [.vec (A.slots.map slCan), .int .i64 (optI A.free), .vec (rs A.roots)] := rfl
  rw [harv] at hrt
  refine call_of_W (fn15 w) rfl ?_
  simp only [Tryd.f15, List.length_cons, List.length_nil, Nat.reduceAdd, Nat.reduceSub, List.cons_append, List.nil_append]
  repeat with_reducible (first | apply E0 | apply E1 | apply E2 | apply E3 | apply E4 | refine E5 (by decide) ?_ | apply E6 | apply E7 | apply E8 | apply E9 | apply Ea | apply Eb | apply Ec | apply Ed)
  rw [harv]
  refine W_region fun K hK => ?_
  simp only [KA, KB, KP, KQ, KM, simprocAttr, KT w, KI, hw.KF]
  refine hK _ _ ?_
  clear hK
  clear K
  repeat with_reducible (first | apply E0 | apply E1 | apply E2 | apply E3 | apply E4 | refine E5 (by decide) ?_ | apply E6 | apply E7 | apply E8 | apply E9 | apply Ea | apply Eb | apply Ec | apply Ed)
  refine W_region fun K hK => ?_
  simp only [KA, KB, KP, KQ, KM, simprocAttr, KT w, KI, hw.KF, hrt]
  refine hK _ _ ?_
  clear hK
  clear K
  repeat with_reducible (first | apply E0 | apply E1 | apply E2 | apply E3 | apply E4 | refine E5 (by decide) ?_ | apply E6 | apply E7 | apply E8 | apply E9 | apply Ea | apply Eb | apply Ec | apply Ed)
  refine W_region fun K hK => ?_
  simp only [KA, KB, KP, KQ, KM, simprocAttr, KT w, KI, hw.KF]
  refine hK _ _ ?_
  clear hK
  clear K
  repeat with_reducible (first | apply E0 | apply E1 | apply E2 | apply E3 | apply E4 | refine E5 (by decide) ?_ | apply E6 | apply E7 | apply E8 | apply E9 | apply Ea | apply Eb | apply Ec | apply Ed)
  refine W_condT (by simp only [KA, KP, KQ, simprocAttr, KT w, KI, hw.KF]) ?_
  repeat with_reducible (first | apply E0 | apply E1 | apply E2 | apply E3 | apply E4 | refine E5 (by decide) ?_ | apply E6 | apply E7 | apply E8 | apply E9 | apply Ea | apply Eb | apply Ec | apply Ed)
  refine W_region fun K hK => ?_
  simp only [KA, KB, KP, KQ, KM, simprocAttr, KT w, KI, hw.KF, splice]
  refine hK _ _ ?_
  clear hK
  clear K
  repeat with_reducible (first | apply E0 | apply E1 | apply E2 | apply E3 | apply E4 | refine E5 (by decide) ?_ | apply E6 | apply E7 | apply E8 | apply E9 | apply Ea | apply Eb | apply Ec | apply Ed)
  refine AtEnd_of rfl ?_
  simp only [KA, KP, KQ, simprocAttr, KT w, KI, hw.KF, RS_some, aresults_nil, aresults_tmp, aresults_cell, one]
  exact FZ_tup (by simp [nrmA, nrm, nrmL, nrm_can, nrmR_rs])

set_option maxHeartbeats 8000000 in
theorem drop15 (hw : Std w) (hr : StdR w) (A C : Ar) (h : Nat) (i : Nat) (hA : Inv A [] []) (c : Int) (hRB : RB c A.slots) (hc0 : 0 ≤ c) (hcn : c ≤ 1000000000000) (hkl : KL' A.slots) (hrl : A.roots.length ≤ 100000)
    (hh : A.roots[h]? = some (some i)) (hL : LessL ⟨A.slots, A.free, A.roots.set h none⟩ [i] C) (hCi : Inv C [] []) :
    PC (cfg w) 15 [arV A, .int .i64 (h : Nat)] (.tup [arV C, .int .i64 0]) := by
  refine PC_of (args' := [arV A, .int .i64 (h : Nat)]) hw.e15 hw.m15 (by simp [nrmA, nrm_arV, nrm]) ?_
  have hown := fun S h1 h2 => own35 hw hr A (nonneg hA) (by have := hA.len; omega) (by omega) S h1 h2
  have hrt := root39 hw A (h : Int) (by omega)
  have hr1 : rootQ A (h : Int) = (((i : Nat) : Int), true) := by simp [rootQ, rootR, hh, optI]
  rw [hr1] at hrt
  have harv : arV A = .agg [.vec (A.slots.map slCan), .int .i64 (optI A.free), .vec (rs A.roots)] := rfl
  rw [harv] at hrt
  obtain ⟨hrun, hRBC⟩ := lessR_runs hw hL c hc0 (by omega) hRB hkl
  rw [RunQ] at hrun
  obtain ⟨D, hD, rfl⟩ := hrun
  refine call_of_W (fn15 w) rfl ?_
  simp only [Tryd.f15, List.length_cons, List.length_nil, Nat.reduceAdd, Nat.reduceSub, List.cons_append, List.nil_append]
  repeat with_reducible (first | apply E0 | apply E1 | apply E2 | apply E3 | apply E4 | refine E5 (by decide) ?_ | apply E6 | apply E7 | apply E8 | apply E9 | apply Ea | apply Eb | apply Ec | apply Ed)
  rw [harv]
  refine W_region fun K hK => ?_
  simp only [KA, KB, KP, KQ, KM, simprocAttr, KT w, KI, hw.KF]
  refine hK _ _ ?_
  clear hK
  clear K
  repeat with_reducible (first | apply E0 | apply E1 | apply E2 | apply E3 | apply E4 | refine E5 (by decide) ?_ | apply E6 | apply E7 | apply E8 | apply E9 | apply Ea | apply Eb | apply Ec | apply Ed)
  have q0 : ((St.nil.push (.row [.vec (A.slots.map slCan), .int .i64 (optI A.free), .vec (rs A.roots)] false)).push (.row [.nils, .int .i64 0, .nils] false)).get 0 = some (.row [.vec (A.slots.map slCan), .int .i64 (optI A.free), .vec (rs A.roots)] false) := rfl
  have q1 : ((St.nil.push (.row [.vec (A.slots.map slCan), .int .i64 (optI A.free), .vec (rs A.roots)] false)).push (.row [.nils, .int .i64 0, .nils] false)).get 1 = some (.row [.nils, .int .i64 0, .nils] false) := rfl
  have ok0 : ((St.nil.push (.row [.vec (A.slots.map slCan), .int .i64 (optI A.free), .vec (rs A.roots)] false)).push (.row [.nils, .int .i64 0, .nils] false)).ok := St.ok_push (St.ok_push St.ok_nil)
  have b0 : ((St.nil.push (.row [.vec (A.slots.map slCan), .int .i64 (optI A.free), .vec (rs A.roots)] false)).push (.row [.nils, .int .i64 0, .nils] false)).base = 0 := rfl
  have n0 : ((St.nil.push (.row [.vec (A.slots.map slCan), .int .i64 (optI A.free), .vec (rs A.roots)] false)).push (.row [.nils, .int .i64 0, .nils] false)).n = 2 := rfl
  generalize (St.nil.push (.row [.vec (A.slots.map slCan), .int .i64 (optI A.free), .vec (rs A.roots)] false)).push (.row [.nils, .int .i64 0, .nils] false) = S0 at *
  obtain ⟨v, S1, hc1, K1, sv, rv, R1, rfl, hRd1⟩ := hown S0 ok0 b0
  have hcall : callF (cfg w) (lim (cfg w)) 35 [.agg [.vec (A.slots.map slCan), .int .i64 (optI A.free), .vec (rs A.roots)]] S0 = some (.agg [sv, .int .i64 (optI A.free), rv], S1) := by
    rw [callF_raw (by exact hw.e35) (by exact hw.m35)]; exact hc1
  have q1' := K1.get _ _ (by omega) (fun g es rows e h => by cases h) q1
  have n1 := K1.n
  have ok1 := hRd1.ok
  have b1 := hRd1.base
  have hhl := (List.getElem?_eq_some_iff.1 hh).1
  refine W_region fun K hK => ?_
  simp only [KA, KB, KP, KQ, KM, simprocAttr, KT w, KI, hw.KF, q0, hrt]
  refine hK _ _ ?_
  clear hK
  clear K
  repeat with_reducible (first | apply E0 | apply E1 | apply E2 | apply E3 | apply E4 | refine E5 (by decide) ?_ | apply E6 | apply E7 | apply E8 | apply E9 | apply Ea | apply Eb | apply Ec | apply Ed)
  refine W_region fun K hK => ?_
  simp only [KA, KB, KP, KQ, KM, simprocAttr, KT w, KI, hw.KF]
  refine hK _ _ ?_
  clear hK
  clear K
  repeat with_reducible (first | apply E0 | apply E1 | apply E2 | apply E3 | apply E4 | refine E5 (by decide) ?_ | apply E6 | apply E7 | apply E8 | apply E9 | apply Ea | apply Eb | apply Ec | apply Ed)
  refine W_condF (by simp only [KA, KP, KQ, simprocAttr, KT w, KI, hw.KF]) ?_
  repeat with_reducible (first | apply E0 | apply E1 | apply E2 | apply E3 | apply E4 | refine E5 (by decide) ?_ | apply E6 | apply E7 | apply E8 | apply E9 | apply Ea | apply Eb | apply Ec | apply Ed)
  refine W_region fun K hK => ?_
  simp only [KA, KB, KP, KQ, KM, simprocAttr, KT w, KI, hw.KF, q0, hcall, ok1, b1, splice, A3p]
  refine hK _ _ ?_
  clear hK
  clear K
  repeat with_reducible (first | apply E0 | apply E1 | apply E2 | apply E3 | apply E4 | refine E5 (by decide) ?_ | apply E6 | apply E7 | apply E8 | apply E9 | apply Ea | apply Eb | apply Ec | apply Ed)
  have hRd2 := hRd1.push (.row [sv, .int .i64 (optI A.free), rv] false)
  have g2 : (S1.push (.row [sv, .int .i64 (optI A.free), rv] false)).get S1.n = some (.row [sv, .int .i64 (optI A.free), rv] false) := St.get_pushe
  have g2b : (S1.push (.row [sv, .int .i64 (optI A.free), rv] false)).get 1 = _ := (St.get_pushn (by omega)).trans q1'
  have n2 : (S1.push (.row [sv, .int .i64 (optI A.free), rv] false)).n = S1.n + 1 := St.pushN _ _
  obtain ⟨M, hM⟩ : ∃ M, S1.n = M := ⟨_, rfl⟩
  rw [hM] at g2 n2 ⊢
  generalize S1.push (.row [sv, .int .i64 (optI A.free), rv] false) = S2 at *
  have ok2 := hRd2.ok
  have b2 := hRd2.base
  rcases hRd2.rv with ⟨hR0, -⟩ | ⟨ro, rg, rfl, hro, hrg⟩
  · have := congrArg List.length hR0
    rw [rs_len, List.length_nil] at this; omega
  have hx1 : (h : Int) < ((rs A.roots).length : Int) := by rw [rs_len]; omega
  have hx0 : (0 : Int) ≤ (h : Int) := by omega
  have hrow : (rs A.roots)[h]? = some [.int .i64 (i : Nat)] := by rw [rs_get, hh]; rfl
  have hset : (rs A.roots).set h [.int .i64 (-1)] = rs (A.roots.set h none) := by simp [rs, List.map_set, optI]
  have hx2 : (h : Int) < (A.roots.length : Int) := by omega
  have kp : ∀ q x, q < S2.n → q ≠ ro → S2.get q = some x → (S2.set ro (.seq rg 1 (rs (A.roots.set h none)) 0)).get q = some x := fun q x hq hne hx => by rw [St.get_setn hro hne]; exact hx
  have g3 := kp M _ (by omega) (fun e => by rw [← e, g2] at hrg; cases hrg) g2
  have g3b := kp 1 _ (by omega) (fun e => by rw [← e, g2b] at hrg; cases hrg) g2b
  have hRd3 : Rd sv (.sref ro rg 0 (rs A.roots).length) R1 ⟨A.slots, A.free, A.roots.set h none⟩ (S2.set ro (.seq rg 1 (rs (A.roots.set h none)) 0)) := by
    refine ⟨St.ok_set ok2, by rw [St.setB]; exact b2, ?_, hRd2.rows, .inr ⟨ro, rg, by simp [rs_len], by rw [St.setN]; exact hro, St.get_sete ok2 hro⟩⟩
    exact hRd2.sv.kp (by rw [St.setN]; omega) fun q g rows e hq hg => kp q _ hq (fun e1 => by rw [e1, hrg] at hg; cases hg) hg
  have n3 : (S2.set ro (.seq rg 1 (rs (A.roots.set h none)) 0)).n = S2.n := St.setN _ _ _
  refine W_region fun K hK => ?_
  simp only [KA, KB, KP, KQ, KM, simprocAttr, KT w, KI, hw.KF, g2, hrg, hx0, hx1, hx2, hh, hrow, hset, ok2, b2, hro, splice]
  refine hK _ _ ?_
  clear hK
  clear K
  repeat with_reducible (first | apply E0 | apply E1 | apply E2 | apply E3 | apply E4 | refine E5 (by decide) ?_ | apply E6 | apply E7 | apply E8 | apply E9 | apply Ea | apply Eb | apply Ec | apply Ed)
  generalize S2.set ro (.seq rg 1 (rs (A.roots.set h none)) 0) = S3 at *
  obtain ⟨v, S4, hc4, K4, sv4, rv4, R4, rfl, hRd4⟩ := hD _ _ _ _ hRd3
  have hcall4 : callF (cfg w) (lim (cfg w)) 40 [.agg [sv, .int .i64 (optI A.free), .sref ro rg 0 (rs A.roots).length], .int .i64 (i : Nat)] S3 = some (.agg [sv4, .int .i64 (optI D.free), rv4], S4) := by
    rw [callF_raw (by exact hw.e40) (by exact hw.m40)]; exact hc4
  have g4b := K4.get 1 _ (by omega) (fun g es rows e h => by cases h) g3b
  have ok4 := hRd4.ok
  have b4 := hRd4.base
  have ln1 : 1 < S4.n := by have := K4.n; omega
  rw [rs_len] at hcall4
  refine W_region fun K hK => ?_
  simp only [KA, KB, KP, KQ, KM, simprocAttr, KT w, KI, hw.KF, g3, hcall4, g4b, ok4, b4, ln1, splice]
  refine hK _ _ ?_
  clear hK
  clear K
  repeat with_reducible (first | apply E0 | apply E1 | apply E2 | apply E3 | apply E4 | refine E5 (by decide) ?_ | apply E6 | apply E7 | apply E8 | apply E9 | apply Ea | apply Eb | apply Ec | apply Ed)
  have gZ : ∀ X, (S4.set 1 X).get 1 = some X := fun X => St.get_sete ok4 ln1
  refine AtEnd_of rfl ?_
  simp only [KA, KP, KQ, simprocAttr, KT w, KI, hw.KF, gZ, RS_some, aresults_nil, aresults_tmp, aresults_cell, one]
  have fin : ∀ q x, q < S4.n → q ≠ 1 → S4.get q = some x → ∀ X, (S4.set 1 X).get q = some x := fun q x hq h1 hx X => by rw [St.get_setn ln1 h1]; exact hx
  refine fz_drop (R := R4) ?_ (hRd4.rows.sl (nonneg hCi)) ?_
  · exact hRd4.sv.kp (by rw [St.setN]; omega) fun q g rows e hq hg => fin q _ hq (fun e1 => by rw [e1, g4b] at hg; cases hg) hg _
  · exact hRd4.rv.kp (by rw [St.setN]; omega) fun q g rows e hq hg => fin q _ hq (fun e1 => by rw [e1, g4b] at hg; cases hg) hg _

theorem rs_ints (r : List (Option Nat)) : rs r = ints (r.map optI) := by simp [rs, ints]

set_option maxHeartbeats 4000000 in
theorem same16 (hw : Std w) (A : Ar) (hz : ∀ s ∈ A.slots, 0 ≤ s.refs) (hsl : A.slots.length ≤ 1000000000) (hrl : A.roots.length ≤ 1000000000) (hkl : KL' A.slots) : PC (cfg w) 16 [.agg (arC A), .agg (arC A)] (.bool true) := by
  refine PC_of (args' := [.agg (arC A), .agg (arC A)]) hw.e16 hw.m16 (by have := nrm_arV A; simp only [arV] at this; simp [nrmA, this]) ?_
  have p41 : PC (cfg w) 41 [.vec (rs A.roots), .vec (rs A.roots)] (.bool true) := by
    have := ints41 hw (A.roots.map optI) (A.roots.map optI) (by rw [List.length_map]; omega) (by rw [List.length_map]; omega)
    rw [← rs_ints, decide_eq_true rfl] at this
    exact this
  have nr := nrmR_rs A.roots
  have hlen : (A.slots.map slCan).length = A.slots.length := List.length_map _
  unfold arC
  generalize rs A.roots = RR at *
  obtain ⟨CC, hCC⟩ : ∃ CC, A.slots.map slCan = CC := ⟨_, rfl⟩
  rw [hCC] at hlen ⊢
  refine call_of_W (fn16 w) rfl ?_
  simp only [Tryd.f16, List.length_cons, List.length_nil, Nat.reduceAdd, Nat.reduceSub, List.cons_append, List.nil_append]
  repeat with_reducible (first | apply E0 | apply E1 | apply E2 | apply E3 | apply E4 | refine E5 (by decide) ?_ | apply E6 | apply E7 | apply E8 | apply E9 | apply Ea | apply Eb | apply Ec | apply Ed)
  refine W_region fun K hK => ?_
  simp only [KA, KB, KP, KQ, KM, simprocAttr, KT w, KI, hw.KF]
  refine hK _ _ ?_
  clear hK
  clear K
  repeat with_reducible (first | apply E0 | apply E1 | apply E2 | apply E3 | apply E4 | refine E5 (by decide) ?_ | apply E6 | apply E7 | apply E8 | apply E9 | apply Ea | apply Eb | apply Ec | apply Ed)
  refine W_region fun K hK => ?_
  simp only [KA, KB, KP, KQ, KM, simprocAttr, KT w, KI, hw.KF, hlen, p41, nr]
  refine hK _ _ ?_
  clear hK
  clear K
  repeat with_reducible (first | apply E0 | apply E1 | apply E2 | apply E3 | apply E4 | refine E5 (by decide) ?_ | apply E6 | apply E7 | apply E8 | apply E9 | apply Ea | apply Eb | apply Ec | apply Ed)
  refine W_condF (by simp only [KA, KP, KQ, simprocAttr, KT w, KI, hw.KF]) ?_
  repeat with_reducible (first | apply E0 | apply E1 | apply E2 | apply E3 | apply E4 | refine E5 (by decide) ?_ | apply E6 | apply E7 | apply E8 | apply E9 | apply Ea | apply Eb | apply Ec | apply Ed)
  refine W_region fun K hK => ?_
  simp only [KA, KB, KP, KQ, KM, simprocAttr, KT w, KI, hw.KF]
  refine hK _ _ ?_
  clear hK
  clear K
  repeat with_reducible (first | apply E0 | apply E1 | apply E2 | apply E3 | apply E4 | refine E5 (by decide) ?_ | apply E6 | apply E7 | apply E8 | apply E9 | apply Ea | apply Eb | apply Ec | apply Ed)
  refine W_loop (fun k fr S => ∃ (tm : List AV) (i : Nat), fr = ⟨tm, [], none, 16⟩ ∧ S = (St.nil.push (.row [.vec CC, .int .i64 (optI A.free), .vec RR] false)).push (.row [.vec CC, .int .i64 (optI A.free), .vec RR] false) ∧ k = A.slots.length - i ∧ i ≤ A.slots.length ∧
     tm.length = 77 ∧ tget tm 2 = .ptr 0 0 ∧ tget tm 3 = .ptr 1 0 ∧ tget tm 5 = .int .i64 (i : Nat)) A.slots.length
    ⟨_, 0, rfl, rfl, rfl, Nat.zero_le _, ?_⟩ ?_
  · simp only [KA, KP, KQ, simprocAttr, KT w, KI, hw.KF, Int.ofNat_zero]
  rintro k fr S ⟨tm, i, rfl, rfl, rfl, hi, htm, h2, h3, h5⟩
  repeat with_reducible (first | apply E0 | apply E1 | apply E2 | apply E3 | apply E4 | refine E5 (by decide) ?_ | apply E6 | apply E7 | apply E8 | apply E9 | apply Ea | apply Eb | apply Ec | apply Ed)
  by_cases hil : (i : Int) < (A.slots.length : Int)
  case neg =>
    refine W_region fun K hK => ?_
    simp only [KA, KB, KP, KQ, KM, simprocAttr, KT w, KI, hw.KF, htm, h2, h5, hlen, hil]
    refine hK _ _ ?_
    clear hK
    clear K
    repeat with_reducible (first | apply E0 | apply E1 | apply E2 | apply E3 | apply E4 | refine E5 (by decide) ?_ | apply E6 | apply E7 | apply E8 | apply E9 | apply Ea | apply Eb | apply Ec | apply Ed)
    refine W_condF (by simp only [KA, KP, KQ, simprocAttr, KT w, KI, hw.KF, htm]) ?_
    repeat with_reducible (first | apply E0 | apply E1 | apply E2 | apply E3 | apply E4 | refine E5 (by decide) ?_ | apply E6 | apply E7 | apply E8 | apply E9 | apply Ea | apply Eb | apply Ec | apply Ed)
    refine W_region fun K hK => ?_
    simp only [KA, KB, KP, KQ, KM, simprocAttr, KT w, KI, hw.KF]
    refine hK _ _ ?_
    clear hK
    clear K
    repeat with_reducible (first | apply E0 | apply E1 | apply E2 | apply E3 | apply E4 | refine E5 (by decide) ?_ | apply E6 | apply E7 | apply E8 | apply E9 | apply Ea | apply Eb | apply Ec | apply Ed)
    refine AtEnd_of rfl ?_
    simp only [KA, KP, KQ, simprocAttr, KT w, KI, hw.KF, htm, RS_some, aresults_nil, aresults_tmp, aresults_cell, one]
    exact FZ_bool
  obtain ⟨s, hs⟩ : ∃ s, A.slots[i]? = some s := ⟨_, List.getElem?_eq_getElem (by omega)⟩
  have hx0 : (0 : Int) ≤ (i : Int) := by omega
  have hx1 : (i : Int) < (CC.length : Int) := by omega
  have hrow : CC[i]? = some (slCan s) := by rw [← hCC, List.getElem?_map, hs]; rfl
  have hsr := SrRow.can (hz s (List.mem_of_getElem? hs))
  have p42 := holdsR hw hsr hsr (by have := hkl i s hs; omega) (by have := hkl i s hs; omega)
  rw [decide_eq_true rfl] at p42
  have xl := hsr.len
  have xt : (slCan s).take 10 = slCan s := List.take_of_length_le (by omega)
  have xn := hsr.nrm
  have x8 : (slCan s)[8]? = some (.int .i64 (max s.refs 0)) := rfl
  have x9 : (slCan s)[9]? = some (.int .i64 (optI s.next)) := rfl
  generalize slCan s = X at *
  have e1 : IntKind.i64.wrap ((i : Int) + 1) = ((i + 1 : Nat) : Int) := by rw [i64_in _ (by omega)]; omega
  refine W_region fun K hK => ?_
  simp only [KA, KB, KP, KQ, KM, simprocAttr, KT w, KI, hw.KF, htm, h2, h5, hlen, hil]
  refine hK _ _ ?_
  clear hK
  clear K
  repeat with_reducible (first | apply E0 | apply E1 | apply E2 | apply E3 | apply E4 | refine E5 (by decide) ?_ | apply E6 | apply E7 | apply E8 | apply E9 | apply Ea | apply Eb | apply Ec | apply Ed)
  refine W_condT (by simp only [KA, KP, KQ, simprocAttr, KT w, KI, hw.KF, htm]) ?_
  repeat with_reducible (first | apply E0 | apply E1 | apply E2 | apply E3 | apply E4 | refine E5 (by decide) ?_ | apply E6 | apply E7 | apply E8 | apply E9 | apply Ea | apply Eb | apply Ec | apply Ed)
  refine W_regionQ (by decide +kernel) fun K hK => ?_
  simp only [KA, KB, KP, KQ, KM, simprocAttr, KT w, KI, hw.KF, htm, h2, h3, h5, hx0, hx1, hrow, xl, xt, xn, x8, x9, p42]
  refine hK _ _ ?_
  clear hK
  clear K
  repeat with_reducible (first | apply E0 | apply E1 | apply E2 | apply E3 | apply E4 | refine E5 (by decide) ?_ | apply E6 | apply E7 | apply E8 | apply E9 | apply Ea | apply Eb | apply Ec | apply Ed)
  refine W_condF (by simp only [KA, KP, KQ, simprocAttr, KT w, KI, hw.KF, htm]) ?_
  repeat with_reducible (first | apply E0 | apply E1 | apply E2 | apply E3 | apply E4 | refine E5 (by decide) ?_ | apply E6 | apply E7 | apply E8 | apply E9 | apply Ea | apply Eb | apply Ec | apply Ed)
  refine W_region fun K hK => ?_
  simp only [KA, KB, KP, KQ, KM, simprocAttr, KT w, KI, hw.KF, htm, h5, e1]
  refine hK _ _ ?_
  clear hK
  clear K
  refine ⟨A.slots.length - (i + 1), by omega, _, i + 1, rfl, rfl, rfl, by omega, ?_⟩
  simp only [KA, KP, KQ, simprocAttr, KT w, KI, hw.KF, htm, h2, h3]
end Go.Am.R
