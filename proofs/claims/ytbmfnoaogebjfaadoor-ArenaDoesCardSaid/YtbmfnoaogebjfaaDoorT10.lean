/- RELEASING. -/
import Derived.Test.YtbmfnoaogebjfaaDoorT9
set_option linter.unusedSimpArgs false
set_option linter.unusedVariables false
set_option maxRecDepth 20000
namespace Go.Am.R
open Go.Proofs Go.IntWalk

variable {w : Ways}

theorem drop14_no (hw : Std w) (A : Ar) (h : Int) (hrl : A.roots.length ≤ 100000) (hh : (rootR A h).2 = false) : PC (cfg w) 14 [arV A, .int .i64 h] (.tup [arV A, .int .i64 19]) := by
  refine PC_of (args' := [arV A, .int .i64 h]) hw.e14 hw.m14 (by simp [nrmA, nrm_arV, nrm]) ?_
  have hrt := root37 hw A h (by omega)
  rw [hh] at hrt
  have harv : arV A = .agg [.vec (A.slots.map slCan), .int .i64 (optI A.free), .vec (rs A.roots)] := rfl
  obtain ⟨RV, hRV⟩ : ∃ RV, (rootR A h).1 = RV := ⟨_, rfl⟩
  rw [hRV] at hrt
  rw [harv] at hrt
  refine call_of_W (fn14 w) rfl ?_
  simp only [Tryd.f14, List.length_cons, List.length_nil, Nat.reduceAdd, Nat.reduceSub, List.cons_append, List.nil_append]
  repeat with_reducible (first | apply E0 | apply E1 | apply E2 | apply E3 | apply E4 | refine E5 (by decide) ?_ | apply E6 | apply E7 | apply E8 | apply E9 | apply Ea | apply Eb | apply Ec | apply Ed)
  rw [harv]
  refine W_region fun K hK => ?_
  simp only [KA, KB, KP, KQ, KM, simprocAttr, KT w, KI, hw.KF]
  refine hK _ _ ?_
  clear hK
  clear K
  repeat with_reducible (first | apply E0 | apply E1 | apply E2 | apply E3 | apply E4 | refine E5 (by decide) ?_ | apply E6 | apply E7 | apply E8 | apply E9 | apply Ea | apply Eb | apply Ec | apply Ed)
  refine W_region fun K hK => ?_
  simp only [KA, KB, KP, KQ, KM, simprocAttr, KT w, KI, hw.KF, hrt]
  refine hK _ _ ?_
  clear hK
  clear K
  repeat with_reducible (first | apply E0 | apply E1 | apply E2 | apply E3 | apply E4 | refine E5 (by decide) ?_ | apply E6 | apply E7 | apply E8 | apply E9 | apply Ea | apply Eb | apply Ec | apply Ed)
  refine W_region fun K hK => ?_
  simp only [KA, KB, KP, KQ, KM, simprocAttr, KT w, KI, hw.KF]
  refine hK _ _ ?_
  clear hK
  clear K
  repeat with_reducible (first | apply E0 | apply E1 | apply E2 | apply E3 | apply E4 | refine E5 (by decide) ?_ | apply E6 | apply E7 | apply E8 | apply E9 | apply Ea | apply Eb | apply Ec | apply Ed)
  refine W_condT (by simp only [KA, KP, KQ, simprocAttr, KT w, KI, hw.KF]) ?_
  repeat with_reducible (first | apply E0 | apply E1 | apply E2 | apply E3 | apply E4 | refine E5 (by decide) ?_ | apply E6 | apply E7 | apply E8 | apply E9 | apply Ea | apply Eb | apply Ec | apply Ed)
  refine W_region fun K hK => ?_
  simp only [KA, KB, KP, KQ, KM, simprocAttr, KT w, KI, hw.KF, splice]
  refine hK _ _ ?_
  clear hK
  clear K
  repeat with_reducible (first | apply E0 | apply E1 | apply E2 | apply E3 | apply E4 | refine E5 (by decide) ?_ | apply E6 | apply E7 | apply E8 | apply E9 | apply Ea | apply Eb | apply Ec | apply Ed)
  refine AtEnd_of rfl ?_
  simp only [KA, KP, KQ, simprocAttr, KT w, KI, hw.KF, RS_some, aresults_nil, aresults_tmp, aresults_cell, one]
  exact FZ_tup (by simp [nrmA, nrm, nrmL, nrm_can, nrmR_rs])

set_option maxHeartbeats 8000000 in
theorem drop14 (hw : Std w) (hkey : w.ext 46 = some (.val keyF)) (h60 : w.ext 60 = some (.push (cloneF 10 128))) (h61 : w.ext 61 = some (.push (cloneF 1 8))) (A C : Ar) (h : Nat) (i : Nat) (hA : Inv A [] []) (c : Int) (hRB : RB c A.slots) (hc0 : 0 ≤ c) (hcn : c ≤ 1000000000000) (hkl : KL' A.slots) (hrl : A.roots.length ≤ 100000)
    (hh : A.roots[h]? = some (some i)) (hL : LessL ⟨A.slots, A.free, A.roots.set h none⟩ [i] C) :
    PC (cfg w) 14 [arV A, .int .i64 (h : Nat)] (.tup [arV C, .int .i64 0]) := by
  refine PC_of (args' := [arV A, .int .i64 (h : Nat)]) hw.e14 hw.m14 (by simp [nrmA, nrm_arV, nrm]) ?_
  have hz : ∀ (i : Nat) (s : Sl), A.slots[i]? = some s → 0 ≤ s.refs := fun i s hs => by
    by_cases h : s.refs < 0
    · have := (hA.neg i s hs h).2; cases this
    · omega
  have hbuild := build32 hw hkey h60 h61 A hA.apart hz (by have := hA.len; omega) hrl (hA.kb hkl)
  have hrt := root37 hw A (h : Int) (by omega)
  have hr1 : rootR A (h : Int) = (((i : Nat) : Int), true) := by simp [rootR, hh, optI]
  rw [hr1] at hrt
  have harv : arV A = .agg [.vec (A.slots.map slCan), .int .i64 (optI A.free), .vec (rs A.roots)] := rfl
  rw [harv] at hrt hbuild
  refine call_of_W (fn14 w) rfl ?_
  simp only [Tryd.f14, List.length_cons, List.length_nil, Nat.reduceAdd, Nat.reduceSub, List.cons_append, List.nil_append]
  repeat with_reducible (first | apply E0 | apply E1 | apply E2 | apply E3 | apply E4 | refine E5 (by decide) ?_ | apply E6 | apply E7 | apply E8 | apply E9 | apply Ea | apply Eb | apply Ec | apply Ed)
  rw [harv]
  refine W_region fun K hK => ?_
  simp only [KA, KB, KP, KQ, KM, simprocAttr, KT w, KI, hw.KF]
  refine hK _ _ ?_
  clear hK
  clear K
  repeat with_reducible (first | apply E0 | apply E1 | apply E2 | apply E3 | apply E4 | refine E5 (by decide) ?_ | apply E6 | apply E7 | apply E8 | apply E9 | apply Ea | apply Eb | apply Ec | apply Ed)
  have q0 : ((St.nil.push (.row [.vec (A.slots.map slCan), .int .i64 (optI A.free), .vec (rs A.roots)] false)).push (.row [.nils, .int .i64 0, .nils] false)).get 0 = some (.row [.vec (A.slots.map slCan), .int .i64 (optI A.free), .vec (rs A.roots)] false) := rfl
  have q1 : ((St.nil.push (.row [.vec (A.slots.map slCan), .int .i64 (optI A.free), .vec (rs A.roots)] false)).push (.row [.nils, .int .i64 0, .nils] false)).get 1 = some (.row [.nils, .int .i64 0, .nils] false) := rfl
  have ok0 : ((St.nil.push (.row [.vec (A.slots.map slCan), .int .i64 (optI A.free), .vec (rs A.roots)] false)).push (.row [.nils, .int .i64 0, .nils] false)).ok := St.ok_push (St.ok_push St.ok_nil)
  have b0 : ((St.nil.push (.row [.vec (A.slots.map slCan), .int .i64 (optI A.free), .vec (rs A.roots)] false)).push (.row [.nils, .int .i64 0, .nils] false)).base = 0 := rfl
  have n0 : ((St.nil.push (.row [.vec (A.slots.map slCan), .int .i64 (optI A.free), .vec (rs A.roots)] false)).push (.row [.nils, .int .i64 0, .nils] false)).n = 2 := rfl
  generalize (St.nil.push (.row [.vec (A.slots.map slCan), .int .i64 (optI A.free), .vec (rs A.roots)] false)).push (.row [.nils, .int .i64 0, .nils] false) = S0 at *
  obtain ⟨v, S1, hc1, o, rfl, ho, hBD1, hE1⟩ := hbuild S0 ok0 b0
  have hcall : callF (cfg w) (lim (cfg w)) 32 [.agg [.vec (A.slots.map slCan), .int .i64 (optI A.free), .vec (rs A.roots)]] S0 = some (.ptr o 0, S1) := by
    rw [callF_raw (by exact hw.e32) (by exact hw.m32)]; exact hc1
  have q1' := hE1.get _ _ (by omega) q1
  have n1 := hE1.n
  obtain ⟨m5, sv5, rv5, R5, es5, clock5, h5⟩ := hBD1
  have g5 := h5.g
  have ok5 := h5.ok
  have b5 := h5.base
  have on5 := h5.n
  have hhl := (List.getElem?_eq_some_iff.1 hh).1
  rcases h5.rv with ⟨hR0, -⟩ | ⟨ro, rg, rfl, hro, hrg⟩
  · have := congrArg List.length hR0
    rw [rs_len, List.length_nil] at this; omega
  have hx1 : (h : Int) < ((rs A.roots).length : Int) := by rw [rs_len]; omega
  have hx0 : (0 : Int) ≤ (h : Int) := by omega
  have hrow : (rs A.roots)[h]? = some [.int .i64 (i : Nat)] := by rw [rs_get, hh]; rfl
  have hset : (rs A.roots).set h [.int .i64 (-1)] = rs (A.roots.set h none) := by simp [rs, List.map_set, optI]
  have hro' : ro ≠ o := fun e => by rw [e, g5] at hrg; cases hrg
  have hrm : ro ≠ m5 := fun e => by rw [e, h5.mg] at hrg; cases hrg
  have kp : ∀ q x, q < S1.n → q ≠ ro → S1.get q = some x → (S1.set ro (.seq rg 1 (rs (A.roots.set h none)) 0)).get q = some x := fun q x hq hne hx => by rw [St.get_setn hro hne]; exact hx
  have hBD2 : BD o ⟨A.slots, A.free, A.roots.set h none⟩ false (S1.set ro (.seq rg 1 (rs (A.roots.set h none)) 0)) := by
    refine ⟨m5, sv5, .sref ro rg 0 (rs A.roots).length, R5, es5, clock5, ⟨St.ok_set ok5, by rw [St.setB]; exact b5, by rw [St.setN]; exact on5, kp _ _ on5 (Ne.symm hro') g5, by rw [St.setN]; exact h5.mn, kp _ _ h5.mn (Ne.symm hrm) h5.mg, h5.mok, ?_, h5.rows, ?_⟩⟩
    · exact h5.sv.kp (by rw [St.setN]; omega) fun q g rows e hq hg => kp q _ hq (fun e1 => by rw [e1, hrg] at hg; cases hg) hg
    · exact .inr ⟨ro, rg, by simp [rs_len], by rw [St.setN]; exact hro, St.get_sete ok5 hro⟩
  have q12 := kp 1 _ (by omega) (fun e => by rw [← e, q1'] at hrg; cases hrg) q1'
  refine W_region fun K hK => ?_
  simp only [KA, KB, KP, KQ, KM, simprocAttr, KT w, KI, hw.KF, q0, hrt]
  refine hK _ _ ?_
  clear hK
  clear K
  repeat with_reducible (first | apply E0 | apply E1 | apply E2 | apply E3 | apply E4 | refine E5 (by decide) ?_ | apply E6 | apply E7 | apply E8 | apply E9 | apply Ea | apply Eb | apply Ec | apply Ed)
  refine W_region fun K hK => ?_
  simp only [KA, KB, KP, KQ, KM, simprocAttr, KT w, KI, hw.KF]
  refine hK _ _ ?_
  clear hK
  clear K
  repeat with_reducible (first | apply E0 | apply E1 | apply E2 | apply E3 | apply E4 | refine E5 (by decide) ?_ | apply E6 | apply E7 | apply E8 | apply E9 | apply Ea | apply Eb | apply Ec | apply Ed)
  refine W_condF (by simp only [KA, KP, KQ, simprocAttr, KT w, KI, hw.KF]) ?_
  repeat with_reducible (first | apply E0 | apply E1 | apply E2 | apply E3 | apply E4 | refine E5 (by decide) ?_ | apply E6 | apply E7 | apply E8 | apply E9 | apply Ea | apply Eb | apply Ec | apply Ed)
  refine W_region fun K hK => ?_
  simp only [KA, KB, KP, KQ, KM, simprocAttr, KT w, KI, hw.KF, q0, hcall]
  refine hK _ _ ?_
  clear hK
  clear K
  repeat with_reducible (first | apply E0 | apply E1 | apply E2 | apply E3 | apply E4 | refine E5 (by decide) ?_ | apply E6 | apply E7 | apply E8 | apply E9 | apply Ea | apply Eb | apply Ec | apply Ed)
  have hx2 : (h : Int) < (A.roots.length : Int) := by omega
  refine W_region fun K hK => ?_
  simp only [KA, KB, KP, KQ, KM, simprocAttr, KT w, KI, hw.KF, g5, hrg, hx0, hx1, hx2, hh, hrow, hset, ok5, b5, hro, splice]
  refine hK _ _ ?_
  clear hK
  clear K
  repeat with_reducible (first | apply E0 | apply E1 | apply E2 | apply E3 | apply E4 | refine E5 (by decide) ?_ | apply E6 | apply E7 | apply E8 | apply E9 | apply Ea | apply Eb | apply Ec | apply Ed)
  generalize S1.set ro (.seq rg 1 (rs (A.roots.set h none)) 0) = S2 at *
  obtain ⟨v, S3, hc3, hLQ⟩ := less_runs hw hkey hL c hc0 (by omega) hRB (hA.kb hkl) S2 hBD2
  obtain ⟨hBD3, hK3, -⟩ := hLQ
  have hcall3 : callF (cfg w) (lim (cfg w)) 38 [.ptr o 0, .int .i64 (i : Nat)] S2 = some (v, S3) := by
    rw [callF_raw (by exact hw.e38) (by exact hw.m38)]; exact hc3
  have n2 : 1 < S2.n := by
    obtain ⟨_, _, hh2, _⟩ := hBD2.facts
    omega
  have q13 := hK3.get 1 _ n2 (by omega) (fun g es rows e h => by cases h) (fun es c h => by cases h) q12
  obtain ⟨m6, sv6, rv6, R6, es6, clock6, h6⟩ := hBD3
  have g6 := h6.g
  have ok6 := h6.ok
  have b6 := h6.base
  have ln1 : 1 < S3.n := by have := hK3.n; omega
  have hlf : ∀ es v R, MV es v R S3 → leafC v = true ∧ v.cells = [v] := fun es v R hm => by
    rcases hm with ⟨_, rfl | rfl⟩ | ⟨_, _, rfl, _⟩ <;> exact ⟨rfl, rfl⟩
  obtain ⟨l1, l2⟩ := hlf _ _ _ h6.sv
  obtain ⟨l3, l4⟩ := hlf _ _ _ h6.rv
  refine W_region fun K hK => ?_
  simp only [KA, KB, KP, KQ, KM, simprocAttr, KT w, KI, hw.KF, hcall3]
  refine hK _ _ ?_
  clear hK
  clear K
  repeat with_reducible (first | apply E0 | apply E1 | apply E2 | apply E3 | apply E4 | refine E5 (by decide) ?_ | apply E6 | apply E7 | apply E8 | apply E9 | apply Ea | apply Eb | apply Ec | apply Ed)
  refine W_region fun K hK => ?_
  simp only [KA, KB, KP, KQ, KM, simprocAttr, KT w, KI, hw.KF, g6, q13, ok6, b6, ln1, l1, l2, l3, l4, splice]
  refine hK _ _ ?_
  clear hK
  clear K
  repeat with_reducible (first | apply E0 | apply E1 | apply E2 | apply E3 | apply E4 | refine E5 (by decide) ?_ | apply E6 | apply E7 | apply E8 | apply E9 | apply Ea | apply Eb | apply Ec | apply Ed)
  have gZ : ∀ X, (S3.set 1 X).get 1 = some X := fun X => St.get_sete ok6 ln1
  refine AtEnd_of rfl ?_
  simp only [KA, KP, KQ, simprocAttr, KT w, KI, hw.KF, gZ, RS_some, aresults_nil, aresults_tmp, aresults_cell, one]
  have fin : ∀ q x, q < S3.n → q ≠ 1 → S3.get q = some x → ∀ X, (S3.set 1 X).get q = some x := fun q x hq h1 hx X => by rw [St.get_setn ln1 h1]; exact hx
  refine fz_drop (R := R6) ?_ h6.rows ?_
  · exact h6.sv.kp (by rw [St.setN]; omega) fun q g rows e hq hg => fin q _ hq (fun e1 => by rw [e1, q13] at hg; cases hg) hg _
  · exact h6.rv.kp (by rw [St.setN]; omega) fun q g rows e hq hg => fin q _ hq (fun e1 => by rw [e1, q13] at hg; cases hg) hg _
end Go.Am.R
