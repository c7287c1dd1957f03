/- THE REFERENCE'S free ON ANY ARENA. -/
import Derived.Test.YtbmfnoaogebjfaaDoorV4
set_option linter.unusedSimpArgs false
set_option linter.unusedVariables false
set_option maxRecDepth 20000
namespace Go.Am.R
open Go.Proofs Go.IntWalk Classical

variable {w : Ways}

theorem free30 (hw : Std w) (A : RAr) (hlen : A.slots.length ≤ 4096) : PC (cfg w) 30 [A.av] (.bool (decide (FreeP A))) := by
  refine PC_of (args' := [A.av]) hw.e30 hw.m30 (by simp [nrmA, A.nrm]) ?_
  have fbad := fun {p : List Nat} {e : Int} (hp : RPath A.slots A.free p e) he hb => free_bad hp he hb
  have fend := fun {p : List Nat} (hp : RPath A.slots A.free p (-1)) hn => free_end hp hn
  have no : ¬ FreeP A → decide (FreeP A) = false := fun h => decide_eq_false h
  have same : ∀ {P : Prop} [Decidable P], (FreeP A ↔ P) → decide (FreeP A) = decide P := fun h => decide_eq_decide.2 h
  generalize FreeP A = FP at *
  obtain ⟨SL, FR, RT⟩ := A
  simp only at hlen fbad fend ⊢
  have hsl : (SL.map RSl.row).length = SL.length := List.length_map _
  unfold RAr.av RAr.cells
  simp only
  generalize ints RT = RR
  have hrep := fl_nil SL.length
  have hflen := fl_len
  have hmk : ((0 : Int) ≤ (SL.length : Int)) := by omega
  have hmk2 : ((SL.length : Int) ≤ 281474976710656) := by omega
  have hmk3 := Int.le_refl (SL.length : Int)
  have hmk4 : (1 * (SL.length : Int) ≤ 281474976710656) := by omega
  refine call_of_W (fn30 w) rfl ?_
  simp only [Tryd.f30, List.length_cons, List.length_nil, Nat.reduceAdd, Nat.reduceSub, List.cons_append, List.nil_append]
  repeat with_reducible (first | apply E0 | apply E1 | apply E2 | apply E3 | apply E4 | refine E5 (by decide) ?_ | apply E6 | apply E7 | apply E8 | apply E9 | apply Ea | apply Eb | apply Ec | apply Ed)
  refine W_region fun K hK => ?_
  simp only [KA, KB, KP, KQ, KM, simprocAttr, KT w, KI, hw.KF]
  refine hK _ _ ?_
  clear hK
  clear K
  repeat with_reducible (first | apply E0 | apply E1 | apply E2 | apply E3 | apply E4 | refine E5 (by decide) ?_ | apply E6 | apply E7 | apply E8 | apply E9 | apply Ea | apply Eb | apply Ec | apply Ed)
  refine W_region fun K hK => ?_
  simp only [KA, KB, KP, KQ, KM, reduceCtorEq, ↓reduceIte, Int.reduceLT, Int.reduceLE, Int.reduceAdd, Int.reduceSub, Int.reduceNeg, Int.reduceMul, Int.reduceToNat, Int.reduceEq, Int.reduceNe, Int.reduceGT, Int.reduceGE, Nat.reducePow, Nat.reduceAdd, Nat.reduceSub, Nat.reduceLT, Nat.reduceMul, Nat.reduceDiv, Nat.reduceEqDiff, Nat.reduceLeDiff, KT w, KI, hw.KF, hsl, hmk, hmk2, hmk3, hmk4, hrep]
  refine hK _ _ ?_
  clear hK
  clear K
  repeat with_reducible (first | apply E0 | apply E1 | apply E2 | apply E3 | apply E4 | refine E5 (by decide) ?_ | apply E6 | apply E7 | apply E8 | apply E9 | apply Ea | apply Eb | apply Ec | apply Ed)
  refine W_region fun K hK => ?_
  simp only [KA, KB, KP, KQ, KM, simprocAttr, KT w, KI, hw.KF]
  refine hK _ _ ?_
  clear hK
  clear K
  repeat with_reducible (first | apply E0 | apply E1 | apply E2 | apply E3 | apply E4 | refine E5 (by decide) ?_ | apply E6 | apply E7 | apply E8 | apply E9 | apply Ea | apply Eb | apply Ec | apply Ed)
  refine W_region fun K hK => ?_
  simp only [KA, KB, KP, KQ, KM, simprocAttr, KT w, KI, hw.KF]
  refine hK _ _ ?_
  clear hK
  clear K
  repeat with_reducible (first | apply E0 | apply E1 | apply E2 | apply E3 | apply E4 | refine E5 (by decide) ?_ | apply E6 | apply E7 | apply E8 | apply E9 | apply Ea | apply Eb | apply Ec | apply Ed)
  refine W_loop (fun k0 fr T => ∃ (tm : List AV) (pre : List Nat) (cur : Int), fr = ⟨tm, [], none, 30⟩ ∧ T = (St.nil.push (.row [.vec (SL.map RSl.row), .int .i64 FR, .vec RR] false)).push (.seq 0 1 (fl pre SL.length) 0) ∧ k0 = SL.length + 1 - pre.length ∧ RPath SL FR pre cur ∧ pre.Nodup ∧
      tm.length = 66 ∧ tget tm 1 = .ptr 0 0 ∧ tget tm 3 = .sref 1 0 0 SL.length ∧ tget tm 4 = .int .i64 (pre.length : Nat) ∧ tget tm 5 = .int .i64 cur) (SL.length + 1)
    ⟨_, [], FR, rfl, rfl, rfl, .nil _, List.nodup_nil, ?_⟩ ?_
  · simp only [KA, KP, KQ, simprocAttr, KT w, KI, hw.KF, Int.ofNat_zero, A2u]
  rintro k0 fr T ⟨tm, pre, cur, rfl, rfl, rfl, hpa, hnd, htm, t1, t3, t4, t5⟩
  have hpl := hpa.len hnd
  repeat with_reducible (first | apply E0 | apply E1 | apply E2 | apply E3 | apply E4 | refine E5 (by decide) ?_ | apply E6 | apply E7 | apply E8 | apply E9 | apply Ea | apply Eb | apply Ec | apply Ed)
  by_cases hc : cur = -1
  · subst hc
    have hfe := fend hpa hnd
    refine W_region fun K hK => ?_
    simp only [KA, KB, KP, KQ, KM, simprocAttr, KT w, KI, hw.KF, htm, t5]
    refine hK _ _ ?_
    clear hK
    clear K
    repeat with_reducible (first | apply E0 | apply E1 | apply E2 | apply E3 | apply E4 | refine E5 (by decide) ?_ | apply E6 | apply E7 | apply E8 | apply E9 | apply Ea | apply Eb | apply Ec | apply Ed)
    refine W_condF (by simp only [KA, KP, KQ, simprocAttr, KT w, KI, hw.KF, htm]) ?_
    repeat with_reducible (first | apply E0 | apply E1 | apply E2 | apply E3 | apply E4 | refine E5 (by decide) ?_ | apply E6 | apply E7 | apply E8 | apply E9 | apply Ea | apply Eb | apply Ec | apply Ed)
    refine W_region fun K hK => ?_
    simp only [KA, KB, KP, KQ, KM, simprocAttr, KT w, KI, hw.KF]
    refine hK _ _ ?_
    clear hK
    clear K
    repeat with_reducible (first | apply E0 | apply E1 | apply E2 | apply E3 | apply E4 | refine E5 (by decide) ?_ | apply E6 | apply E7 | apply E8 | apply E9 | apply Ea | apply Eb | apply Ec | apply Ed)
    refine W_loop (fun k0 fr T => ∃ (tm : List AV) (j : Nat), fr = ⟨tm, [], none, 30⟩ ∧ T = (St.nil.push (.row [.vec (SL.map RSl.row), .int .i64 FR, .vec RR] false)).push (.seq 0 1 (fl pre SL.length) 0) ∧ k0 = SL.length - j ∧ j ≤ SL.length ∧
      tm.length = 66 ∧ tget tm 1 = .ptr 0 0 ∧ tget tm 3 = .sref 1 0 0 SL.length ∧ tget tm 4 = .int .i64 ((pre.length : Int) - (rzc (SL.take j) : Nat)) ∧ tget tm 6 = .int .i64 (j : Nat)) SL.length
      ⟨_, 0, rfl, rfl, rfl, Nat.zero_le _, ?_⟩ ?_
    · simp only [KA, KP, KQ, simprocAttr, KT w, KI, hw.KF, Int.ofNat_zero, htm, t1, t3, t4, A42, rzc, List.countP_nil, Int.sub_zero]
    rintro k0 fr T ⟨tm, j, rfl, rfl, rfl, hj, htm, t1, t3, t4, t6⟩
    repeat with_reducible (first | apply E0 | apply E1 | apply E2 | apply E3 | apply E4 | refine E5 (by decide) ?_ | apply E6 | apply E7 | apply E8 | apply E9 | apply Ea | apply Eb | apply Ec | apply Ed)
    by_cases hjl : (j : Int) < (SL.length : Int)
    case neg =>
      have hje : j = SL.length := by omega
      rw [hje, List.take_length] at t4
      refine W_region fun K hK => ?_
      simp only [KA, KB, KP, KQ, KM, simprocAttr, KT w, KI, hw.KF, htm, t3, t6, hjl]
      refine hK _ _ ?_
      clear hK
      clear K
      repeat with_reducible (first | apply E0 | apply E1 | apply E2 | apply E3 | apply E4 | refine E5 (by decide) ?_ | apply E6 | apply E7 | apply E8 | apply E9 | apply Ea | apply Eb | apply Ec | apply Ed)
      refine W_condF (by simp only [KA, KP, KQ, simprocAttr, KT w, KI, hw.KF, htm]) ?_
      repeat with_reducible (first | apply E0 | apply E1 | apply E2 | apply E3 | apply E4 | refine E5 (by decide) ?_ | apply E6 | apply E7 | apply E8 | apply E9 | apply Ea | apply Eb | apply Ec | apply Ed)
      have hfin : decide FP = decide ((pre.length : Int) - (rzc SL : Nat) = 0) := same (P := (pre.length : Int) - (rzc SL : Nat) = 0) (hfe.trans ⟨fun h => by omega, fun h => by omega⟩)
      rw [hfin]
      refine W_region fun K hK => ?_
      simp only [KA, KB, KP, KQ, KM, simprocAttr, KT w, KI, hw.KF, htm, t4]
      refine hK _ _ ?_
      clear hK
      clear K
      repeat with_reducible (first | apply E0 | apply E1 | apply E2 | apply E3 | apply E4 | refine E5 (by decide) ?_ | apply E6 | apply E7 | apply E8 | apply E9 | apply Ea | apply Eb | apply Ec | apply Ed)
      refine AtEnd_of rfl ?_
      simp only [KA, KP, KQ, simprocAttr, KT w, KI, hw.KF, htm, RS_some, aresults_nil, aresults_tmp, aresults_cell, one]
      exact FZ_bool
    obtain ⟨s, hs⟩ := get_of_lt (l := SL) (i := j) (by omega)
    have hrow : (SL.map RSl.row)[j]? = some s.row := by rw [List.getElem?_map, hs]; rfl
    have hr10 := s.row_len
    have hr8 := s.row8
    generalize s.row = SR at *
    have hj0 : ¬ (j : Int) < 0 := by omega
    have e1 : IntKind.i64.wrap ((j : Int) + 1) = (j : Int) + 1 := i64_in _ (by omega)
    have hz1 := rzc_take hs
    have hzl : rzc (SL.take j) ≤ 4096 := by
      have : rzc (SL.take j) ≤ (SL.take j).length := List.countP_le_length
      rw [List.length_take] at this
      omega
    by_cases hz : s.refs = 0
    · rw [if_pos hz] at hz1
      rw [hz] at hr8
      have e2 : IntKind.i64.wrap ((pre.length : Int) - (rzc (SL.take j) : Nat) - 1) = (pre.length : Int) - (rzc (SL.take (j + 1)) : Nat) := by rw [i64_in _ (by omega), hz1]; omega
      refine W_region fun K hK => ?_
      simp only [KA, KB, KP, KQ, KM, simprocAttr, KT w, KI, hw.KF, htm, t3, t6, hjl]
      refine hK _ _ ?_
      clear hK
      clear K
      repeat with_reducible (first | apply E0 | apply E1 | apply E2 | apply E3 | apply E4 | refine E5 (by decide) ?_ | apply E6 | apply E7 | apply E8 | apply E9 | apply Ea | apply Eb | apply Ec | apply Ed)
      refine W_condT (by simp only [KA, KP, KQ, simprocAttr, KT w, KI, hw.KF, htm]) ?_
      repeat with_reducible (first | apply E0 | apply E1 | apply E2 | apply E3 | apply E4 | refine E5 (by decide) ?_ | apply E6 | apply E7 | apply E8 | apply E9 | apply Ea | apply Eb | apply Ec | apply Ed)
      refine W_region fun K hK => ?_
      simp only [KA, KB, KP, KQ, KM, simprocAttr, KT w, KI, hw.KF, htm, t1, t6, hrow, hr10, hr8, hsl, hj0, hjl]
      refine hK _ _ ?_
      clear hK
      clear K
      repeat with_reducible (first | apply E0 | apply E1 | apply E2 | apply E3 | apply E4 | refine E5 (by decide) ?_ | apply E6 | apply E7 | apply E8 | apply E9 | apply Ea | apply Eb | apply Ec | apply Ed)
      refine W_condT (by simp only [KA, KP, KQ, simprocAttr, KT w, KI, hw.KF, htm]) ?_
      repeat with_reducible (first | apply E0 | apply E1 | apply E2 | apply E3 | apply E4 | refine E5 (by decide) ?_ | apply E6 | apply E7 | apply E8 | apply E9 | apply Ea | apply Eb | apply Ec | apply Ed)
      refine W_region fun K hK => ?_
      simp only [KA, KB, KP, KQ, KM, simprocAttr, KT w, KI, hw.KF, htm, t4, e2]
      refine hK _ _ ?_
      clear hK
      clear K
      repeat with_reducible (first | apply E0 | apply E1 | apply E2 | apply E3 | apply E4 | refine E5 (by decide) ?_ | apply E6 | apply E7 | apply E8 | apply E9 | apply Ea | apply Eb | apply Ec | apply Ed)
      refine W_region fun K hK => ?_
      simp only [KA, KB, KP, KQ, KM, simprocAttr, KT w, KI, hw.KF, htm, t6, e1]
      refine hK _ _ ?_
      clear hK
      clear K
      refine ⟨SL.length - (j + 1), by omega, _, j + 1, rfl, rfl, rfl, by omega, ?_⟩
      simp only [KA, KP, KQ, simprocAttr, KT w, KI, hw.KF, htm, t1, t3, Int.natCast_add, A3z]
    · rw [if_neg hz] at hz1
      have hz' : (s.refs = 0) = False := by simp [hz]
      refine W_region fun K hK => ?_
      simp only [KA, KB, KP, KQ, KM, simprocAttr, KT w, KI, hw.KF, htm, t3, t6, hjl]
      refine hK _ _ ?_
      clear hK
      clear K
      repeat with_reducible (first | apply E0 | apply E1 | apply E2 | apply E3 | apply E4 | refine E5 (by decide) ?_ | apply E6 | apply E7 | apply E8 | apply E9 | apply Ea | apply Eb | apply Ec | apply Ed)
      refine W_condT (by simp only [KA, KP, KQ, simprocAttr, KT w, KI, hw.KF, htm]) ?_
      repeat with_reducible (first | apply E0 | apply E1 | apply E2 | apply E3 | apply E4 | refine E5 (by decide) ?_ | apply E6 | apply E7 | apply E8 | apply E9 | apply Ea | apply Eb | apply Ec | apply Ed)
      refine W_region fun K hK => ?_
      simp only [KA, KB, KP, KQ, KM, simprocAttr, KT w, KI, hw.KF, htm, t1, t6, hrow, hr10, hr8, hsl, hj0, hjl]
      refine hK _ _ ?_
      clear hK
      clear K
      repeat with_reducible (first | apply E0 | apply E1 | apply E2 | apply E3 | apply E4 | refine E5 (by decide) ?_ | apply E6 | apply E7 | apply E8 | apply E9 | apply Ea | apply Eb | apply Ec | apply Ed)
      refine W_condF (by simp only [KA, KP, KQ, simprocAttr, KT w, KI, hw.KF, htm, hz']) ?_
      repeat with_reducible (first | apply E0 | apply E1 | apply E2 | apply E3 | apply E4 | refine E5 (by decide) ?_ | apply E6 | apply E7 | apply E8 | apply E9 | apply Ea | apply Eb | apply Ec | apply Ed)
      refine W_region fun K hK => ?_
      simp only [KA, KB, KP, KQ, KM, simprocAttr, KT w, KI, hw.KF, htm, t6, e1]
      refine hK _ _ ?_
      clear hK
      clear K
      refine ⟨SL.length - (j + 1), by omega, _, j + 1, rfl, rfl, rfl, by omega, ?_⟩
      rw [hz1]
      simp only [KA, KP, KQ, simprocAttr, KT w, KI, hw.KF, htm, t1, t3, t4, Int.natCast_add, A3z, A3w]
  refine W_region fun K hK => ?_
  simp only [KA, KB, KP, KQ, KM, simprocAttr, KT w, KI, hw.KF, htm, t5, hc]
  refine hK _ _ ?_
  clear hK
  clear K
  repeat with_reducible (first | apply E0 | apply E1 | apply E2 | apply E3 | apply E4 | refine E5 (by decide) ?_ | apply E6 | apply E7 | apply E8 | apply E9 | apply Ea | apply Eb | apply Ec | apply Ed)
  refine W_condT (by simp only [KA, KP, KQ, simprocAttr, KT w, KI, hw.KF, htm]) ?_
  repeat with_reducible (first | apply E0 | apply E1 | apply E2 | apply E3 | apply E4 | refine E5 (by decide) ?_ | apply E6 | apply E7 | apply E8 | apply E9 | apply Ea | apply Eb | apply Ec | apply Ed)
  obtain ⟨bb, hbb⟩ : ∃ b : Bool, b = true ↔ (cur < 0 ∨ (SL.length : Int) ≤ cur ∨ cur.toNat ∈ pre ∨ ∃ s, SL[cur.toNat]? = some s ∧ s.refs > 0) := ⟨decide (cur < 0 ∨ (SL.length : Int) ≤ cur ∨ cur.toNat ∈ pre ∨ ∃ s, SL[cur.toNat]? = some s ∧ s.refs > 0), by simp only [decide_eq_true_eq]⟩
  refine W.mono (Q := fun ex fr S' => ex = .nrm ∧ S' = (St.nil.push (.row [.vec (SL.map RSl.row), .int .i64 FR, .vec RR] false)).push (.seq 0 1 (fl pre SL.length) 0) ∧ ∃ tm, fr = ⟨tm, [], none, 30⟩ ∧ tm.length = 66 ∧ tget tm 1 = .ptr 0 0 ∧ tget tm 3 = .sref 1 0 0 SL.length ∧ tget tm 4 = .int .i64 (pre.length : Nat) ∧ tget tm 5 = .int .i64 cur ∧ tget tm 43 = .bool bb) ?_ ?_
  · by_cases q1 : cur < 0
    · obtain rfl : bb = true := hbb.2 (.inl q1)
      refine W_region fun K hK => ?_
      simp only [KA, KB, KP, KQ, KM, simprocAttr, KT w, KI, hw.KF, htm, t1, t3, t5, q1]
      refine hK _ _ ?_
      clear hK
      clear K
      refine ⟨rfl, rfl, _, rfl, ?_⟩
      simp only [KA, KP, KQ, simprocAttr, KT w, KI, hw.KF, htm, t1, t3, t4, t5]
    by_cases q2 : cur ≥ (SL.length : Int)
    · obtain rfl : bb = true := hbb.2 (.inr (.inl q2))
      refine W_region fun K hK => ?_
      simp only [KA, KB, KP, KQ, KM, simprocAttr, KT w, KI, hw.KF, htm, t1, t3, t5, q1, q2]
      refine hK _ _ ?_
      clear hK
      clear K
      refine ⟨rfl, rfl, _, rfl, ?_⟩
      simp only [KA, KP, KQ, simprocAttr, KT w, KI, hw.KF, htm, t1, t3, t4, t5]
    have q0 : 0 ≤ cur := by omega
    have q3 : cur < (SL.length : Int) := by omega
    have hfg := fl_get pre (show cur.toNat < SL.length by omega)
    by_cases q4 : cur.toNat ∈ pre
    · obtain rfl : bb = true := hbb.2 (.inr (.inr (.inl q4)))
      rw [decide_eq_true q4] at hfg
      refine W_region fun K hK => ?_
      simp only [KA, KB, KP, KQ, KM, simprocAttr, KT w, KI, hw.KF, htm, t1, t3, t5, q0, q1, q2, q3, hfg, hflen]
      refine hK _ _ ?_
      clear hK
      clear K
      refine ⟨rfl, rfl, _, rfl, ?_⟩
      simp only [KA, KP, KQ, simprocAttr, KT w, KI, hw.KF, htm, t1, t3, t4, t5]
    rw [decide_eq_false q4] at hfg
    obtain ⟨s, hs⟩ := get_of_lt (l := SL) (i := cur.toNat) (by omega)
    have hrow : (SL.map RSl.row)[cur.toNat]? = some s.row := by rw [List.getElem?_map, hs]; rfl
    have hr10 := s.row_len
    have hr8 := s.row8
    generalize s.row = SR at *
    by_cases q5 : s.refs > 0
    · obtain rfl : bb = true := hbb.2 (.inr (.inr (.inr ⟨s, hs, q5⟩)))
      refine W_region fun K hK => ?_
      simp only [KA, KB, KP, KQ, KM, simprocAttr, KT w, KI, hw.KF, htm, t1, t3, t5, q0, q1, q2, q3, hfg, hflen, hrow, hr10, hr8, hsl, q5]
      refine hK _ _ ?_
      clear hK
      clear K
      refine ⟨rfl, rfl, _, rfl, ?_⟩
      simp only [KA, KP, KQ, simprocAttr, KT w, KI, hw.KF, htm, t1, t3, t4, t5]
    · obtain rfl : bb = false := bfalse hbb (fun h => by
        rcases h with h | h | h | ⟨s', h, h'⟩
        · exact q1 h
        · exact q2 h
        · exact q4 h
        · rw [hs] at h; cases h; exact q5 h')
      refine W_region fun K hK => ?_
      simp only [KA, KB, KP, KQ, KM, simprocAttr, KT w, KI, hw.KF, htm, t1, t3, t5, q0, q1, q2, q3, hfg, hflen, hrow, hr10, hr8, hsl, q5]
      refine hK _ _ ?_
      clear hK
      clear K
      refine ⟨rfl, rfl, _, rfl, ?_⟩
      simp only [KA, KP, KQ, simprocAttr, KT w, KI, hw.KF, htm, t1, t3, t4, t5]
  clear htm t1 t3 t4 t5 tm
  rintro ex fr S' ⟨rfl, rfl, tm, rfl, htm, t1, t3, t4, t5, t43⟩
  repeat with_reducible (first | apply E0 | apply E1 | apply E2 | apply E3 | apply E4 | refine E5 (by decide) ?_ | apply E6 | apply E7 | apply E8 | apply E9 | apply Ea | apply Eb | apply Ec | apply Ed)
  by_cases hB : cur < 0 ∨ (SL.length : Int) ≤ cur ∨ cur.toNat ∈ pre ∨ ∃ s, SL[cur.toNat]? = some s ∧ s.refs > 0
  · obtain rfl : bb = true := hbb.2 hB
    refine W_condT (by simp only [KA, KP, KQ, simprocAttr, KT w, KI, hw.KF, t43]) ?_
    repeat with_reducible (first | apply E0 | apply E1 | apply E2 | apply E3 | apply E4 | refine E5 (by decide) ?_ | apply E6 | apply E7 | apply E8 | apply E9 | apply Ea | apply Eb | apply Ec | apply Ed)
    refine W_region fun K hK => ?_
    simp only [KA, KB, KP, KQ, KM, simprocAttr, KT w, KI, hw.KF, htm]
    refine hK _ _ ?_
    clear hK
    clear K
    repeat with_reducible (first | apply E0 | apply E1 | apply E2 | apply E3 | apply E4 | refine E5 (by decide) ?_ | apply E6 | apply E7 | apply E8 | apply E9 | apply Ea | apply Eb | apply Ec | apply Ed)
    refine AtEnd_of rfl ?_
    simp only [KA, KP, KQ, simprocAttr, KT w, KI, hw.KF, htm, RS_some, aresults_nil, aresults_tmp, aresults_cell, one]
    rw [no (fbad hpa hc hB)]
    exact FZ_bool
  obtain rfl : bb = false := bfalse hbb hB
  have q1 : ¬ cur < 0 := fun h => hB (.inl h)
  have q2 : ¬ (SL.length : Int) ≤ cur := fun h => hB (.inr (.inl h))
  have q4 : cur.toNat ∉ pre := fun h => hB (.inr (.inr (.inl h)))
  obtain ⟨i, rfl⟩ : ∃ i : Nat, cur = (i : Int) := ⟨cur.toNat, by omega⟩
  rw [Int.toNat_natCast] at q4
  obtain ⟨s, hs⟩ := get_of_lt (l := SL) (i := i) (by omega)
  have q5 : ¬ s.refs > 0 := fun h => hB (.inr (.inr (.inr ⟨s, by rw [Int.toNat_natCast]; exact hs, h⟩)))
  have hrow : (SL.map RSl.row)[i]? = some s.row := by rw [List.getElem?_map, hs]; rfl
  have hr10 := s.row_len
  have hr9 := s.row9
  have hil : i < SL.length := by omega
  have hil' : (i : Int) < (SL.length : Int) := by omega
  have hfg := fl_get pre hil
  have hfs := fl_set pre hil
  have e1 : IntKind.i64.wrap ((pre.length : Int) + 1) = (pre.length : Int) + 1 := i64_in _ (by omega)
  have hpa' : RPath SL FR (pre ++ [i]) s.next := .snoc hpa hs q5
  have hnd' : (pre ++ [i]).Nodup := by
    rw [List.nodup_append]
    exact ⟨hnd, by simp, fun a ha b hb => by rw [List.mem_singleton] at hb; subst hb; intro e; subst e; exact q4 ha⟩
  have hpl' := hpa'.len hnd'
  generalize s.row = SR at *
  refine W_condF (by simp only [KA, KP, KQ, simprocAttr, KT w, KI, hw.KF, t43]) ?_
  repeat with_reducible (first | apply E0 | apply E1 | apply E2 | apply E3 | apply E4 | refine E5 (by decide) ?_ | apply E6 | apply E7 | apply E8 | apply E9 | apply Ea | apply Eb | apply Ec | apply Ed)
  refine W_region fun K hK => ?_
  simp only [KA, KB, KP, KQ, KM, simprocAttr, KT w, KI, hw.KF, htm, t3, t5, q1, hil', hfg, hfs, hflen, hil, splice]
  refine hK _ _ ?_
  clear hK
  clear K
  repeat with_reducible (first | apply E0 | apply E1 | apply E2 | apply E3 | apply E4 | refine E5 (by decide) ?_ | apply E6 | apply E7 | apply E8 | apply E9 | apply Ea | apply Eb | apply Ec | apply Ed)
  refine W_region fun K hK => ?_
  simp only [KA, KB, KP, KQ, KM, simprocAttr, KT w, KI, hw.KF, htm, t4, e1]
  refine hK _ _ ?_
  clear hK
  clear K
  repeat with_reducible (first | apply E0 | apply E1 | apply E2 | apply E3 | apply E4 | refine E5 (by decide) ?_ | apply E6 | apply E7 | apply E8 | apply E9 | apply Ea | apply Eb | apply Ec | apply Ed)
  refine W_region fun K hK => ?_
  simp only [KA, KB, KP, KQ, KM, simprocAttr, KT w, KI, hw.KF, htm, t1, t5, q1, hil', hrow, hr10, hr9, hsl]
  refine hK _ _ ?_
  clear hK
  clear K
  refine ⟨SL.length + 1 - (pre ++ [i]).length, by simp at hpl' ⊢; omega, _, pre ++ [i], s.next, rfl, rfl, rfl, hpa', hnd', ?_⟩
  simp only [KA, KP, KQ, simprocAttr, KT w, KI, hw.KF, htm, t1, t3, List.length_append, A2t, A2u, Int.natCast_add, A3z]
end Go.Am.R
