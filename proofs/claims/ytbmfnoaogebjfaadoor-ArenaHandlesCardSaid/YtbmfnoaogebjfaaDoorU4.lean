/- THE REFERENCE'S free: the row of free slots is whole. -/
import Derived.Test.YtbmfnoaogebjfaaDoorU3
set_option linter.unusedSimpArgs false
set_option linter.unusedVariables false
set_option maxRecDepth 20000
namespace Go.Am.R
open Go.Proofs Go.IntWalk

variable {w : Ways}

def fl (pre : List Nat) (n : Nat) : Rows := (List.range n).map fun i => [.bool (decide (i ∈ pre))]
theorem fl_len (pre : List Nat) (n : Nat) : (fl pre n).length = n := by simp [fl]
theorem fl_get (pre : List Nat) {n i : Nat} (h : i < n) : (fl pre n)[i]? = some [.bool (decide (i ∈ pre))] := by simp [fl, h]
theorem fl_nil (n : Nat) : List.replicate n [AV.bool false] = fl [] n := by
  simp only [fl]
  refine List.ext_getElem? fun i => ?_
  by_cases h : i < n
  · simp [h]
  · simp [List.getElem?_eq_none, h]
theorem fl_set (pre : List Nat) {n i : Nat} (h : i < n) : (fl pre n).set i [.bool true] = fl (pre ++ [i]) n := by
  refine List.ext_getElem? fun j => ?_
  by_cases hj : j < n
  · rw [fl_get _ hj, List.getElem?_set]
    by_cases e : i = j
    · subst e; simp [fl_len, h]
    · have : j ≠ i := fun h => e h.symm
      simp [e, fl_get _ hj, this]
  · rw [List.getElem?_eq_none (by simp [fl_len]; omega), List.getElem?_eq_none (by simp [fl_len]; omega)]
def zc (S : List Sl) : Nat := S.countP fun s => decide (s.refs = 0)
theorem zc_take {S : List Sl} {j : Nat} {s : Sl} (h : S[j]? = some s) : zc (S.take (j + 1)) = zc (S.take j) + (if s.refs = 0 then 1 else 0) := by
  rw [zc, zc, List.take_add_one, h, Option.toList, List.countP_append]
  simp [List.countP_cons]
theorem zc_eq {S : List Sl} {l : List Nat} (hnd : l.Nodup) (hm : ∀ i, i ∈ l ↔ ∃ s, S[i]? = some s ∧ s.refs = 0) : zc S = l.length := by
  have e : ∀ (S : List Sl) (o : Nat), S.countP (fun s => decide (s.refs = 0)) = ((List.range' o S.length).filter fun i => match S[i - o]? with | some s => decide (s.refs = 0) | none => false).length := by
    intro S
    induction S with
    | nil => intro o; rfl
    | cons s S ih =>
      intro o
      rw [List.countP_cons, ih (o + 1), List.length_cons, List.range'_succ, List.filter_cons]
      have hc : ((List.range' (o + 1) S.length).filter fun i => match S[i - (o + 1)]? with | some s => decide (s.refs = 0) | none => false) = ((List.range' (o + 1) S.length).filter fun i => match (s :: S)[i - o]? with | some s => decide (s.refs = 0) | none => false) := by
        refine List.filter_congr fun i hi => ?_
        rw [List.mem_range'_1] at hi
        have : i - o = (i - (o + 1)) + 1 := by omega
        rw [this, List.getElem?_cons_succ]
      rw [hc]
      simp only [Nat.sub_self, List.getElem?_cons_zero]
      by_cases h : s.refs = 0
      · simp [h]
      · simp [h]
  rw [zc, e S 0]
  refine Nat.le_antisymm (nodup_len _ _ (List.Pairwise.filter _ List.nodup_range') fun i hi => ?_) (nodup_len _ _ hnd fun i hi => ?_)
  · rw [List.mem_filter] at hi
    obtain ⟨_, h2⟩ := hi
    rw [Nat.sub_zero] at h2
    rw [hm]
    cases h : S[i]? with
    | none => rw [h] at h2; simp at h2
    | some s => rw [h] at h2; exact ⟨s, rfl, by simpa using h2⟩
  · obtain ⟨s, h1, h2⟩ := (hm i).1 hi
    rw [List.mem_filter]
    refine ⟨?_, by rw [Nat.sub_zero, h1]; simpa using h2⟩
    rw [List.mem_range'_1]
    have := (List.getElem?_eq_some_iff.1 h1).1
    omega

theorem free30 (hw : Std w) (A : Ar) (hA : Inv A [] []) : PC (cfg w) 30 [arV A] (.bool true) := by
  refine PC_of (args' := [arV A]) hw.e30 hw.m30 (by simp [nrmA, nrm_arV]) ?_
  obtain ⟨l, hch, hnd, hmem⟩ := hA.free
  have hlen := hA.len
  have hzc := zc_eq hnd hmem
  have hneg : ∀ (i : Nat) (s : Sl), A.slots[i]? = some s → 0 ≤ s.refs := fun i s hs => by
    by_cases h : s.refs < 0
    · have := (hA.neg i s hs h).2; cases this
    · omega
  have hsl : (A.slots.map slCan).length = A.slots.length := List.length_map _
  have harv : arV A = .agg [.vec (A.slots.map slCan), .int .i64 (optI A.free), .vec (rs A.roots)] := rfl
  rw [harv]
  obtain ⟨SL, FR, RT⟩ := A
  simp only at hch hmem hlen hzc hneg hsl ⊢
  generalize rs RT = RR
  have hll : l.length ≤ 4096 := by have : zc SL ≤ SL.length := List.countP_le_length; omega
  have hrep := fl_nil SL.length
  have hflen := fl_len
  have hmk : ((0 : Int) ≤ (SL.length : Int)) := by omega
  have hmk2 : ((SL.length : Int) ≤ 281474976710656) := by omega
  have hmk3 := Int.le_refl (SL.length : Int)
  have hmk4 : (1 * (SL.length : Int) ≤ 281474976710656) := by omega
  refine call_of_W (fn30 w) rfl ?_
  simp only [Tryd.f30, List.length_cons, List.length_nil, ↓reduceIte, Int.reduceLT, Int.reduceLE, Int.reduceAdd, Int.reduceSub, Int.reduceNeg, Int.reduceMul, Int.reduceToNat, Int.reduceEq, Int.reduceNe, Int.reduceGT, Int.reduceGE, Nat.reducePow, IntKind.bits, Nat.reduceAdd, Nat.reduceSub, List.cons_append, List.nil_append]
  repeat with_reducible (first | refine E0 ?_ | refine E1 ?_ | refine E2 ?_ | refine E3 ?_ | refine E4 ?_ | refine E5 (by decide) ?_ | refine E6 ?_ | refine E7 ?_ | refine E8 ?_ | refine E9 ?_ | refine Ea ?_ | refine Eb ?_ | refine Ec ?_ | refine Ed ?_)
  refine W_region fun K hK => ?_
  simp only [KA, KB, KP, KQ, KM, simprocAttr, KT w, KI, hw.KF]
  refine hK _ _ ?_
  clear hK
  clear K
  repeat with_reducible (first | refine E0 ?_ | refine E1 ?_ | refine E2 ?_ | refine E3 ?_ | refine E4 ?_ | refine E5 (by decide) ?_ | refine E6 ?_ | refine E7 ?_ | refine E8 ?_ | refine E9 ?_ | refine Ea ?_ | refine Eb ?_ | refine Ec ?_ | refine Ed ?_)
  refine W_region fun K hK => ?_
  simp only [KA, KB, KP, KQ, KM, reduceCtorEq, ↓reduceIte, Int.reduceLT, Int.reduceLE, Int.reduceAdd, Int.reduceSub, Int.reduceNeg, Int.reduceMul, Int.reduceToNat, Int.reduceEq, Int.reduceNe, Int.reduceGT, Int.reduceGE, Nat.reducePow, Nat.reduceAdd, Nat.reduceSub, Nat.reduceLT, Nat.reduceMul, Nat.reduceDiv, Nat.reduceEqDiff, Nat.reduceLeDiff, KT w, KI, hw.KF, hsl, hmk, hmk2, hmk3, hmk4, hrep]
  refine hK _ _ ?_
  clear hK
  clear K
  repeat with_reducible (first | refine E0 ?_ | refine E1 ?_ | refine E2 ?_ | refine E3 ?_ | refine E4 ?_ | refine E5 (by decide) ?_ | refine E6 ?_ | refine E7 ?_ | refine E8 ?_ | refine E9 ?_ | refine Ea ?_ | refine Eb ?_ | refine Ec ?_ | refine Ed ?_)
  refine W_region fun K hK => ?_
  simp only [KA, KB, KP, KQ, KM, simprocAttr, KT w, KI, hw.KF]
  refine hK _ _ ?_
  clear hK
  clear K
  repeat with_reducible (first | refine E0 ?_ | refine E1 ?_ | refine E2 ?_ | refine E3 ?_ | refine E4 ?_ | refine E5 (by decide) ?_ | refine E6 ?_ | refine E7 ?_ | refine E8 ?_ | refine E9 ?_ | refine Ea ?_ | refine Eb ?_ | refine Ec ?_ | refine Ed ?_)
  refine W_region fun K hK => ?_
  simp only [KA, KB, KP, KQ, KM, simprocAttr, KT w, KI, hw.KF]
  refine hK _ _ ?_
  clear hK
  clear K
  repeat with_reducible (first | refine E0 ?_ | refine E1 ?_ | refine E2 ?_ | refine E3 ?_ | refine E4 ?_ | refine E5 (by decide) ?_ | refine E6 ?_ | refine E7 ?_ | refine E8 ?_ | refine E9 ?_ | refine Ea ?_ | refine Eb ?_ | refine Ec ?_ | refine Ed ?_)
  refine W_loop (fun k0 fr T => ∃ (tm : List AV) (pre rest : List Nat) (cur : Option Nat), fr = ⟨tm, [], none, 30⟩ ∧ T = (St.nil.push (.row [.vec (SL.map slCan), .int .i64 (optI FR), .vec RR] false)).push (.seq 0 1 (fl pre SL.length) 0) ∧ k0 = rest.length ∧ l = pre ++ rest ∧ Chain SL cur rest ∧
      tm.length = 66 ∧ tget tm 1 = .ptr 0 0 ∧ tget tm 3 = .sref 1 0 0 SL.length ∧ tget tm 4 = .int .i64 (pre.length : Nat) ∧ tget tm 5 = .int .i64 (optI cur)) l.length
    ⟨_, [], l, FR, rfl, rfl, rfl, rfl, hch, ?_⟩ ?_
  · simp only [KA, KP, KQ, simprocAttr, KT w, KI, hw.KF, Int.ofNat_zero, A2u]
  rintro k0 fr T ⟨tm, pre, rest, cur, rfl, rfl, rfl, hl, hc, htm, t1, t3, t4, t5⟩
  repeat with_reducible (first | refine E0 ?_ | refine E1 ?_ | refine E2 ?_ | refine E3 ?_ | refine E4 ?_ | refine E5 (by decide) ?_ | refine E6 ?_ | refine E7 ?_ | refine E8 ?_ | refine E9 ?_ | refine Ea ?_ | refine Eb ?_ | refine Ec ?_ | refine Ed ?_)
  cases hc with
  | nil =>
    have hpre : pre = l := by rw [hl]; simp
    subst hpre
    refine W_region fun K hK => ?_
    simp only [KA, KB, KP, KQ, KM, simprocAttr, KT w, KI, hw.KF, htm, t5, optI]
    refine hK _ _ ?_
    clear hK
    clear K
    repeat with_reducible (first | refine E0 ?_ | refine E1 ?_ | refine E2 ?_ | refine E3 ?_ | refine E4 ?_ | refine E5 (by decide) ?_ | refine E6 ?_ | refine E7 ?_ | refine E8 ?_ | refine E9 ?_ | refine Ea ?_ | refine Eb ?_ | refine Ec ?_ | refine Ed ?_)
    refine W_condF (by simp only [KA, KP, KQ, simprocAttr, KT w, KI, hw.KF, htm]) ?_
    repeat with_reducible (first | refine E0 ?_ | refine E1 ?_ | refine E2 ?_ | refine E3 ?_ | refine E4 ?_ | refine E5 (by decide) ?_ | refine E6 ?_ | refine E7 ?_ | refine E8 ?_ | refine E9 ?_ | refine Ea ?_ | refine Eb ?_ | refine Ec ?_ | refine Ed ?_)
    refine W_region fun K hK => ?_
    simp only [KA, KB, KP, KQ, KM, simprocAttr, KT w, KI, hw.KF]
    refine hK _ _ ?_
    clear hK
    clear K
    repeat with_reducible (first | refine E0 ?_ | refine E1 ?_ | refine E2 ?_ | refine E3 ?_ | refine E4 ?_ | refine E5 (by decide) ?_ | refine E6 ?_ | refine E7 ?_ | refine E8 ?_ | refine E9 ?_ | refine Ea ?_ | refine Eb ?_ | refine Ec ?_ | refine Ed ?_)
    refine W_loop (fun k0 fr T => ∃ (tm : List AV) (j : Nat), fr = ⟨tm, [], none, 30⟩ ∧ T = (St.nil.push (.row [.vec (SL.map slCan), .int .i64 (optI FR), .vec RR] false)).push (.seq 0 1 (fl pre SL.length) 0) ∧ k0 = SL.length - j ∧ j ≤ SL.length ∧
      tm.length = 66 ∧ tget tm 1 = .ptr 0 0 ∧ tget tm 3 = .sref 1 0 0 SL.length ∧ tget tm 4 = .int .i64 ((pre.length : Int) - (zc (SL.take j) : Nat)) ∧ tget tm 6 = .int .i64 (j : Nat)) SL.length
      ⟨_, 0, rfl, rfl, rfl, Nat.zero_le _, ?_⟩ ?_
    · simp only [KA, KP, KQ, simprocAttr, KT w, KI, hw.KF, Int.ofNat_zero, htm, t1, t3, t4, A42, zc, List.countP_nil, Int.sub_zero]
    rintro k0 fr T ⟨tm, j, rfl, rfl, rfl, hj, htm, t1, t3, t4, t6⟩
    repeat with_reducible (first | refine E0 ?_ | refine E1 ?_ | refine E2 ?_ | refine E3 ?_ | refine E4 ?_ | refine E5 (by decide) ?_ | refine E6 ?_ | refine E7 ?_ | refine E8 ?_ | refine E9 ?_ | refine Ea ?_ | refine Eb ?_ | refine Ec ?_ | refine Ed ?_)
    by_cases hjl : (j : Int) < (SL.length : Int)
    case neg =>
      have hje : j = SL.length := by omega
      have h0 : (pre.length : Int) - (zc (SL.take j) : Nat) = 0 := by rw [hje, List.take_length]; omega
      rw [h0] at t4
      refine W_region fun K hK => ?_
      simp only [KA, KB, KP, KQ, KM, simprocAttr, KT w, KI, hw.KF, htm, t3, t6, hjl]
      refine hK _ _ ?_
      clear hK
      clear K
      repeat with_reducible (first | refine E0 ?_ | refine E1 ?_ | refine E2 ?_ | refine E3 ?_ | refine E4 ?_ | refine E5 (by decide) ?_ | refine E6 ?_ | refine E7 ?_ | refine E8 ?_ | refine E9 ?_ | refine Ea ?_ | refine Eb ?_ | refine Ec ?_ | refine Ed ?_)
      refine W_condF (by simp only [KA, KP, KQ, simprocAttr, KT w, KI, hw.KF, htm]) ?_
      repeat with_reducible (first | refine E0 ?_ | refine E1 ?_ | refine E2 ?_ | refine E3 ?_ | refine E4 ?_ | refine E5 (by decide) ?_ | refine E6 ?_ | refine E7 ?_ | refine E8 ?_ | refine E9 ?_ | refine Ea ?_ | refine Eb ?_ | refine Ec ?_ | refine Ed ?_)
      refine W_region fun K hK => ?_
      simp only [KA, KB, KP, KQ, KM, simprocAttr, KT w, KI, hw.KF, htm, t4]
      refine hK _ _ ?_
      clear hK
      clear K
      repeat with_reducible (first | refine E0 ?_ | refine E1 ?_ | refine E2 ?_ | refine E3 ?_ | refine E4 ?_ | refine E5 (by decide) ?_ | refine E6 ?_ | refine E7 ?_ | refine E8 ?_ | refine E9 ?_ | refine Ea ?_ | refine Eb ?_ | refine Ec ?_ | refine Ed ?_)
      refine AtEnd_of rfl ?_
      simp only [KA, KP, KQ, simprocAttr, KT w, KI, hw.KF, htm, RS_some, aresults_nil, aresults_tmp, aresults_cell, one]
      exact FZ_bool
    have hjn : j < SL.length := by omega
    obtain ⟨s, hs⟩ : ∃ s, SL[j]? = some s := ⟨_, List.getElem?_eq_getElem hjn⟩
    have hrow : (SL.map slCan)[j]? = some (slCan s) := by rw [List.getElem?_map, hs]; rfl
    simp only [slCan, slC] at hrow
    have hj0 : ¬ (j : Int) < 0 := by omega
    have e1 : IntKind.i64.wrap ((j : Int) + 1) = (j : Int) + 1 := i64_in _ (by omega)
    have hs0 := hneg j s hs
    have hmx : max s.refs 0 = s.refs := by omega
    have hz1 := zc_take hs
    have hzl : zc (SL.take j) ≤ 4096 := by
      have : zc (SL.take j) ≤ (SL.take j).length := List.countP_le_length
      rw [List.length_take] at this
      omega
    rw [hmx] at hrow
    by_cases hz : s.refs = 0
    · rw [if_pos hz] at hz1
      rw [hz] at hrow
      have e2 : IntKind.i64.wrap ((pre.length : Int) - (zc (SL.take j) : Nat) - 1) = (pre.length : Int) - (zc (SL.take (j + 1)) : Nat) := by rw [i64_in _ (by omega), hz1]; omega
      refine W_region fun K hK => ?_
      simp only [KA, KB, KP, KQ, KM, simprocAttr, KT w, KI, hw.KF, htm, t3, t6, hjl]
      refine hK _ _ ?_
      clear hK
      clear K
      repeat with_reducible (first | refine E0 ?_ | refine E1 ?_ | refine E2 ?_ | refine E3 ?_ | refine E4 ?_ | refine E5 (by decide) ?_ | refine E6 ?_ | refine E7 ?_ | refine E8 ?_ | refine E9 ?_ | refine Ea ?_ | refine Eb ?_ | refine Ec ?_ | refine Ed ?_)
      refine W_condT (by simp only [KA, KP, KQ, simprocAttr, KT w, KI, hw.KF, htm]) ?_
      repeat with_reducible (first | refine E0 ?_ | refine E1 ?_ | refine E2 ?_ | refine E3 ?_ | refine E4 ?_ | refine E5 (by decide) ?_ | refine E6 ?_ | refine E7 ?_ | refine E8 ?_ | refine E9 ?_ | refine Ea ?_ | refine Eb ?_ | refine Ec ?_ | refine Ed ?_)
      refine W_region fun K hK => ?_
      simp only [KA, KB, KP, KQ, KM, simprocAttr, KT w, KI, hw.KF, htm, t1, t6, hrow, hsl, hj0, hjl]
      refine hK _ _ ?_
      clear hK
      clear K
      repeat with_reducible (first | refine E0 ?_ | refine E1 ?_ | refine E2 ?_ | refine E3 ?_ | refine E4 ?_ | refine E5 (by decide) ?_ | refine E6 ?_ | refine E7 ?_ | refine E8 ?_ | refine E9 ?_ | refine Ea ?_ | refine Eb ?_ | refine Ec ?_ | refine Ed ?_)
      refine W_condT (by simp only [KA, KP, KQ, simprocAttr, KT w, KI, hw.KF, htm]) ?_
      repeat with_reducible (first | refine E0 ?_ | refine E1 ?_ | refine E2 ?_ | refine E3 ?_ | refine E4 ?_ | refine E5 (by decide) ?_ | refine E6 ?_ | refine E7 ?_ | refine E8 ?_ | refine E9 ?_ | refine Ea ?_ | refine Eb ?_ | refine Ec ?_ | refine Ed ?_)
      refine W_region fun K hK => ?_
      simp only [KA, KB, KP, KQ, KM, simprocAttr, KT w, KI, hw.KF, htm, t4, e2]
      refine hK _ _ ?_
      clear hK
      clear K
      repeat with_reducible (first | refine E0 ?_ | refine E1 ?_ | refine E2 ?_ | refine E3 ?_ | refine E4 ?_ | refine E5 (by decide) ?_ | refine E6 ?_ | refine E7 ?_ | refine E8 ?_ | refine E9 ?_ | refine Ea ?_ | refine Eb ?_ | refine Ec ?_ | refine Ed ?_)
      refine W_region fun K hK => ?_
      simp only [KA, KB, KP, KQ, KM, simprocAttr, KT w, KI, hw.KF, htm, t6, e1]
      refine hK _ _ ?_
      clear hK
      clear K
      refine ⟨SL.length - (j + 1), by omega, _, j + 1, rfl, rfl, rfl, by omega, ?_⟩
      simp only [KA, KP, KQ, simprocAttr, KT w, KI, hw.KF, htm, t1, t3, Int.natCast_add, A3z]
    · rw [if_neg hz] at hz1
      have hz' : (s.refs = 0) = False := by simp [hz]
      refine W_region fun K hK => ?_
      simp only [KA, KB, KP, KQ, KM, simprocAttr, KT w, KI, hw.KF, htm, t3, t6, hjl]
      refine hK _ _ ?_
      clear hK
      clear K
      repeat with_reducible (first | refine E0 ?_ | refine E1 ?_ | refine E2 ?_ | refine E3 ?_ | refine E4 ?_ | refine E5 (by decide) ?_ | refine E6 ?_ | refine E7 ?_ | refine E8 ?_ | refine E9 ?_ | refine Ea ?_ | refine Eb ?_ | refine Ec ?_ | refine Ed ?_)
      refine W_condT (by simp only [KA, KP, KQ, simprocAttr, KT w, KI, hw.KF, htm]) ?_
      repeat with_reducible (first | refine E0 ?_ | refine E1 ?_ | refine E2 ?_ | refine E3 ?_ | refine E4 ?_ | refine E5 (by decide) ?_ | refine E6 ?_ | refine E7 ?_ | refine E8 ?_ | refine E9 ?_ | refine Ea ?_ | refine Eb ?_ | refine Ec ?_ | refine Ed ?_)
      refine W_region fun K hK => ?_
      simp only [KA, KB, KP, KQ, KM, simprocAttr, KT w, KI, hw.KF, htm, t1, t6, hrow, hsl, hj0, hjl]
      refine hK _ _ ?_
      clear hK
      clear K
      repeat with_reducible (first | refine E0 ?_ | refine E1 ?_ | refine E2 ?_ | refine E3 ?_ | refine E4 ?_ | refine E5 (by decide) ?_ | refine E6 ?_ | refine E7 ?_ | refine E8 ?_ | refine E9 ?_ | refine Ea ?_ | refine Eb ?_ | refine Ec ?_ | refine Ed ?_)
      refine W_condF (by simp only [KA, KP, KQ, simprocAttr, KT w, KI, hw.KF, htm, hz']) ?_
      repeat with_reducible (first | refine E0 ?_ | refine E1 ?_ | refine E2 ?_ | refine E3 ?_ | refine E4 ?_ | refine E5 (by decide) ?_ | refine E6 ?_ | refine E7 ?_ | refine E8 ?_ | refine E9 ?_ | refine Ea ?_ | refine Eb ?_ | refine Ec ?_ | refine Ed ?_)
      refine W_region fun K hK => ?_
      simp only [KA, KB, KP, KQ, KM, simprocAttr, KT w, KI, hw.KF, htm, t6, e1]
      refine hK _ _ ?_
      clear hK
      clear K
      refine ⟨SL.length - (j + 1), by omega, _, j + 1, rfl, rfl, rfl, by omega, ?_⟩
      rw [hz1]
      simp only [KA, KP, KQ, simprocAttr, KT w, KI, hw.KF, htm, t1, t3, t4, Int.natCast_add, A3z, A3w]
  | @cons i s rest' hs hc' =>
    have him : i ∈ l := by rw [hl]; simp
    obtain ⟨s', hs', hs0⟩ := (hmem i).1 him
    rw [hs] at hs'
    cases hs'
    have hil : i < SL.length := (List.getElem?_eq_some_iff.1 hs).1
    have hip : i ∉ pre := fun h => by
      rw [hl, List.nodup_append] at hnd
      exact hnd.2.2 i h i (by simp) rfl
    have hpl : pre.length ≤ 4096 := by rw [hl] at hll; simp at hll; omega
    have hrow : (SL.map slCan)[i]? = some (slCan s) := by rw [List.getElem?_map, hs]; rfl
    simp only [slCan, slC] at hrow
    rw [hs0, show max (0 : Int) 0 = 0 from rfl] at hrow
    have hfg := fl_get pre hil
    have hfs := fl_set pre hil
    have hd : decide (i ∈ pre) = false := by simp [hip]
    rw [hd] at hfg
    have hi0 : ¬ (i : Int) < 0 := by omega
    have hil' : (i : Int) < (SL.length : Int) := by omega
    have him1 : ¬ (i : Int) = -1 := by omega
    have hge : ¬ (SL.length : Int) ≤ (i : Int) := by omega
    have e1 : IntKind.i64.wrap ((pre.length : Int) + 1) = (pre.length : Int) + 1 := i64_in _ (by omega)
    have hoi : optI (some i) = (i : Int) := rfl
    rw [hoi] at t5
    refine W_region fun K hK => ?_
    simp only [KA, KB, KP, KQ, KM, simprocAttr, KT w, KI, hw.KF, htm, t5, him1]
    refine hK _ _ ?_
    clear hK
    clear K
    repeat with_reducible (first | refine E0 ?_ | refine E1 ?_ | refine E2 ?_ | refine E3 ?_ | refine E4 ?_ | refine E5 (by decide) ?_ | refine E6 ?_ | refine E7 ?_ | refine E8 ?_ | refine E9 ?_ | refine Ea ?_ | refine Eb ?_ | refine Ec ?_ | refine Ed ?_)
    refine W_condT (by simp only [KA, KP, KQ, simprocAttr, KT w, KI, hw.KF, htm]) ?_
    repeat with_reducible (first | refine E0 ?_ | refine E1 ?_ | refine E2 ?_ | refine E3 ?_ | refine E4 ?_ | refine E5 (by decide) ?_ | refine E6 ?_ | refine E7 ?_ | refine E8 ?_ | refine E9 ?_ | refine Ea ?_ | refine Eb ?_ | refine Ec ?_ | refine Ed ?_)
    refine W_region fun K hK => ?_
    simp only [KA, KB, KP, KQ, KM, simprocAttr, KT w, KI, hw.KF, htm, t1, t3, t5, hi0, hil', hge, hfg, hrow, hsl, hflen]
    refine hK _ _ ?_
    clear hK
    clear K
    repeat with_reducible (first | refine E0 ?_ | refine E1 ?_ | refine E2 ?_ | refine E3 ?_ | refine E4 ?_ | refine E5 (by decide) ?_ | refine E6 ?_ | refine E7 ?_ | refine E8 ?_ | refine E9 ?_ | refine Ea ?_ | refine Eb ?_ | refine Ec ?_ | refine Ed ?_)
    refine W_condF (by simp only [KA, KP, KQ, simprocAttr, KT w, KI, hw.KF, htm]) ?_
    repeat with_reducible (first | refine E0 ?_ | refine E1 ?_ | refine E2 ?_ | refine E3 ?_ | refine E4 ?_ | refine E5 (by decide) ?_ | refine E6 ?_ | refine E7 ?_ | refine E8 ?_ | refine E9 ?_ | refine Ea ?_ | refine Eb ?_ | refine Ec ?_ | refine Ed ?_)
    refine W_region fun K hK => ?_
    simp only [KA, KB, KP, KQ, KM, simprocAttr, KT w, KI, hw.KF, htm, t3, t5, hi0, hil', hfg, hfs, hflen, hil, splice]
    refine hK _ _ ?_
    clear hK
    clear K
    repeat with_reducible (first | refine E0 ?_ | refine E1 ?_ | refine E2 ?_ | refine E3 ?_ | refine E4 ?_ | refine E5 (by decide) ?_ | refine E6 ?_ | refine E7 ?_ | refine E8 ?_ | refine E9 ?_ | refine Ea ?_ | refine Eb ?_ | refine Ec ?_ | refine Ed ?_)
    refine W_region fun K hK => ?_
    simp only [KA, KB, KP, KQ, KM, simprocAttr, KT w, KI, hw.KF, htm, t4, e1]
    refine hK _ _ ?_
    clear hK
    clear K
    repeat with_reducible (first | refine E0 ?_ | refine E1 ?_ | refine E2 ?_ | refine E3 ?_ | refine E4 ?_ | refine E5 (by decide) ?_ | refine E6 ?_ | refine E7 ?_ | refine E8 ?_ | refine E9 ?_ | refine Ea ?_ | refine Eb ?_ | refine Ec ?_ | refine Ed ?_)
    refine W_region fun K hK => ?_
    simp only [KA, KB, KP, KQ, KM, simprocAttr, KT w, KI, hw.KF, htm, t1, t5, hi0, hil', hrow, hsl]
    refine hK _ _ ?_
    clear hK
    clear K
    refine ⟨rest'.length, by simp, _, pre ++ [i], rest', s.next, rfl, rfl, rfl, by rw [hl]; simp, hc', ?_⟩
    simp only [KA, KP, KQ, simprocAttr, KT w, KI, hw.KF, htm, t1, t3, List.length_append, A2t, A2u, Int.natCast_add, A3z]
end Go.Am.R
