/- THE REFERENCE: a handle's root; taking in; releasing. -/
import Derived.Test.YtbmfnoaogebjfaaDoorW2
set_option linter.unusedSimpArgs false
set_option linter.unusedVariables false
set_option maxRecDepth 20000
namespace Go.Am.R
open Go.Proofs Go.IntWalk

variable {w : Ways}

def rootQ (A : Ar) (h : Int) : Int × Bool := if (rootR A h).2 = true then ((rootR A h).1, true) else (0, false)

set_option maxHeartbeats 2000000 in
theorem root39 (hw : Std w) (A : Ar) (h : Int) (hl : A.roots.length ≤ 1000000000) : PC (cfg w) 39 [arV A, .int .i64 h] (.tup [.int .i64 (rootQ A h).1, .bool (rootQ A h).2]) := by
  refine PC_of (args' := [arV A, .int .i64 h]) hw.e39 hw.m39 (by simp [nrmA, nrm_arV, nrm]) ?_
  obtain ⟨SL, FR, RT⟩ := A
  simp only at hl
  have hrl := rs_len RT
  unfold arV arC
  simp only
  generalize hR : rootQ ⟨SL, FR, RT⟩ h = R
  unfold rootQ rootR at hR
  simp only at hR
  refine call_of_W (fn39 w) rfl ?_
  simp only [Tryd.f39, List.length_cons, List.length_nil, Nat.reduceAdd, Nat.reduceSub, List.cons_append, List.nil_append]
  repeat with_reducible (first | apply E0 | apply E1 | apply E2 | apply E3 | apply E4 | refine E5 (by decide) ?_ | apply E6 | apply E7 | apply E8 | apply E9 | apply Ea | apply Eb | apply Ec | apply Ed)
  refine W_region fun K hK => ?_
  simp only [KA, KB, KP, KQ, KM, simprocAttr, KT w, KI, hw.KF]
  refine hK _ _ ?_
  clear hK
  clear K
  repeat with_reducible (first | apply E0 | apply E1 | apply E2 | apply E3 | apply E4 | refine E5 (by decide) ?_ | apply E6 | apply E7 | apply E8 | apply E9 | apply Ea | apply Eb | apply Ec | apply Ed)
  by_cases h0 : h < 0
  · rw [if_neg (show ¬ 0 ≤ h by omega)] at hR
    simp only [Bool.false_eq_true, if_false] at hR
    subst hR
    refine W_region fun K hK => ?_
    simp only [KA, KB, KP, KQ, KM, simprocAttr, KT w, KI, hw.KF, h0]
    refine hK _ _ ?_
    clear hK
    clear K
    repeat with_reducible (first | apply E0 | apply E1 | apply E2 | apply E3 | apply E4 | refine E5 (by decide) ?_ | apply E6 | apply E7 | apply E8 | apply E9 | apply Ea | apply Eb | apply Ec | apply Ed)
    refine W_condT (by simp only [KA, KP, KQ, simprocAttr, KT w, KI, hw.KF, h0]) ?_
    repeat with_reducible (first | apply E0 | apply E1 | apply E2 | apply E3 | apply E4 | refine E5 (by decide) ?_ | apply E6 | apply E7 | apply E8 | apply E9 | apply Ea | apply Eb | apply Ec | apply Ed)
    refine W_region fun K hK => ?_
    simp only [KA, KB, KP, KQ, KM, simprocAttr, KT w, KI, hw.KF]
    refine hK _ _ ?_
    clear hK
    clear K
    repeat with_reducible (first | apply E0 | apply E1 | apply E2 | apply E3 | apply E4 | refine E5 (by decide) ?_ | apply E6 | apply E7 | apply E8 | apply E9 | apply Ea | apply Eb | apply Ec | apply Ed)
    refine AtEnd_of rfl ?_
    simp only [KA, KP, KQ, simprocAttr, KT w, KI, hw.KF, RS_some, aresults_nil, aresults_tmp, aresults_cell, one]
    exact FZ_tup rfl
  rw [if_pos (show 0 ≤ h by omega)] at hR
  cases hr : RT[h.toNat]? with
  | none =>
    rw [hr] at hR
    simp only [Bool.false_eq_true, if_false] at hR
    subst hR
    have h1 : (RT.length : Int) ≤ h := by have := List.getElem?_eq_none_iff.1 hr; omega
    refine W_region fun K hK => ?_
    simp only [KA, KB, KP, KQ, KM, simprocAttr, KT w, KI, hw.KF, h0, hrl, h1]
    refine hK _ _ ?_
    clear hK
    clear K
    repeat with_reducible (first | apply E0 | apply E1 | apply E2 | apply E3 | apply E4 | refine E5 (by decide) ?_ | apply E6 | apply E7 | apply E8 | apply E9 | apply Ea | apply Eb | apply Ec | apply Ed)
    refine W_condT (by simp only [KA, KP, KQ, simprocAttr, KT w, KI, hw.KF, h1]) ?_
    repeat with_reducible (first | apply E0 | apply E1 | apply E2 | apply E3 | apply E4 | refine E5 (by decide) ?_ | apply E6 | apply E7 | apply E8 | apply E9 | apply Ea | apply Eb | apply Ec | apply Ed)
    refine W_region fun K hK => ?_
    simp only [KA, KB, KP, KQ, KM, simprocAttr, KT w, KI, hw.KF]
    refine hK _ _ ?_
    clear hK
    clear K
    repeat with_reducible (first | apply E0 | apply E1 | apply E2 | apply E3 | apply E4 | refine E5 (by decide) ?_ | apply E6 | apply E7 | apply E8 | apply E9 | apply Ea | apply Eb | apply Ec | apply Ed)
    refine AtEnd_of rfl ?_
    simp only [KA, KP, KQ, simprocAttr, KT w, KI, hw.KF, RS_some, aresults_nil, aresults_tmp, aresults_cell, one]
    exact FZ_tup rfl
  | some oo =>
    rw [hr] at hR
    have h1 : ¬ (RT.length : Int) ≤ h := by have := (List.getElem?_eq_some_iff.1 hr).1; omega
    have h2 : h < (RT.length : Int) := by omega
    have h3 : (0 : Int) ≤ h := by omega
    have hrow : (rs RT)[h.toNat]? = some [.int .i64 (optI oo)] := by rw [rs_get, hr]; rfl
    cases oo with
    | none =>
      simp only [Option.isSome_none, Bool.false_eq_true, if_false] at hR
      subst hR
      have hm : optI none = -1 := rfl
      rw [hm] at hrow
      generalize rs RT = RR at *
      refine W_region fun K hK => ?_
      simp only [KA, KB, KP, KQ, KM, simprocAttr, KT w, KI, hw.KF, h0, hrl, h1, h2, h3, hrow]
      refine hK _ _ ?_
      clear hK
      clear K
      repeat with_reducible (first | apply E0 | apply E1 | apply E2 | apply E3 | apply E4 | refine E5 (by decide) ?_ | apply E6 | apply E7 | apply E8 | apply E9 | apply Ea | apply Eb | apply Ec | apply Ed)
      refine W_condT (by simp only [KA, KP, KQ, simprocAttr, KT w, KI, hw.KF, h1]) ?_
      repeat with_reducible (first | apply E0 | apply E1 | apply E2 | apply E3 | apply E4 | refine E5 (by decide) ?_ | apply E6 | apply E7 | apply E8 | apply E9 | apply Ea | apply Eb | apply Ec | apply Ed)
      refine W_region fun K hK => ?_
      simp only [KA, KB, KP, KQ, KM, simprocAttr, KT w, KI, hw.KF]
      refine hK _ _ ?_
      clear hK
      clear K
      repeat with_reducible (first | apply E0 | apply E1 | apply E2 | apply E3 | apply E4 | refine E5 (by decide) ?_ | apply E6 | apply E7 | apply E8 | apply E9 | apply Ea | apply Eb | apply Ec | apply Ed)
      refine AtEnd_of rfl ?_
      simp only [KA, KP, KQ, simprocAttr, KT w, KI, hw.KF, RS_some, aresults_nil, aresults_tmp, aresults_cell, one]
      exact FZ_tup rfl
    | some q =>
      simp only [Option.isSome_some, if_true] at hR
      subst hR
      have hm : optI (some q) = (q : Int) := rfl
      have hq : ¬ (q : Int) < 0 := by omega
      rw [hm] at hrow ⊢
      generalize rs RT = RR at *
      refine W_region fun K hK => ?_
      simp only [KA, KB, KP, KQ, KM, simprocAttr, KT w, KI, hw.KF, h0, hrl, h1, h2, h3, hrow, hq]
      refine hK _ _ ?_
      clear hK
      clear K
      repeat with_reducible (first | apply E0 | apply E1 | apply E2 | apply E3 | apply E4 | refine E5 (by decide) ?_ | apply E6 | apply E7 | apply E8 | apply E9 | apply Ea | apply Eb | apply Ec | apply Ed)
      refine W_condF (by simp only [KA, KP, KQ, simprocAttr, KT w, KI, hw.KF, h1]) ?_
      repeat with_reducible (first | apply E0 | apply E1 | apply E2 | apply E3 | apply E4 | refine E5 (by decide) ?_ | apply E6 | apply E7 | apply E8 | apply E9 | apply Ea | apply Eb | apply Ec | apply Ed)
      refine W_region fun K hK => ?_
      simp only [KA, KB, KP, KQ, KM, simprocAttr, KT w, KI, hw.KF, h2, h3, hrl, hrow]
      refine hK _ _ ?_
      clear hK
      clear K
      repeat with_reducible (first | apply E0 | apply E1 | apply E2 | apply E3 | apply E4 | refine E5 (by decide) ?_ | apply E6 | apply E7 | apply E8 | apply E9 | apply Ea | apply Eb | apply Ec | apply Ed)
      refine AtEnd_of rfl ?_
      simp only [KA, KP, KQ, simprocAttr, KT w, KI, hw.KF, RS_some, aresults_nil, aresults_tmp, aresults_cell, one]
      exact FZ_tup rfl

/-! ### Rows out of sight -/
theorem plain_noseq {S : St} {k g es : Nat} {rows : Rows} {e : Nat} (h : isPlain (S.get k) = true) (hg : S.get k = some (.seq g es rows e)) : False := by
  rw [hg] at h; cases h
theorem Rd.kill {sv rv : AV} {R : Rows} {A : Ar} {S : St} {K : List Nat} (h : Rd sv rv R A S) (hK : KPl K S) : Rd sv rv R A (S.kill K) := by
  have hn : ∀ k ∈ K, k < S.n := fun k hk => by obtain ⟨a, ha, _⟩ := isPlain_some (hK k hk); exact St.get_lt ha
  refine h.keep (Keeps.kill h.ok).1 (by rw [(Keeps.kill h.ok).2]; exact h.base) (by rw [St.kill_n]; omega) fun q g es rows e hq hg => ?_
  rw [St.get_kill h.ok hn, if_neg (fun hm => plain_noseq (hK q hm) hg)]
  exact hg
theorem Rd.rest {sv rv : AV} {R : Rows} {A : Ar} {S S2 : St} {K : List Nat} (h : Rd sv rv R A S2) (hK : KPl K S) (hd : ∀ k ∈ K, S2.get k = some .dead) : Rd sv rv R A (S.rest S2 K) := by
  refine h.keep (Keeps.rest h.ok).1 (by rw [(Keeps.rest h.ok).2]; exact h.base) (by rw [St.rest_n]; omega) fun q g es rows e hq hg => ?_
  rw [St.get_rest h.ok (fun k hk => St.get_lt (hd k hk)) (fun k hk => by obtain ⟨a, ha, _⟩ := isPlain_some (hK k hk); rw [ha]; rfl), if_neg (fun hm => by rw [hd q hm] at hg; cases hg)]
  exact hg

set_option maxHeartbeats 8000000 in
theorem add13 (hw : Std w) (hr : StdR w) (A : Ar) (n : Node) (hA : Inv A [] []) (c : Int) (hRB : RB c A.slots) (hc0 : 0 ≤ c) (hcn : c + nn n ≤ 1000000000000) (hkl : KL' A.slots) (hrl : A.roots.length ≤ 100000) :
    PC (cfg w) 13 [arV A, n.av] (.tup [arV (addR A n).1, .int .i64 (addR A n).2.1, .int .i64 (addR A n).2.2]) := by
  refine PC_of (args' := [arV A, n.av]) hw.e13 hw.m13 (by simp [nrmA, nrm_arV, nrm, Node.nrm_all]) ?_
  have hz : ∀ s ∈ A.slots, 0 ≤ s.refs := nonneg hA
  have hown := fun S h1 h2 => own35 hw hr A hz (by have := hA.len; omega) (by omega) S h1 h2
  have hrn := rs_len A.roots
  generalize hR : addR A n = R
  unfold addR at hR
  have harv : arV A = .agg [.vec (A.slots.map slCan), .int .i64 (optI A.free), .vec (rs A.roots)] := rfl
  have hxc : n.cells.length = 7 := Node.cells_len n
  have hxt : n.cells.take 7 = n.cells := Node.cells_take n
  have hxd : n.cells.drop 7 = [] := Node.cells_drop n
  refine call_of_W (fn13 w) rfl ?_
  simp only [Tryd.f13, List.length_cons, List.length_nil, Nat.reduceAdd, Nat.reduceSub, List.cons_append, List.nil_append]
  repeat with_reducible (first | apply E0 | apply E1 | apply E2 | apply E3 | apply E4 | refine E5 (by decide) ?_ | apply E6 | apply E7 | apply E8 | apply E9 | apply Ea | apply Eb | apply Ec | apply Ed)
  rw [harv]
  refine W_region fun K hK => ?_
  simp only [KA, KB, KP, KQ, KM, simprocAttr, KT w, KI, hw.KF]
  refine hK _ _ ?_
  clear hK
  clear K
  repeat with_reducible (first | apply E0 | apply E1 | apply E2 | apply E3 | apply E4 | refine E5 (by decide) ?_ | apply E6 | apply E7 | apply E8 | apply E9 | apply Ea | apply Eb | apply Ec | apply Ed)
  have q0 : ((((St.nil.push (.row [.vec (A.slots.map slCan), .int .i64 (optI A.free), .vec (rs A.roots)] false)).push (.row n.cells false)).push (.row [.nils, .int .i64 0, .nils] false))).get 0 = some (.row [.vec (A.slots.map slCan), .int .i64 (optI A.free), .vec (rs A.roots)] false) := rfl
  have q1 : ((((St.nil.push (.row [.vec (A.slots.map slCan), .int .i64 (optI A.free), .vec (rs A.roots)] false)).push (.row n.cells false)).push (.row [.nils, .int .i64 0, .nils] false))).get 1 = some (.row n.cells false) := rfl
  have q2 : ((((St.nil.push (.row [.vec (A.slots.map slCan), .int .i64 (optI A.free), .vec (rs A.roots)] false)).push (.row n.cells false)).push (.row [.nils, .int .i64 0, .nils] false))).get 2 = some (.row [.nils, .int .i64 0, .nils] false) := rfl
  have ok0 : ((((St.nil.push (.row [.vec (A.slots.map slCan), .int .i64 (optI A.free), .vec (rs A.roots)] false)).push (.row n.cells false)).push (.row [.nils, .int .i64 0, .nils] false))).ok := St.ok_push (St.ok_push (St.ok_push St.ok_nil))
  have b0 : ((((St.nil.push (.row [.vec (A.slots.map slCan), .int .i64 (optI A.free), .vec (rs A.roots)] false)).push (.row n.cells false)).push (.row [.nils, .int .i64 0, .nils] false))).base = 0 := rfl
  have n0 : ((((St.nil.push (.row [.vec (A.slots.map slCan), .int .i64 (optI A.free), .vec (rs A.roots)] false)).push (.row n.cells false)).push (.row [.nils, .int .i64 0, .nils] false))).n = 3 := rfl
  generalize (((St.nil.push (.row [.vec (A.slots.map slCan), .int .i64 (optI A.free), .vec (rs A.roots)] false)).push (.row n.cells false)).push (.row [.nils, .int .i64 0, .nils] false)) = S0 at *
  have ln2 : 2 < S0.n := by omega
  have gX : ∀ X, (S0.set 2 X).get 2 = some X := fun X => St.get_sete ok0 ln2
  by_cases h1 : (4096 : Int) ≤ (A.roots.length : Int)
  · rw [if_pos (by omega)] at hR
    subst hR
    refine W_region fun K hK => ?_
    simp only [KA, KB, KP, KQ, KM, simprocAttr, KT w, KI, hw.KF, q0, hrn, h1]
    refine hK _ _ ?_
    clear hK
    clear K
    repeat with_reducible (first | apply E0 | apply E1 | apply E2 | apply E3 | apply E4 | refine E5 (by decide) ?_ | apply E6 | apply E7 | apply E8 | apply E9 | apply Ea | apply Eb | apply Ec | apply Ed)
    refine W_condT (by simp only [KA, KP, KQ, simprocAttr, KT w, KI, hw.KF, h1]) ?_
    repeat with_reducible (first | apply E0 | apply E1 | apply E2 | apply E3 | apply E4 | refine E5 (by decide) ?_ | apply E6 | apply E7 | apply E8 | apply E9 | apply Ea | apply Eb | apply Ec | apply Ed)
    refine W_region fun K hK => ?_
    simp only [KA, KB, KP, KQ, KM, simprocAttr, KT w, KI, hw.KF, q0, q2, ok0, b0, ln2, splice]
    refine hK _ _ ?_
    clear hK
    clear K
    repeat with_reducible (first | apply E0 | apply E1 | apply E2 | apply E3 | apply E4 | refine E5 (by decide) ?_ | apply E6 | apply E7 | apply E8 | apply E9 | apply Ea | apply Eb | apply Ec | apply Ed)
    refine AtEnd_of rfl ?_
    simp only [KA, KP, KQ, simprocAttr, KT w, KI, hw.KF, gX, RS_some, aresults_nil, aresults_tmp, aresults_cell, one]
    exact FZ_tup (by simp [nrmA, arV, arC, nrm, nrmL, nrm_can, nrmR_rs])
  rw [if_neg (by omega)] at hR
  refine W_region fun K hK => ?_
  simp only [KA, KB, KP, KQ, KM, simprocAttr, KT w, KI, hw.KF, q0, hrn, h1]
  refine hK _ _ ?_
  clear hK
  clear K
  repeat with_reducible (first | apply E0 | apply E1 | apply E2 | apply E3 | apply E4 | refine E5 (by decide) ?_ | apply E6 | apply E7 | apply E8 | apply E9 | apply Ea | apply Eb | apply Ec | apply Ed)
  refine W_condF (by simp only [KA, KP, KQ, simprocAttr, KT w, KI, hw.KF, h1]) ?_
  repeat with_reducible (first | apply E0 | apply E1 | apply E2 | apply E3 | apply E4 | refine E5 (by decide) ?_ | apply E6 | apply E7 | apply E8 | apply E9 | apply Ea | apply Eb | apply Ec | apply Ed)
  have hraw : ∀ f ∈ [35, 34], rawB (cfg w) f = (f == 35 || f == 34) := fun f hf => by
    rcases List.mem_cons.1 hf with rfl | hf
    · simp [rawB, cfgP_ext, cfgP_mode, hw.e35, hw.m35]
    · obtain rfl := List.mem_singleton.1 hf
      simp [rawB, cfgP_ext, cfgP_mode, hw.e34, hw.m34]
  refine W_cut (fun tm => tm.length = 41 ∧ tget tm 2 = .ptr 0 0 ∧ tget tm 3 = .ptr 1 0 ∧ tget tm 4 = .ptr 2 0) (by simp only [KA, KP, KQ, simprocAttr, KT w, KI, hw.KF]; try simp) fun tm ⟨htm, t2, t3, t4⟩ => ?_
  refine W_regionR [[], [0], [], [1, 0, 2], [3, 1, 0, 2], [4, 3, 1, 0, 2], [4, 3, 1, 0, 2], [4, 3, 1, 0, 2], [], [8, 5, 4, 3, 1, 0, 2], [6, 4, 3, 1, 0, 2, 9, 8, 5], [7, 4, 3, 1, 0, 2, 10, 6, 9, 8, 5]] [8] [3, 1]
    (by decide +kernel) (by decide +kernel) (by decide +kernel) ((resvd_eq (fun f => f == 35 || f == 34) [35, 34] (by decide +kernel) hraw).trans (by decide +kernel)) (by simp)
    (by rw [aside_eq (fun f => f == 35 || f == 34) [35, 34] [3] (by decide +kernel) hraw (by decide +kernel)]; simp [placesOf, refs, t3, n0, q1, isRow]) ok0 fun Q' hQ' => ?_
  have hT1 : S0.pushD [8].length = S0.push .dead := rfl
  rw [hT1, n0]
  have p0 : (S0.push .dead).get 0 = _ := (St.get_pushn (by omega)).trans q0
  have p1 : (S0.push .dead).get 1 = _ := (St.get_pushn (by omega)).trans q1
  have p2 : (S0.push .dead).get 2 = _ := (St.get_pushn (by omega)).trans q2
  have p3 : (S0.push .dead).get 3 = some .dead := St.get_pushq n0.symm
  have n1 : (S0.push .dead).n = 4 := by rw [St.pushN]; omega
  have ok1 : (S0.push .dead).ok := St.ok_push ok0
  have b1 : (S0.push .dead).base = 0 := by rw [St.pushB]; exact b0
  generalize S0.push .dead = T1 at *
  have hK1 : KPl [3, 1] T1 := fun k hk => by
    rcases List.mem_cons.1 hk with rfl | hk
    · rw [p3]; rfl
    · rw [List.mem_singleton.1 hk, p1]; rfl
  have hKn : ∀ {T : St}, KPl [3, 1] T → ∀ k ∈ [3, 1], k < T.n := fun h k hk => by obtain ⟨a, ha, _⟩ := isPlain_some (h k hk); exact St.get_lt ha
  have hKs : ∀ {T : St}, KPl [3, 1] T → ∀ k ∈ [3, 1], (T.get k).isSome = true := fun h k hk => by obtain ⟨a, ha, _⟩ := isPlain_some (h k hk); rw [ha]; rfl
  have hK4 : ∀ k ∈ [3, 1], k < 4 := by decide
  have gk1 := fun o => St.get_kill (K := [3, 1]) (o := o) ok1 (hKn hK1)
  obtain ⟨v, S2, hc2, K2, sv, rv, RR2, rfl, hRd2⟩ := hown (T1.kill [3, 1]) (Keeps.kill ok1).1 (by rw [(Keeps.kill ok1).2]; exact b1)
  have ok2 := hRd2.ok
  have kget : ∀ q y, q < 4 → (∀ g es rows e, y ≠ AObj.seq g es rows e) → (T1.kill [3, 1]).get q = some y → S2.get q = some y := fun q y hq hx hg => K2.get q y (by rw [St.kill_n]; omega) hx hg
  have d2 : ∀ k ∈ [3, 1], S2.get k = some .dead := fun k hk => kget k _ (by have := hKn hK1 k hk; omega) (fun g es rows e h => by cases h) (by rw [gk1, if_pos hk])
  have gr2 := fun o => St.get_rest (S := T1) (K := [3, 1]) (T := S2) (o := o) ok2 (fun k hk => St.get_lt (d2 k hk)) (hKs hK1)
  have hRd3 := hRd2.rest hK1 d2
  have r0 : (T1.rest S2 [3, 1]).get 0 = some (.row [.vec (A.slots.map slCan), .int .i64 (optI A.free), .vec (rs A.roots)] false) := by
    rw [gr2, if_neg (by decide)]
    exact kget 0 _ (by omega) (fun g es rows e h => by cases h) (by rw [gk1, if_neg (by decide)]; exact p0)
  have r1 : (T1.rest S2 [3, 1]).get 1 = some (.row n.cells false) := by rw [gr2, if_pos (by decide)]; exact p1
  have r2 : (T1.rest S2 [3, 1]).get 2 = some (.row [.nils, .int .i64 0, .nils] false) := by
    rw [gr2, if_neg (by decide)]
    exact kget 2 _ (by omega) (fun g es rows e h => by cases h) (by rw [gk1, if_neg (by decide)]; exact p2)
  have r3 : (T1.rest S2 [3, 1]).get 3 = some .dead := by rw [gr2, if_pos (by decide)]; exact p3
  simp only [KA, KB, KP, KQ, KM, simprocAttr, KT w, KI, hw.KF, RR_step, RRa_some, RRa_none, rfoot, refsO, refs, A5j, A5k, A5n, A5o, Nat.reduceBEq, A2w, A2x, htm, t2, t3, p0]
  refine RR_raw (S2 := S2) (v := .agg [sv, .int .i64 (optI A.free), rv]) (al := [arV A]) rfl (by simp) (by exact hw.e35) (by exact hw.m35) (by rw [harv]; simp only [KA, KB, KP, KQ, KM, reduceCtorEq, ↓reduceIte, Int.reduceLT, Int.reduceLE, Int.reduceAdd, Int.reduceSub, Int.reduceNeg, Int.reduceMul, Int.reduceToNat, Int.reduceEq, Int.reduceNe, Int.reduceGT, Int.reduceGE, Nat.reducePow, Nat.reduceAdd, Nat.reduceSub, Nat.reduceLT, Nat.reduceMul, Nat.reduceDiv, Nat.reduceEqDiff, Nat.reduceLeDiff, KT w, KI, hw.KF, htm]) hc2 d2 ok2 ok1 ?_
  simp only
  generalize T1.rest S2 [3, 1] = S3 at *
  have ok3 := hRd3.ok
  have b3 := hRd3.base
  have hK3 : KPl [3, 1] S3 := fun k hk => by
    rcases List.mem_cons.1 hk with rfl | hk
    · rw [r3]; rfl
    · rw [List.mem_singleton.1 hk, r1]; rfl
  have n3 : 4 ≤ S3.n := by have := St.get_lt r3; omega
  have gk3 := fun o => St.get_kill (K := [3, 1]) (o := o) ok3 (hKn hK3)
  obtain ⟨v4, S4, hc4, K4, hQ4⟩ := lay34 hw hr n 0 A [] c (S3.kill [3, 1]) sv rv RR2 hA hRB hkl hc0 hcn (hRd3.kill hK3)
  have ok4 := K4.ok
  have b4 : S4.base = 0 := by rw [K4.base, (Keeps.kill ok3).2]; exact b3
  have kget4 : ∀ q y, q < 4 → (∀ g es rows e, y ≠ AObj.seq g es rows e) → (S3.kill [3, 1]).get q = some y → S4.get q = some y := fun q y hq hx hg => K4.get q y (by rw [St.kill_n]; omega) hx hg
  have d4 : ∀ k ∈ [3, 1], S4.get k = some .dead := fun k hk => kget4 k _ (hK4 k hk) (fun g es rows e h => by cases h) (by rw [gk3, if_pos hk])
  have gr4 := fun o => St.get_rest (S := S3) (K := [3, 1]) (T := S4) (o := o) ok4 (fun k hk => St.get_lt (d4 k hk)) (hKs hK3)
  have u0 : (S3.rest S4 [3, 1]).get 0 = some (.row [.vec (A.slots.map slCan), .int .i64 (optI A.free), .vec (rs A.roots)] false) := by
    rw [gr4, if_neg (by decide)]
    exact kget4 0 _ (by omega) (fun g es rows e h => by cases h) (by rw [gk3, if_neg (by decide)]; exact r0)
  have u2 : (S3.rest S4 [3, 1]).get 2 = some (.row [.nils, .int .i64 0, .nils] false) := by
    rw [gr4, if_neg (by decide)]
    exact kget4 2 _ (by omega) (fun g es rows e h => by cases h) (by rw [gk3, if_neg (by decide)]; exact r2)
  have u3 : (S3.rest S4 [3, 1]).get 3 = some .dead := by rw [gr4, if_pos (by decide)]; exact r3
  have hrest : ∀ sv rv R B, Rd sv rv R B S4 → Rd sv rv R B (S3.rest S4 [3, 1]) := fun sv rv R B h => h.rest hK3 d4
  have ok5 : (S3.rest S4 [3, 1]).ok := (Keeps.rest ok4).1
  have b5 : (S3.rest S4 [3, 1]).base = 0 := by rw [(Keeps.rest ok4).2]; exact b4
  obtain ⟨c0, c1, c2, vi, ve, rfl⟩ : ∃ c0 c1 c2 vi ve, v4 = .tup [.agg [c0, c1, c2], .int .i64 vi, .int .i64 ve] := by
    cases hl : lay n 0 A with
    | none => rw [hl] at hQ4; obtain ⟨c0, c1, c2, h⟩ := hQ4; exact ⟨_, _, _, _, _, h⟩
    | some q => rw [hl] at hQ4; obtain ⟨sv', rv', R', h, _⟩ := hQ4; exact ⟨_, _, _, _, _, h⟩
  simp only [KA, KB, KP, KQ, KM, simprocAttr, KT w, KI, hw.KF, RR_step, RRa_some, RRa_none, rfoot, refsO, refs, A5j, A5k, A5n, A5o, Nat.reduceBEq, A2w, A2x, htm, t2, t3, r1, hxc, hxt, hxd]
  refine RR_raw (S2 := S4) (v := .tup [.agg [c0, c1, c2], .int .i64 vi, .int .i64 ve]) (al := [.agg [sv, .int .i64 (optI A.free), rv], .agg n.cells, .int .i64 0]) rfl (by simp) (by exact hw.e34) (by exact hw.m34) (by simp only [KA, KB, KP, KQ, KM, reduceCtorEq, ↓reduceIte, Int.reduceLT, Int.reduceLE, Int.reduceAdd, Int.reduceSub, Int.reduceNeg, Int.reduceMul, Int.reduceToNat, Int.reduceEq, Int.reduceNe, Int.reduceGT, Int.reduceGE, Nat.reducePow, Nat.reduceAdd, Nat.reduceSub, Nat.reduceLT, Nat.reduceMul, Nat.reduceDiv, Nat.reduceEqDiff, Nat.reduceLeDiff, KT w, KI, hw.KF, htm]) hc4 d4 ok4 ok3 ?_
  simp only
  generalize S3.rest S4 [3, 1] = S5 at *
  simp only [KA, KB, KP, KQ, KM, simprocAttr, KT w, KI, hw.KF, RR_step, RRa_some, RRa_none, rfoot, refsO, refs, A5j, A5k, A5n, A5o, Nat.reduceBEq, A2w, A2x, htm]
  refine RR_alloc (r := 3) (z := [.nils, .int .i64 0, .nils]) (by simp [ridOf]) (Tc25 w) rfl u3 (by rw [b5]; exact Nat.zero_le _) ok5 ?_
  have nM : 3 < S5.n := St.get_lt u3
  have gM : ∀ X, (S5.set 3 X).get 3 = some X := fun X => St.get_sete ok5 nM
  have bM : ∀ X, (S5.set 3 X).base = 0 := fun X => by rw [St.setB]; exact b5
  have pM : ∀ X Y, (S5.set 3 X).putO 3 Y = some (S5.set 3 Y) := fun X Y => by rw [St.putO_base (by rw [bM]; exact Nat.zero_le _), set_set]
  have oM : ∀ X q, q ≠ 3 → (S5.set 3 X).get q = S5.get q := fun X q hq => St.get_setn nM hq
  refine RR_store (S1 := S5.set 3 (.row [c0, c1, c2] false)) rfl (by simp only [KA, KB, KP, KQ, KM, reduceCtorEq, ↓reduceIte, Int.reduceLT, Int.reduceLE, Int.reduceAdd, Int.reduceSub, Int.reduceNeg, Int.reduceMul, Int.reduceToNat, Int.reduceEq, Int.reduceNe, Int.reduceGT, Int.reduceGE, Nat.reducePow, Nat.reduceAdd, Nat.reduceSub, Nat.reduceLT, Nat.reduceMul, Nat.reduceDiv, Nat.reduceEqDiff, Nat.reduceLeDiff, KT w, KI, hw.KF, htm, gM, pM, splice]) (fun h k hk => by
    by_cases e : k = 3
    · subst e; rw [gM]; rfl
    · rw [oM _ _ e]; have := h k hk; rw [oM _ _ e] at this; exact this) ?_
  simp only [KA, KB, KP, KQ, KM, simprocAttr, KT w, KI, hw.KF, RR_step, RRa_some, RRa_none, rfoot, refsO, refs, A5j, A5k, A5n, A5o, Nat.reduceBEq, A2w, A2x, htm]
  refine RR_nile _ _ _ _ _ _ (by simp only [KA, KB, KP, KQ, KM, simprocAttr, KT w, KI, hw.KF, KX, Foot.big, rfoot, refsO, refs, wfoot, A5j, A5k, noisyOk, pairOk, Foot.isQuiet, Foot.apart, Ft.apart, Foot.none, A5l, A5m, A48, A49, A5n, A5o, A5p, A5q, Nat.reduceBEq, htm, t2, t3]) ?_
  refine hQ' _ _ ?_
  clear hQ' Q'
  repeat with_reducible (first | apply E0 | apply E1 | apply E2 | apply E3 | apply E4 | refine E5 (by decide) ?_ | apply E6 | apply E7 | apply E8 | apply E9 | apply Ea | apply Eb | apply Ec | apply Ed)
  have w0 := (oM (.row [c0, c1, c2] false) 0 (by decide)).trans u0
  have w2 := (oM (.row [c0, c1, c2] false) 2 (by decide)).trans u2
  have w3 := gM (.row [c0, c1, c2] false)
  have n6 : (S5.set 3 (.row [c0, c1, c2] false)).n = S5.n := St.setN _ _ _
  have hset : ∀ sv rv R B, Rd sv rv R B S5 → Rd sv rv R B (S5.set 3 (.row [c0, c1, c2] false)) := fun sv rv R B h => h.keep (St.ok_set ok5) (bM _) (by rw [n6]; omega) fun q g es rows e hq hg => by
    rw [oM _ _ (fun e => by rw [e, u3] at hg; cases hg)]; exact hg
  have ok6 : (S5.set 3 (.row [c0, c1, c2] false)).ok := St.ok_set ok5
  have b6 := bM (.row [c0, c1, c2] false)
  clear gM bM pM oM
  generalize S5.set 3 (.row [c0, c1, c2] false) = S6 at *
  have ln2' : 2 < S6.n := by omega
  have ln3' : 3 < S6.n := by omega
  rcases lay_or n 0 A [] hA with ⟨hl0, -⟩ | ⟨i, B, hl1, hB, hleB, hIsB, hrB, -⟩
  · rw [hl0] at hQ4 hR
    simp only at hR
    subst hR
    obtain ⟨e0, e1, e2, hv⟩ := hQ4
    simp only [AV.tup.injEq, List.cons.injEq, AV.int.injEq, AV.agg.injEq, and_true, true_and] at hv
    obtain ⟨-, rfl, rfl⟩ := hv
    have gY : ∀ X, (S6.set 2 X).get 2 = some X := fun X => St.get_sete ok6 ln2'
    refine W_region fun K hK => ?_
    simp only [KA, KB, KP, KQ, KM, simprocAttr, KT w, KI, hw.KF, htm]
    refine hK _ _ ?_
    clear hK
    clear K
    repeat with_reducible (first | apply E0 | apply E1 | apply E2 | apply E3 | apply E4 | refine E5 (by decide) ?_ | apply E6 | apply E7 | apply E8 | apply E9 | apply Ea | apply Eb | apply Ec | apply Ed)
    refine W_condT (by simp only [KA, KP, KQ, simprocAttr, KT w, KI, hw.KF, htm]) ?_
    repeat with_reducible (first | apply E0 | apply E1 | apply E2 | apply E3 | apply E4 | refine E5 (by decide) ?_ | apply E6 | apply E7 | apply E8 | apply E9 | apply Ea | apply Eb | apply Ec | apply Ed)
    refine W_region fun K hK => ?_
    simp only [KA, KB, KP, KQ, KM, simprocAttr, KT w, KI, hw.KF, htm, t2, t4, w0, w2, ok6, b6, ln2', splice]
    refine hK _ _ ?_
    clear hK
    clear K
    repeat with_reducible (first | apply E0 | apply E1 | apply E2 | apply E3 | apply E4 | refine E5 (by decide) ?_ | apply E6 | apply E7 | apply E8 | apply E9 | apply Ea | apply Eb | apply Ec | apply Ed)
    refine AtEnd_of rfl ?_
    simp only [KA, KP, KQ, simprocAttr, KT w, KI, hw.KF, htm, t4, gY, RS_some, aresults_nil, aresults_tmp, aresults_cell, one]
    exact FZ_tup (by simp [nrmA, arV, arC, nrm, nrmL, nrm_can, nrmR_rs])
  rw [hl1] at hQ4 hR
  simp only at hR
  obtain ⟨sv', rv', R', hv, hRdB⟩ := hQ4
  simp only [AV.tup.injEq, List.cons.injEq, AV.int.injEq, AV.agg.injEq, and_true, true_and] at hv
  obtain ⟨⟨rfl, rfl, rfl⟩, rfl, rfl⟩ := hv
  have hRd6 := hset _ _ _ _ (hrest _ _ _ _ hRdB)
  have hRB2 := lay_rb n 0 A c i B hc0 hRB hl1
  obtain ⟨s, hs, hsr⟩ := hIsB.used
  have hsb := hRB2 i s hs
  have hsn : -1 ≤ s.refs := by
    by_cases h0 : s.refs < 0
    · have := (hB.neg i s hs h0).1; omega
    · omega
  obtain ⟨v7, S7, hc7, rfl, K7, R7, hRd7⟩ := refer36 hw hRd6 hs hsn (by omega)
  have hcall : callF (cfg w) (lim (cfg w)) 36 [.agg [c0, .int .i64 (optI B.free), c2], .int .i64 (i : Nat)] S6 = some (.agg [c0, .int .i64 (optI B.free), c2], S7) := by
    rw [callF_raw (by exact hw.e36) (by exact hw.m36)]; exact hc7
  have x2 := K7.get _ _ (by omega) (fun g es rows e h => by cases h) w2
  have x3 := K7.get _ _ (by omega) (fun g es rows e h => by cases h) w3
  have ok7 := hRd7.ok
  have b7 := hRd7.base
  have n7 := K7.n
  have ln3 : 3 < S7.n := by omega
  have hset7 : S7.set 3 (.row [c0, .int .i64 (optI B.free), c2] false) = S7 := by
    refine St.ext_get ok7 (St.ok_set ok7) rfl rfl fun q => ?_
    by_cases e1 : q = 3
    · rw [e1, St.get_sete ok7 ln3, x3]
    · rw [St.get_setn ln3 e1]
  refine W_region fun K hK => ?_
  simp only [KA, KB, KP, KQ, KM, simprocAttr, KT w, KI, hw.KF, htm]
  refine hK _ _ ?_
  clear hK
  clear K
  repeat with_reducible (first | apply E0 | apply E1 | apply E2 | apply E3 | apply E4 | refine E5 (by decide) ?_ | apply E6 | apply E7 | apply E8 | apply E9 | apply Ea | apply Eb | apply Ec | apply Ed)
  refine W_condF (by simp only [KA, KP, KQ, simprocAttr, KT w, KI, hw.KF, htm]) ?_
  repeat with_reducible (first | apply E0 | apply E1 | apply E2 | apply E3 | apply E4 | refine E5 (by decide) ?_ | apply E6 | apply E7 | apply E8 | apply E9 | apply Ea | apply Eb | apply Ec | apply Ed)
  refine W_region fun K hK => ?_
  simp only [KA, KB, KP, KQ, KM, simprocAttr, KT w, KI, hw.KF, htm, w3, hcall, x3, ok7, b7, ln3, hset7, splice]
  refine hK _ _ ?_
  clear hK
  clear K
  repeat with_reducible (first | apply E0 | apply E1 | apply E2 | apply E3 | apply E4 | refine E5 (by decide) ?_ | apply E6 | apply E7 | apply E8 | apply E9 | apply Ea | apply Eb | apply Ec | apply Ed)
  have mu := hr.mu13 7
  obtain ⟨rv8, S8, happ, hmv, ok8, b8, n8, lf8, cl8, fr8⟩ := app_mv (es := 1) (bytes := 8) [.int .i64 (i : Int)] hRd7.rv ok7 b7 rfl (by simp only; cases B.roots <;> rfl) (by simp only [capOk, rs_len, hrB]; simp; omega)
  have hrs : rs B.roots ++ [[.int .i64 (i : Int)]] = rs (B.roots ++ [some i]) := by simp [rs, optI]
  simp only at hmv
  rw [hrs] at hmv
  have y2 := fr8 _ _ (by omega) (fun g rows e h => by cases h) x2
  have y3 := fr8 _ _ (by omega) (fun g rows e h => by cases h) x3
  have ln38 : 3 < S8.n := by omega
  have ln28 : 2 < S8.n := by omega
  have ok9 : ∀ X, (S8.set 3 X).ok := fun X => St.ok_set ok8
  have b9 : ∀ X, (S8.set 3 X).base = 0 := fun X => by rw [St.setB]; exact b8
  have n9 : ∀ X, (S8.set 3 X).n = S8.n := fun X => St.setN _ _ _
  have g9 : ∀ X, (S8.set 3 X).get 3 = some X := fun X => St.get_sete ok8 ln38
  have z9 : ∀ X, (S8.set 3 X).get 2 = some (.row [.nils, .int .i64 0, .nils] false) := fun X => by rw [St.get_setn ln38 (by decide)]; exact y2
  have hal := hmv.alen (w := w) (t := 23) (e := 3) (Tk23 w)
  rw [rs_len, List.length_append] at hal
  have e1 : IntKind.i64.wrap (((B.roots.length + [some i].length : Nat) : Int) - 1) = (B.roots.length : Int) := by
    rw [i64_in _ (by simp only [hrB, List.length_cons, List.length_nil]; omega)]; simp
  rcases hmv with ⟨hr0, -⟩ | ⟨ro, rg, rfl, hro, hrg⟩
  · have := congrArg List.length hr0
    rw [rs_len, List.length_append, List.length_nil] at this
    simp at this
  have d3 : (ro == 2) = false := beq_eq_false_iff_ne.2 fun e => by rw [e, y2] at hrg; cases hrg
  have d4' : (2 == ro) = false := beq_eq_false_iff_ne.2 fun e => by rw [← e, y2] at hrg; cases hrg
  refine W_region fun K hK => ?_
  simp only [KA, KB, KP, KQ, KM, reduceCtorEq, ↓reduceIte, Int.reduceLT, Int.reduceLE, Int.reduceAdd, Int.reduceSub, Int.reduceNeg, Int.reduceMul, Int.reduceToNat, Int.reduceEq, Int.reduceNe, Int.reduceGT, Int.reduceGE, Nat.reducePow, Nat.reduceAdd, Nat.reduceSub, Nat.reduceLT, Nat.reduceMul, Nat.reduceDiv, Nat.reduceEqDiff, Nat.reduceLeDiff, KT w, KI, hw.KF, htm, x3, mu, happ, y3, ok8, b8, ln38, lf8, cl8, splice]
  refine hK _ _ ?_
  clear hK
  clear K
  repeat with_reducible (first | apply E0 | apply E1 | apply E2 | apply E3 | apply E4 | refine E5 (by decide) ?_ | apply E6 | apply E7 | apply E8 | apply E9 | apply Ea | apply Eb | apply Ec | apply Ed)
  refine W_regionD [[], [], [1], [2, 1], [3, 2, 1], [0], [4, 3, 2, 1, 5, 0], [6, 4, 3, 2, 1, 5, 0]] (by decide +kernel) (by decide +kernel) (by decide +kernel) fun K hK => ?_
  simp only [KA, KB, KP, KQ, KM, simprocAttr, KT w, KI, hw.KF, A58, A59, A5a, A5b, A5c, A5d, A5e, A5f, A5g, A5h, KX, Foot.big, A5i, opP, rfoot, refsO, refs, wfoot, A5j, A5k, noisyOk, pairOk, Foot.isQuiet, Foot.apart, Ft.apart, Foot.none, A5l, A5m, A48, A49, A5n, A5o, A5p, A5q, Nat.reduceBEq, htm, t4, g9, z9, hal, e1, d3, d4', A38, Bool.and_self, A2f, ok8, b8, ln28, splice]
  refine hK _ _ ?_
  clear hK
  clear K
  repeat with_reducible (first | apply E0 | apply E1 | apply E2 | apply E3 | apply E4 | refine E5 (by decide) ?_ | apply E6 | apply E7 | apply E8 | apply E9 | apply Ea | apply Eb | apply Ec | apply Ed)
  have gZ : ∀ X Y, ((S8.set 3 X).set 2 Y).get 2 = some Y := fun X Y => St.get_sete (ok9 X) (by rw [n9]; exact ln28)
  refine AtEnd_of rfl ?_
  simp only [KA, KP, KQ, simprocAttr, KT w, KI, hw.KF, htm, t4, gZ, RS_some, aresults_nil, aresults_tmp, aresults_cell, one]
  subst hR
  have e1' : IntKind.i64.wrap (((B.roots ++ [some i]).length : Int) - 1) = (B.roots.length : Int) := by rw [List.length_append]; exact e1
  try rw [e1']
  have fin : ∀ q x, q < S8.n → q ≠ 3 → q ≠ 2 → S8.get q = some x → ∀ X Y, ((S8.set 3 X).set 2 Y).get q = some x := fun q x hq h1 h2 hx X Y => by rw [St.get_setn (by rw [n9]; exact ln28) h2, St.get_setn ln38 h1]; exact hx
  obtain ⟨C, hC⟩ : ∃ C : Ar, (⟨refS B.slots i, B.free, B.roots ++ [some i]⟩ : Ar) = C := ⟨_, rfl⟩
  have hCi : Inv C [] [] := by rw [← hC]; exact (root_ok hB ⟨s, hs, hsr⟩).1
  have hsl := hRd7.rows.sl (S := refS B.slots i) fun t ht => nonneg hCi t (by rw [← hC]; exact ht)
  refine fz_add (R := R7) (A := ⟨refS B.slots i, B.free, B.roots ++ [some i]⟩) ?_ hsl ?_
  · rcases hRd7.sv with ⟨h0, h1⟩ | ⟨so, sg, e1, e2, e3⟩
    · exact .inl ⟨h0, h1⟩
    · refine .inr ⟨so, sg, e1, by simp only [St.setN]; omega, fin so _ (by omega) (fun e => ?_) (fun e => ?_) (fr8 so _ e2 (fun g rows e h => by cases h) e3) _ _⟩
      · rw [e, x3] at e3; cases e3
      · rw [e, x2] at e3; cases e3
  · exact .inr ⟨ro, rg, by rw [rs_len], by simp only [St.setN]; omega, fin ro _ hro (fun e => by rw [e, y3] at hrg; cases hrg) (fun e => by rw [e, y2] at hrg; cases hrg) hrg _ _⟩
end Go.Am.R
