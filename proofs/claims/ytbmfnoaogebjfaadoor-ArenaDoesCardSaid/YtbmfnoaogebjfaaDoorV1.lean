/- THE REFERENCE'S Light. -/
import Derived.Test.YtbmfnoaogebjfaaDoorV0
set_option linter.unusedSimpArgs false
set_option linter.unusedVariables false
set_option maxRecDepth 20000
namespace Go.Am.R
open Go.Proofs Go.IntWalk

variable {w : Ways}

theorem light8 (hw : Std w) (A : RAr) (hA : A.ok) : PC (cfg w) 8 [A.av] (.bool (decide (0 ≤ lightL A.slots (4000 - A.roots.length)))) := by
  refine PC_of (args' := [A.av]) hw.e8 hw.m8 (by simp [nrmA, A.nrm]) ?_
  obtain ⟨hl, hs, hr⟩ := hA
  obtain ⟨SL, FF, RT⟩ := A
  simp only at hl hs hr ⊢
  have hlen : (SL.map RSl.row).length = SL.length := List.length_map _
  have hrl := ints_len RT
  unfold RAr.av RAr.cells
  simp only
  generalize hRR : ints RT = RR at *
  have e0 : IntKind.i64.wrap (4000 - (RT.length : Int)) = 4000 - (RT.length : Int) := i64_in _ (by omega)
  refine call_of_W (fn8 w) rfl ?_
  simp only [Tryd.f8, List.length_cons, List.length_nil, Nat.reduceAdd, Nat.reduceSub, List.cons_append, List.nil_append]
  repeat with_reducible (first | apply E0 | apply E1 | apply E2 | apply E3 | apply E4 | refine E5 (by decide) ?_ | apply E6 | apply E7 | apply E8 | apply E9 | apply Ea | apply Eb | apply Ec | apply Ed)
  refine W_region fun K hK => ?_
  simp only [KA, KB, KP, KQ, KM, simprocAttr, KT w, KI, hw.KF]
  refine hK _ _ ?_
  clear hK
  clear K
  repeat with_reducible (first | apply E0 | apply E1 | apply E2 | apply E3 | apply E4 | refine E5 (by decide) ?_ | apply E6 | apply E7 | apply E8 | apply E9 | apply Ea | apply Eb | apply Ec | apply Ed)
  refine W_region fun K hK => ?_
  simp only [KA, KB, KP, KQ, KM, simprocAttr, KT w, KI, hw.KF, hrl, e0]
  refine hK _ _ ?_
  clear hK
  clear K
  repeat with_reducible (first | apply E0 | apply E1 | apply E2 | apply E3 | apply E4 | refine E5 (by decide) ?_ | apply E6 | apply E7 | apply E8 | apply E9 | apply Ea | apply Eb | apply Ec | apply Ed)
  refine W_region fun K hK => ?_
  simp only [KA, KB, KP, KQ, KM, simprocAttr, KT w, KI, hw.KF]
  refine hK _ _ ?_
  clear hK
  clear K
  repeat with_reducible (first | apply E0 | apply E1 | apply E2 | apply E3 | apply E4 | refine E5 (by decide) ?_ | apply E6 | apply E7 | apply E8 | apply E9 | apply Ea | apply Eb | apply Ec | apply Ed)
  refine W_loop (fun k fr T => ∃ (tm : List AV) (i : Nat) (lf : Int), fr = ⟨tm, [], none, 8⟩ ∧ T = St.nil.push (.row [.vec (SL.map RSl.row), .int .i64 FF, .vec RR] false) ∧ k = SL.length - i ∧ i ≤ SL.length ∧ lf ≤ 4000 ∧ -2000000000000000 ≤ lf ∧ lightL (SL.drop i) lf = lightL SL (4000 - RT.length) ∧
      tm.length = 38 ∧ tget tm 1 = .ptr 0 0 ∧ tget tm 3 = .int .i64 lf ∧ tget tm 4 = .int .i64 (i : Nat)) SL.length
    ⟨_, 0, 4000 - RT.length, rfl, rfl, rfl, Nat.zero_le _, by omega, by omega, rfl, ?_⟩ ?_
  · simp only [KA, KP, KQ, simprocAttr, KT w, KI, hw.KF, Int.ofNat_zero]
  rintro k fr T ⟨tm, i, lf, rfl, rfl, rfl, hi, hlf, hlf2, heq, htm, t1, t3, t4⟩
  repeat with_reducible (first | apply E0 | apply E1 | apply E2 | apply E3 | apply E4 | refine E5 (by decide) ?_ | apply E6 | apply E7 | apply E8 | apply E9 | apply Ea | apply Eb | apply Ec | apply Ed)
  by_cases hil : (i : Int) < (SL.length : Int)
  case neg =>
    have hie : SL.drop i = [] := List.drop_eq_nil_of_le (by omega)
    rw [hie, lightL] at heq
    refine W_region fun K hK => ?_
    simp only [KA, KB, KP, KQ, KM, simprocAttr, KT w, KI, hw.KF, htm, t1, t4, hlen, hil]
    refine hK _ _ ?_
    clear hK
    clear K
    repeat with_reducible (first | apply E0 | apply E1 | apply E2 | apply E3 | apply E4 | refine E5 (by decide) ?_ | apply E6 | apply E7 | apply E8 | apply E9 | apply Ea | apply Eb | apply Ec | apply Ed)
    refine W_condF (by simp only [KA, KP, KQ, simprocAttr, KT w, KI, hw.KF, htm]) ?_
    repeat with_reducible (first | apply E0 | apply E1 | apply E2 | apply E3 | apply E4 | refine E5 (by decide) ?_ | apply E6 | apply E7 | apply E8 | apply E9 | apply Ea | apply Eb | apply Ec | apply Ed)
    refine W_region fun K hK => ?_
    simp only [KA, KB, KP, KQ, KM, simprocAttr, KT w, KI, hw.KF, htm, t3]
    refine hK _ _ ?_
    clear hK
    clear K
    repeat with_reducible (first | apply E0 | apply E1 | apply E2 | apply E3 | apply E4 | refine E5 (by decide) ?_ | apply E6 | apply E7 | apply E8 | apply E9 | apply Ea | apply Eb | apply Ec | apply Ed)
    refine AtEnd_of rfl ?_
    simp only [KA, KP, KQ, simprocAttr, KT w, KI, hw.KF, htm, RS_some, aresults_nil, aresults_tmp, aresults_cell, one]
    rw [← heq]
    exact FZ_bool
  by_cases hlf0 : lf ≥ 0
  case neg =>
    have hz : lightL (SL.drop i) lf = lf := lightL_neg (by omega)
    rw [hz] at heq
    refine W_region fun K hK => ?_
    simp only [KA, KB, KP, KQ, KM, simprocAttr, KT w, KI, hw.KF, htm, t1, t3, t4, hlen, hil, hlf0]
    refine hK _ _ ?_
    clear hK
    clear K
    repeat with_reducible (first | apply E0 | apply E1 | apply E2 | apply E3 | apply E4 | refine E5 (by decide) ?_ | apply E6 | apply E7 | apply E8 | apply E9 | apply Ea | apply Eb | apply Ec | apply Ed)
    refine W_condF (by simp only [KA, KP, KQ, simprocAttr, KT w, KI, hw.KF, htm]) ?_
    repeat with_reducible (first | apply E0 | apply E1 | apply E2 | apply E3 | apply E4 | refine E5 (by decide) ?_ | apply E6 | apply E7 | apply E8 | apply E9 | apply Ea | apply Eb | apply Ec | apply Ed)
    refine W_region fun K hK => ?_
    simp only [KA, KB, KP, KQ, KM, simprocAttr, KT w, KI, hw.KF, htm, t3]
    refine hK _ _ ?_
    clear hK
    clear K
    repeat with_reducible (first | apply E0 | apply E1 | apply E2 | apply E3 | apply E4 | refine E5 (by decide) ?_ | apply E6 | apply E7 | apply E8 | apply E9 | apply Ea | apply Eb | apply Ec | apply Ed)
    refine AtEnd_of rfl ?_
    simp only [KA, KP, KQ, simprocAttr, KT w, KI, hw.KF, htm, RS_some, aresults_nil, aresults_tmp, aresults_cell, one]
    rw [← heq]
    exact FZ_bool
  obtain ⟨s, hsi⟩ := get_of_lt (l := SL) (i := i) (by omega)
  obtain ⟨ok1, ok2, ok3⟩ := hs s (List.mem_of_getElem? hsi)
  have hrow : (SL.map RSl.row)[i]? = some s.row := by rw [List.getElem?_map, hsi]; rfl
  have hi0 : ¬ (i : Int) < 0 := by omega
  have e1 : IntKind.i64.wrap ((i : Int) + 1) = (i : Int) + 1 := i64_in _ (by omega)
  have hsm := small_okB hw s.node ok1 lf (by omega) (by omega)
  have hr10 := s.row_len
  have hr7 := s.row_take7
  have hr77 := s.row7
  have hkl := ints_len s.kids
  have ncl := Node.cells_len s.node
  have nct := Node.cells_take s.node
  have ncd := Node.cells_drop s.node
  have nrn := Node.nrm_all s.node
  have hbd := small_bounds s.node lf (by omega)
  have e2 : IntKind.i64.wrap (small s.node lf - (s.kids.length : Int)) = small s.node lf - (s.kids.length : Int) := i64_in _ (by omega)
  have hdr := lightL_drop hsi (show 0 ≤ lf by omega)
  generalize s.row = SR at *
  refine W_region fun K hK => ?_
  simp only [KA, KB, KP, KQ, KM, simprocAttr, KT w, KI, hw.KF, htm, t1, t3, t4, hlen, hil, hlf0]
  refine hK _ _ ?_
  clear hK
  clear K
  repeat with_reducible (first | apply E0 | apply E1 | apply E2 | apply E3 | apply E4 | refine E5 (by decide) ?_ | apply E6 | apply E7 | apply E8 | apply E9 | apply Ea | apply Eb | apply Ec | apply Ed)
  refine W_condT (by simp only [KA, KP, KQ, simprocAttr, KT w, KI, hw.KF, htm]) ?_
  repeat with_reducible (first | apply E0 | apply E1 | apply E2 | apply E3 | apply E4 | refine E5 (by decide) ?_ | apply E6 | apply E7 | apply E8 | apply E9 | apply Ea | apply Eb | apply Ec | apply Ed)
  refine W_regionD [[], [0], [], [1, 0, 2], [3, 1, 0, 2], [4, 3, 1, 0, 2], [], [5, 4, 3, 1, 0, 2, 6], [], [8], [], [9, 8, 10], [11, 9, 8, 10], [12, 11, 9, 8, 10], [13, 12, 11, 9, 8, 10], [7, 5, 4, 3, 1, 0, 2, 6, 14, 13, 12, 11, 9, 8, 10], [15, 7, 5, 4, 3, 1, 0, 2, 6, 14, 13, 12, 11, 9, 8, 10]] (by decide +kernel) (by decide +kernel) (by decide +kernel) fun K hK => ?_
  simp only [KA, KB, KP, KQ, KM, simprocAttr, KT w, KI, hw.KF, A58, A59, A5a, A5b, A5c, A5d, A5e, A5f, A5g, A5h, KX, Foot.big, A5i, opP, rfoot, refsO, refs, wfoot, A5j, A5k, noisyOk, pairOk, Foot.isQuiet, Foot.apart, Ft.apart, Foot.none, A5l, A5m, A48, A49, A5n, A5o, A5p, A5q, Nat.reduceBEq, htm, t1, t3, t4, hlen, hi0, hil, hrow, hr10, hr7, hr77, hsm, hkl, ncl, nct, ncd, nrn, e2]
  refine hK _ _ ?_
  clear hK
  clear K
  repeat with_reducible (first | apply E0 | apply E1 | apply E2 | apply E3 | apply E4 | refine E5 (by decide) ?_ | apply E6 | apply E7 | apply E8 | apply E9 | apply Ea | apply Eb | apply Ec | apply Ed)
  refine W_region fun K hK => ?_
  simp only [KA, KB, KP, KQ, KM, simprocAttr, KT w, KI, hw.KF, htm, t4, e1]
  refine hK _ _ ?_
  clear hK
  clear K
  refine ⟨SL.length - (i + 1), by omega, _, i + 1, small s.node lf - (s.kids.length : Int), rfl, rfl, rfl, by omega, by omega, by omega, by rw [← hdr]; exact heq, ?_⟩
  simp only [KA, KP, KQ, simprocAttr, KT w, KI, hw.KF, htm, t1, Int.natCast_add, A3z]
end Go.Am.R
