/- THE REFERENCE'S sizes ON ANY ARENA. -/
import Derived.Test.YtbmfnoaogebjfaaDoorV6
set_option linter.unusedSimpArgs false
set_option linter.unusedVariables false
set_option maxRecDepth 20000
namespace Go.Am.R
open Go.Proofs Go.IntWalk Classical

variable {w : Ways}

theorem ks_set (out : List Nat) (i n : Nat) : (ks out).set i [.int .i64 (n : Int)] = ks (out.set i n) := by simp [ks, List.map_set]
theorem ks_rep (n : Nat) : List.replicate n [AV.int .i64 0] = ks (List.replicate n 0) := by simp [ks]

set_option maxHeartbeats 1000000 in
theorem ints_nk {l : List Int} (h : ∀ q ∈ l, 0 ≤ q) : ints l = ks (l.map Int.toNat) := by
  simp only [ints, ks, List.map_map]
  refine List.map_congr_left fun q hq => ?_
  have := h q hq
  simp only [Function.comp_apply]
  rw [Int.toNat_of_nonneg this]
theorem sizes31 (hw : Std w) (A : RAr) (hA : A.ok) (hP : PlainP A) : PC (cfg w) 31 [A.av] (.vec (ks (szL A.sl))) := by
  refine PC_of (args' := [A.av]) hw.e31 hw.m31 (by simp [nrmA, A.nrm]) ?_
  have hlen := hP.sl
  have hPS := hP.ps
  have hsl : (A.slots.map RSl.row).length = A.slots.length := List.length_map _
  have hsL : A.sl.length = A.slots.length := List.length_map _
  have hstep := fun i s hs hk => sz_step hPS (i := i) (s := s) hs hk
  have hfix := fun out h hf => fix_all hPS (out := out) h hf
  have hkid := fun i s q hs hq => hPS.kid i s q hs hq
  have hraw : ∀ (i : Nat) (s : RSl), A.slots[i]? = some s → A.sl[i]? = some s.sl ∧ ints s.kids = ks s.sl.kids ∧ s.sl.kids.length ≤ 20000000000000 := fun i s hs => by
    refine ⟨get_sl hs, ints_nk fun q hq => ((hP.slot i s hs).2.1 q hq).1, ?_⟩
    have := (hA.2.1 s (List.mem_of_getElem? hs)).2.1
    simpa [RSl.sl] using this
  generalize A.sl = SS at *
  obtain ⟨SL, FF, RT⟩ := A
  simp only at hlen hsl hsL hraw ⊢
  unfold RAr.av RAr.cells
  simp only
  generalize ints RT = RR
  have hrep := ks_rep SL.length
  have hmk : ((0 : Int) ≤ (SL.length : Int)) := by omega
  have hmk2 : ((SL.length : Int) ≤ 281474976710656) := by omega
  have hmk3 := Int.le_refl (SL.length : Int)
  have hmk4 : (8 * (SL.length : Int) ≤ 281474976710656) := by omega
  have hlow : ∀ (tm : List AV), tm = tm := fun _ => rfl
  refine call_of_W (fn31 w) rfl ?_
  simp only [Tryd.f31, List.length_cons, List.length_nil, Nat.reduceAdd, Nat.reduceSub, List.cons_append, List.nil_append]
  repeat with_reducible (first | apply E0 | apply E1 | apply E2 | apply E3 | apply E4 | refine E5 (by decide) ?_ | apply E6 | apply E7 | apply E8 | apply E9 | apply Ea | apply Eb | apply Ec | apply Ed)
  refine W_region fun K hK => ?_
  simp only [KA, KB, KP, KQ, KM, simprocAttr, KT w, KI, hw.KF]
  refine hK _ _ ?_
  clear hK
  clear K
  repeat with_reducible (first | apply E0 | apply E1 | apply E2 | apply E3 | apply E4 | refine E5 (by decide) ?_ | apply E6 | apply E7 | apply E8 | apply E9 | apply Ea | apply Eb | apply Ec | apply Ed)
  refine W_region fun K hK => ?_
  simp only [KA, KB, KP, KQ, KM, reduceCtorEq, ↓reduceIte, Int.reduceLT, Int.reduceLE, Int.reduceAdd, Int.reduceSub, Int.reduceNeg, Int.reduceMul, Int.reduceToNat, Int.reduceEq, Int.reduceNe, Int.reduceGT, Int.reduceGE, Nat.reducePow, Nat.reduceAdd, Nat.reduceSub, Nat.reduceLT, Nat.reduceMul, Nat.reduceDiv, Nat.reduceEqDiff, Nat.reduceLeDiff, KT w, KI, hw.KF, hsl, hmk, hmk2, hmk3, hmk4, hrep]
  refine hK _ _ ?_
  clear hK
  clear K
  repeat with_reducible (first | apply E0 | apply E1 | apply E2 | apply E3 | apply E4 | refine E5 (by decide) ?_ | apply E6 | apply E7 | apply E8 | apply E9 | apply Ea | apply Eb | apply Ec | apply Ed)
  refine W_region fun K hK => ?_
  simp only [KA, KB, KP, KQ, KM, simprocAttr, KT w, KI, hw.KF]
  refine hK _ _ ?_
  clear hK
  clear K
  repeat with_reducible (first | apply E0 | apply E1 | apply E2 | apply E3 | apply E4 | refine E5 (by decide) ?_ | apply E6 | apply E7 | apply E8 | apply E9 | apply Ea | apply Eb | apply Ec | apply Ed)
  refine W_loop (fun k0 fr T => ∃ (tm : List AV) (out : List Nat) (ag : Bool), fr = ⟨tm, [], none, 31⟩ ∧ T = (St.nil.push (.row [.vec (SL.map RSl.row), .int .i64 FF, .vec RR] false)).push (.seq 0 1 (ks out) 0) ∧ k0 = (if ag then zeros out + 1 else 0) ∧ Zok SS out ∧ (ag = false → Fix SS out SS.length) ∧
      tm.length = 67 ∧ tget tm 1 = .ptr 0 0 ∧ tget tm 3 = .sref 1 0 0 SL.length ∧ tget tm 4 = .bool ag) (zeros (List.replicate SL.length 0) + 1)
    ⟨_, List.replicate SL.length 0, true, rfl, rfl, rfl, ⟨by simp [hsL], fun i v h => .inl (by simp [List.getElem?_replicate] at h; exact h.2.symm)⟩, (fun h => by cases h), ?_⟩ ?_
  · simp only [KA, KP, KQ, simprocAttr, KT w, KI, hw.KF, Int.ofNat_zero]
  rintro k0 fr T ⟨tm, out0, ag, rfl, rfl, rfl, hz0, hf0, htm, t1, t3, t4⟩
  repeat with_reducible (first | apply E0 | apply E1 | apply E2 | apply E3 | apply E4 | refine E5 (by decide) ?_ | apply E6 | apply E7 | apply E8 | apply E9 | apply Ea | apply Eb | apply Ec | apply Ed)
  cases ag with
  | false =>
    have hout := hfix out0 hz0 (hf0 rfl)
    refine W_region fun K hK => ?_
    simp only [KA, KB, KP, KQ, KM, simprocAttr, KT w, KI, hw.KF, htm, t4]
    refine hK _ _ ?_
    clear hK
    clear K
    repeat with_reducible (first | apply E0 | apply E1 | apply E2 | apply E3 | apply E4 | refine E5 (by decide) ?_ | apply E6 | apply E7 | apply E8 | apply E9 | apply Ea | apply Eb | apply Ec | apply Ed)
    refine W_condF (by simp only [KA, KP, KQ, simprocAttr, KT w, KI, hw.KF, htm]) ?_
    repeat with_reducible (first | apply E0 | apply E1 | apply E2 | apply E3 | apply E4 | refine E5 (by decide) ?_ | apply E6 | apply E7 | apply E8 | apply E9 | apply Ea | apply Eb | apply Ec | apply Ed)
    refine W_region fun K hK => ?_
    simp only [KA, KB, KP, KQ, KM, simprocAttr, KT w, KI, hw.KF, htm, t3]
    refine hK _ _ ?_
    clear hK
    clear K
    repeat with_reducible (first | apply E0 | apply E1 | apply E2 | apply E3 | apply E4 | refine E5 (by decide) ?_ | apply E6 | apply E7 | apply E8 | apply E9 | apply Ea | apply Eb | apply Ec | apply Ed)
    refine AtEnd_of rfl ?_
    simp only [KA, KP, KQ, simprocAttr, KT w, KI, hw.KF, htm, RS_some, aresults_nil, aresults_tmp, aresults_cell, one]
    have hl1 := hz0.1
    rw [hsL] at hl1
    rw [← hout]
    refine FZ_sref (r := ks out0) ?_ (nrmR_ks _)
    have hg1 : ((St.nil.push (.row [.vec (SL.map RSl.row), .int .i64 FF, .vec RR] false)).push (.seq 0 1 (ks out0) 0)).get 1 = some (.seq 0 1 (ks out0) 0) := rfl
    unfold St.rows
    rw [hg1]
    simp [ks_len, hl1]
    rw [List.take_of_length_le (by rw [ks_len]; omega)]
  | true =>
    rw [if_pos rfl]
    refine W_region fun K hK => ?_
    simp only [KA, KB, KP, KQ, KM, simprocAttr, KT w, KI, hw.KF, htm, t4]
    refine hK _ _ ?_
    clear hK
    clear K
    repeat with_reducible (first | apply E0 | apply E1 | apply E2 | apply E3 | apply E4 | refine E5 (by decide) ?_ | apply E6 | apply E7 | apply E8 | apply E9 | apply Ea | apply Eb | apply Ec | apply Ed)
    refine W_condT (by simp only [KA, KP, KQ, simprocAttr, KT w, KI, hw.KF, htm]) ?_
    repeat with_reducible (first | apply E0 | apply E1 | apply E2 | apply E3 | apply E4 | refine E5 (by decide) ?_ | apply E6 | apply E7 | apply E8 | apply E9 | apply Ea | apply Eb | apply Ec | apply Ed)
    refine W_region fun K hK => ?_
    simp only [KA, KB, KP, KQ, KM, simprocAttr, KT w, KI, hw.KF, htm]
    refine hK _ _ ?_
    clear hK
    clear K
    repeat with_reducible (first | apply E0 | apply E1 | apply E2 | apply E3 | apply E4 | refine E5 (by decide) ?_ | apply E6 | apply E7 | apply E8 | apply E9 | apply Ea | apply Eb | apply Ec | apply Ed)
    refine W_region fun K hK => ?_
    simp only [KA, KB, KP, KQ, KM, simprocAttr, KT w, KI, hw.KF, htm]
    refine hK _ _ ?_
    clear hK
    clear K
    repeat with_reducible (first | apply E0 | apply E1 | apply E2 | apply E3 | apply E4 | refine E5 (by decide) ?_ | apply E6 | apply E7 | apply E8 | apply E9 | apply Ea | apply Eb | apply Ec | apply Ed)
    refine W_loop (fun k0 fr T => ∃ (tm : List AV) (i : Nat) (out : List Nat) (ag : Bool), fr = ⟨tm, [], none, 31⟩ ∧ T = (St.nil.push (.row [.vec (SL.map RSl.row), .int .i64 FF, .vec RR] false)).push (.seq 0 1 (ks out) 0) ∧ k0 = SL.length - i ∧ i ≤ SL.length ∧ Zok SS out ∧ zeros out ≤ zeros out0 ∧ (ag = true → zeros out < zeros out0) ∧ (ag = false → out = out0 ∧ Fix SS out0 i) ∧
        tm.length = 67 ∧ tget tm 1 = .ptr 0 0 ∧ tget tm 3 = .sref 1 0 0 SL.length ∧ tget tm 4 = .bool ag ∧ tget tm 5 = .int .i64 (i : Nat)) SL.length
      ⟨_, 0, out0, false, rfl, rfl, rfl, Nat.zero_le _, hz0, Nat.le_refl _, (fun h => by cases h), (fun _ => ⟨rfl, fun q s hq => by omega⟩), ?_⟩ ?_
    · simp only [KA, KP, KQ, simprocAttr, KT w, KI, hw.KF, htm, t1, t3, Int.ofNat_zero]
    clear htm t1 t3 t4 tm hf0
    rintro k0 fr T ⟨tm, i, out, ag, rfl, rfl, rfl, hi, hz, hle, hlt, hff, htm, t1, t3, t4, t5⟩
    have hol := ks_len out
    rw [hz.1, hsL] at hol
    repeat with_reducible (first | apply E0 | apply E1 | apply E2 | apply E3 | apply E4 | refine E5 (by decide) ?_ | apply E6 | apply E7 | apply E8 | apply E9 | apply Ea | apply Eb | apply Ec | apply Ed)
    by_cases hil : (i : Int) < (SL.length : Int)
    case neg =>
      have hie : i = SL.length := by omega
      refine W_region fun K hK => ?_
      simp only [KA, KB, KP, KQ, KM, simprocAttr, KT w, KI, hw.KF, htm, t3, t5, hil]
      refine hK _ _ ?_
      clear hK
      clear K
      repeat with_reducible (first | apply E0 | apply E1 | apply E2 | apply E3 | apply E4 | refine E5 (by decide) ?_ | apply E6 | apply E7 | apply E8 | apply E9 | apply Ea | apply Eb | apply Ec | apply Ed)
      refine W_condF (by simp only [KA, KP, KQ, simprocAttr, KT w, KI, hw.KF, htm]) ?_
      repeat with_reducible (first | apply E0 | apply E1 | apply E2 | apply E3 | apply E4 | refine E5 (by decide) ?_ | apply E6 | apply E7 | apply E8 | apply E9 | apply Ea | apply Eb | apply Ec | apply Ed)
      refine ⟨_, ?_, _, out, ag, rfl, rfl, rfl, hz, fun h => ?_, ?_⟩
      · cases ag with
        | false => simp
        | true => have := hlt rfl; simp; omega
      · obtain ⟨h1, h2⟩ := hff h
        rw [h1, hsL, ← hie]; exact h2
      · simp only [KA, KP, KQ, simprocAttr, KT w, KI, hw.KF, htm, t1, t3, t4]
    have hin : i < SL.length := by omega
    obtain ⟨s0, hs0⟩ : ∃ s, SL[i]? = some s := ⟨_, List.getElem?_eq_getElem hin⟩
    have hrow : (SL.map RSl.row)[i]? = some s0.row := by rw [List.getElem?_map, hs0]; rfl
    obtain ⟨hs, hsk, hkl⟩ := hraw i s0 hs0
    have hr10 := s0.row_len
    have hr7 := s0.row7
    rw [hsk] at hr7
    generalize s0.row = SR at *
    generalize s0.sl = s at *
    have hi0 : ¬ (i : Int) < 0 := by omega
    have hkn := ks_len s.kids
    have e1 : IntKind.i64.wrap ((i : Int) + 1) = (i : Int) + 1 := i64_in _ (by omega)
    have hst := hstep i s hs
    have hou : ∀ q ∈ s.kids, ∃ x, out[q]? = some x ∧ x ≤ 5001 ∧ out.getD q 0 = x := fun q hq => by
      obtain ⟨s', h1, _⟩ := hkid i s q hs hq
      have hql : q < out.length := by rw [hz.1]; exact (List.getElem?_eq_some_iff.1 h1).1
      refine ⟨out[q], List.getElem?_eq_getElem hql, ?_, by simp [List.getD, List.getElem?_eq_getElem hql]⟩
      rcases hz.2 q _ (List.getElem?_eq_getElem hql) with h | h
      · omega
      · rw [h]; exact szG_le _ _
    refine W_region fun K hK => ?_
    simp only [KA, KB, KP, KQ, KM, simprocAttr, KT w, KI, hw.KF, htm, t3, t5, hil]
    refine hK _ _ ?_
    clear hK
    clear K
    repeat with_reducible (first | apply E0 | apply E1 | apply E2 | apply E3 | apply E4 | refine E5 (by decide) ?_ | apply E6 | apply E7 | apply E8 | apply E9 | apply Ea | apply Eb | apply Ec | apply Ed)
    refine W_condT (by simp only [KA, KP, KQ, simprocAttr, KT w, KI, hw.KF, htm]) ?_
    repeat with_reducible (first | apply E0 | apply E1 | apply E2 | apply E3 | apply E4 | refine E5 (by decide) ?_ | apply E6 | apply E7 | apply E8 | apply E9 | apply Ea | apply Eb | apply Ec | apply Ed)
    refine W_region fun K hK => ?_
    simp only [KA, KB, KP, KQ, KM, simprocAttr, KT w, KI, hw.KF, htm]
    refine hK _ _ ?_
    clear hK
    clear K
    repeat with_reducible (first | apply E0 | apply E1 | apply E2 | apply E3 | apply E4 | refine E5 (by decide) ?_ | apply E6 | apply E7 | apply E8 | apply E9 | apply Ea | apply Eb | apply Ec | apply Ed)
    refine W_region fun K hK => ?_
    simp only [KA, KB, KP, KQ, KM, simprocAttr, KT w, KI, hw.KF, htm]
    refine hK _ _ ?_
    clear hK
    clear K
    repeat with_reducible (first | apply E0 | apply E1 | apply E2 | apply E3 | apply E4 | refine E5 (by decide) ?_ | apply E6 | apply E7 | apply E8 | apply E9 | apply Ea | apply Eb | apply Ec | apply Ed)
    refine W_loop (fun k0 fr T => ∃ (tm : List AV) (k n : Nat), fr = ⟨tm, [], none, 31⟩ ∧ T = (St.nil.push (.row [.vec (SL.map RSl.row), .int .i64 FF, .vec RR] false)).push (.seq 0 1 (ks out) 0) ∧ k0 = s.kids.length - k ∧ k ≤ s.kids.length ∧ n ≤ 5001 ∧
        ((0 < n ∧ n = min 5001 (1 + sg out (s.kids.take k)) ∧ ∀ q ∈ s.kids.take k, 0 < out.getD q 0) ∨ (n = 0 ∧ ∃ q ∈ s.kids, out.getD q 0 = 0)) ∧
        tm.length = 67 ∧ tget tm 1 = .ptr 0 0 ∧ tget tm 3 = .sref 1 0 0 SL.length ∧ tget tm 4 = .bool ag ∧ tget tm 5 = .int .i64 (i : Nat) ∧ tget tm 6 = .int .i64 (n : Nat) ∧ tget tm 7 = .int .i64 (k : Nat)) s.kids.length
      ⟨_, 0, 1, rfl, rfl, rfl, Nat.zero_le _, by omega, .inl ⟨by omega, by simp [sg], fun q h => by simp at h⟩, ?_⟩ ?_
    · simp only [KA, KP, KQ, simprocAttr, KT w, KI, hw.KF, htm, t1, t3, t4, t5, Int.ofNat_zero, A3z]
      try simp
    clear htm t1 t3 t4 t5 tm
    rintro k0 fr T ⟨tm, k, n, rfl, rfl, rfl, hk, hn, hor, htm, t1, t3, t4, t5, t6, t7⟩
    repeat with_reducible (first | apply E0 | apply E1 | apply E2 | apply E3 | apply E4 | refine E5 (by decide) ?_ | apply E6 | apply E7 | apply E8 | apply E9 | apply Ea | apply Eb | apply Ec | apply Ed)
    have hk0 : ¬ (k : Int) < 0 := by omega
    have e2 : IntKind.i64.wrap ((k : Int) + 1) = (k : Int) + 1 := i64_in _ (by omega)
    have stop : (n = 0 ∨ k = s.kids.length) → (0 < n → n = szG SS i) ∧ (n = 0 → ∃ q ∈ s.kids, out.getD q 0 = 0) := fun hs => by
      rcases hor with ⟨h1, h2, h3⟩ | ⟨h1, h2⟩
      · refine ⟨fun _ => ?_, fun h => by omega⟩
        have hke : k = s.kids.length := by omega
        rw [hke, List.take_length] at h2 h3
        rw [hz.sum h3, (hst fun q hq => by have := h3 q hq; obtain ⟨x, hx, _, hxd⟩ := hou q hq; rcases hz.2 q x hx with e | e <;> omega).1] at h2
        exact h2
      · exact ⟨fun h => by omega, fun _ => h2⟩
    by_cases hn0 : n = 0
    · obtain ⟨st1, st2⟩ := stop (.inl hn0)
      subst hn0
      by_cases hkl : (k : Int) < (s.kids.length : Int)
      · refine W_region fun K hK => ?_
        simp only [KA, KB, KP, KQ, KM, simprocAttr, KT w, KI, hw.KF, htm, t1, t5, t6, t7, hrow, hr10, hr7, hsl, hi0, hil, hkl, hkn, Int.ofNat_zero]
        refine hK _ _ ?_
        clear hK
        clear K
        repeat with_reducible (first | apply E0 | apply E1 | apply E2 | apply E3 | apply E4 | refine E5 (by decide) ?_ | apply E6 | apply E7 | apply E8 | apply E9 | apply Ea | apply Eb | apply Ec | apply Ed)
        refine W_condF (by simp only [KA, KP, KQ, simprocAttr, KT w, KI, hw.KF, htm]) ?_
        repeat with_reducible (first | apply E0 | apply E1 | apply E2 | apply E3 | apply E4 | refine E5 (by decide) ?_ | apply E6 | apply E7 | apply E8 | apply E9 | apply Ea | apply Eb | apply Ec | apply Ed)
        obtain ⟨x, hx⟩ : ∃ x, out[i]? = some x := ⟨_, List.getElem?_eq_getElem (by rw [hz.1, hsL]; exact hin)⟩
        have hxk : (ks out)[i]? = some [.int .i64 (x : Int)] := by rw [ks_get, hx]; rfl
        by_cases hx0 : x = 0
        · subst hx0
          refine W_region fun K hK => ?_
          simp only [KA, KB, KP, KQ, KM, simprocAttr, KT w, KI, hw.KF, htm, t3, t5, t6, hol, hi0, hil, hxk, Int.ofNat_zero]
          refine hK _ _ ?_
          clear hK
          clear K
          repeat with_reducible (first | apply E0 | apply E1 | apply E2 | apply E3 | apply E4 | refine E5 (by decide) ?_ | apply E6 | apply E7 | apply E8 | apply E9 | apply Ea | apply Eb | apply Ec | apply Ed)
          refine W_condF (by simp only [KA, KP, KQ, simprocAttr, KT w, KI, hw.KF, htm]) ?_
          repeat with_reducible (first | apply E0 | apply E1 | apply E2 | apply E3 | apply E4 | refine E5 (by decide) ?_ | apply E6 | apply E7 | apply E8 | apply E9 | apply Ea | apply Eb | apply Ec | apply Ed)
          refine W_region fun K hK => ?_
          simp only [KA, KB, KP, KQ, KM, simprocAttr, KT w, KI, hw.KF, htm, t5, e1]
          refine hK _ _ ?_
          clear hK
          clear K
          refine ⟨SL.length - (i + 1), by omega, _, i + 1, out, ag, rfl, rfl, rfl, by omega, hz, hle, hlt, fun h => ?_, ?_⟩
          · obtain ⟨h1, h2⟩ := hff h
            refine ⟨h1, fun q s' hq hs' h0 => ?_⟩
            by_cases hqi : q < i
            · exact h2 q s' hqi hs' h0
            · have hqe : q = i := by omega
              subst hqe
              rw [hs] at hs'; cases hs'
              rw [← h1] at h0 ⊢
              rw [hx] at h0
              exact st2 rfl
          · simp only [KA, KP, KQ, simprocAttr, KT w, KI, hw.KF, htm, t1, t3, t4, Int.natCast_add, A3z]
        · have hx0' : ¬ (x : Int) = 0 := by omega
          refine W_region fun K hK => ?_
          simp only [KA, KB, KP, KQ, KM, simprocAttr, KT w, KI, hw.KF, htm, t3, t5, t6, hol, hi0, hil, hxk, hx0', Int.ofNat_zero]
          refine hK _ _ ?_
          clear hK
          clear K
          repeat with_reducible (first | apply E0 | apply E1 | apply E2 | apply E3 | apply E4 | refine E5 (by decide) ?_ | apply E6 | apply E7 | apply E8 | apply E9 | apply Ea | apply Eb | apply Ec | apply Ed)
          refine W_condF (by simp only [KA, KP, KQ, simprocAttr, KT w, KI, hw.KF, htm]) ?_
          repeat with_reducible (first | apply E0 | apply E1 | apply E2 | apply E3 | apply E4 | refine E5 (by decide) ?_ | apply E6 | apply E7 | apply E8 | apply E9 | apply Ea | apply Eb | apply Ec | apply Ed)
          refine W_region fun K hK => ?_
          simp only [KA, KB, KP, KQ, KM, simprocAttr, KT w, KI, hw.KF, htm, t5, e1]
          refine hK _ _ ?_
          clear hK
          clear K
          refine ⟨SL.length - (i + 1), by omega, _, i + 1, out, ag, rfl, rfl, rfl, by omega, hz, hle, hlt, fun h => ?_, ?_⟩
          · obtain ⟨h1, h2⟩ := hff h
            refine ⟨h1, fun q s' hq hs' h0 => ?_⟩
            by_cases hqi : q < i
            · exact h2 q s' hqi hs' h0
            · have hqe : q = i := by omega
              subst hqe
              rw [hs] at hs'; cases hs'
              rw [← h1] at h0 ⊢
              rw [hx] at h0
              cases h0; exact absurd rfl hx0
          · simp only [KA, KP, KQ, simprocAttr, KT w, KI, hw.KF, htm, t1, t3, t4, Int.natCast_add, A3z]
      · refine W_region fun K hK => ?_
        simp only [KA, KB, KP, KQ, KM, simprocAttr, KT w, KI, hw.KF, htm, t1, t5, t6, t7, hrow, hr10, hr7, hsl, hi0, hil, hkl, hkn, Int.ofNat_zero]
        refine hK _ _ ?_
        clear hK
        clear K
        repeat with_reducible (first | apply E0 | apply E1 | apply E2 | apply E3 | apply E4 | refine E5 (by decide) ?_ | apply E6 | apply E7 | apply E8 | apply E9 | apply Ea | apply Eb | apply Ec | apply Ed)
        refine W_condF (by simp only [KA, KP, KQ, simprocAttr, KT w, KI, hw.KF, htm]) ?_
        repeat with_reducible (first | apply E0 | apply E1 | apply E2 | apply E3 | apply E4 | refine E5 (by decide) ?_ | apply E6 | apply E7 | apply E8 | apply E9 | apply Ea | apply Eb | apply Ec | apply Ed)
        obtain ⟨x, hx⟩ : ∃ x, out[i]? = some x := ⟨_, List.getElem?_eq_getElem (by rw [hz.1, hsL]; exact hin)⟩
        have hxk : (ks out)[i]? = some [.int .i64 (x : Int)] := by rw [ks_get, hx]; rfl
        by_cases hx0 : x = 0
        · subst hx0
          refine W_region fun K hK => ?_
          simp only [KA, KB, KP, KQ, KM, simprocAttr, KT w, KI, hw.KF, htm, t3, t5, t6, hol, hi0, hil, hxk, Int.ofNat_zero]
          refine hK _ _ ?_
          clear hK
          clear K
          repeat with_reducible (first | apply E0 | apply E1 | apply E2 | apply E3 | apply E4 | refine E5 (by decide) ?_ | apply E6 | apply E7 | apply E8 | apply E9 | apply Ea | apply Eb | apply Ec | apply Ed)
          refine W_condF (by simp only [KA, KP, KQ, simprocAttr, KT w, KI, hw.KF, htm]) ?_
          repeat with_reducible (first | apply E0 | apply E1 | apply E2 | apply E3 | apply E4 | refine E5 (by decide) ?_ | apply E6 | apply E7 | apply E8 | apply E9 | apply Ea | apply Eb | apply Ec | apply Ed)
          refine W_region fun K hK => ?_
          simp only [KA, KB, KP, KQ, KM, simprocAttr, KT w, KI, hw.KF, htm, t5, e1]
          refine hK _ _ ?_
          clear hK
          clear K
          refine ⟨SL.length - (i + 1), by omega, _, i + 1, out, ag, rfl, rfl, rfl, by omega, hz, hle, hlt, fun h => ?_, ?_⟩
          · obtain ⟨h1, h2⟩ := hff h
            refine ⟨h1, fun q s' hq hs' h0 => ?_⟩
            by_cases hqi : q < i
            · exact h2 q s' hqi hs' h0
            · have hqe : q = i := by omega
              subst hqe
              rw [hs] at hs'; cases hs'
              rw [← h1] at h0 ⊢
              rw [hx] at h0
              exact st2 rfl
          · simp only [KA, KP, KQ, simprocAttr, KT w, KI, hw.KF, htm, t1, t3, t4, Int.natCast_add, A3z]
        · have hx0' : ¬ (x : Int) = 0 := by omega
          refine W_region fun K hK => ?_
          simp only [KA, KB, KP, KQ, KM, simprocAttr, KT w, KI, hw.KF, htm, t3, t5, t6, hol, hi0, hil, hxk, hx0', Int.ofNat_zero]
          refine hK _ _ ?_
          clear hK
          clear K
          repeat with_reducible (first | apply E0 | apply E1 | apply E2 | apply E3 | apply E4 | refine E5 (by decide) ?_ | apply E6 | apply E7 | apply E8 | apply E9 | apply Ea | apply Eb | apply Ec | apply Ed)
          refine W_condF (by simp only [KA, KP, KQ, simprocAttr, KT w, KI, hw.KF, htm]) ?_
          repeat with_reducible (first | apply E0 | apply E1 | apply E2 | apply E3 | apply E4 | refine E5 (by decide) ?_ | apply E6 | apply E7 | apply E8 | apply E9 | apply Ea | apply Eb | apply Ec | apply Ed)
          refine W_region fun K hK => ?_
          simp only [KA, KB, KP, KQ, KM, simprocAttr, KT w, KI, hw.KF, htm, t5, e1]
          refine hK _ _ ?_
          clear hK
          clear K
          refine ⟨SL.length - (i + 1), by omega, _, i + 1, out, ag, rfl, rfl, rfl, by omega, hz, hle, hlt, fun h => ?_, ?_⟩
          · obtain ⟨h1, h2⟩ := hff h
            refine ⟨h1, fun q s' hq hs' h0 => ?_⟩
            by_cases hqi : q < i
            · exact h2 q s' hqi hs' h0
            · have hqe : q = i := by omega
              subst hqe
              rw [hs] at hs'; cases hs'
              rw [← h1] at h0 ⊢
              rw [hx] at h0
              cases h0; exact absurd rfl hx0
          · simp only [KA, KP, KQ, simprocAttr, KT w, KI, hw.KF, htm, t1, t3, t4, Int.natCast_add, A3z]
    have hnp : (n : Int) > 0 := by omega
    by_cases hkl : (k : Int) < (s.kids.length : Int)
    case neg =>
      obtain ⟨st1, st2⟩ := stop (.inr (by omega))
      refine W_region fun K hK => ?_
      simp only [KA, KB, KP, KQ, KM, simprocAttr, KT w, KI, hw.KF, htm, t1, t5, t6, t7, hrow, hr10, hr7, hsl, hi0, hil, hkl, hkn]
      refine hK _ _ ?_
      clear hK
      clear K
      repeat with_reducible (first | apply E0 | apply E1 | apply E2 | apply E3 | apply E4 | refine E5 (by decide) ?_ | apply E6 | apply E7 | apply E8 | apply E9 | apply Ea | apply Eb | apply Ec | apply Ed)
      refine W_condF (by simp only [KA, KP, KQ, simprocAttr, KT w, KI, hw.KF, htm]) ?_
      repeat with_reducible (first | apply E0 | apply E1 | apply E2 | apply E3 | apply E4 | refine E5 (by decide) ?_ | apply E6 | apply E7 | apply E8 | apply E9 | apply Ea | apply Eb | apply Ec | apply Ed)
      obtain ⟨x, hx⟩ : ∃ x, out[i]? = some x := ⟨_, List.getElem?_eq_getElem (by rw [hz.1, hsL]; exact hin)⟩
      have hxk : (ks out)[i]? = some [.int .i64 (x : Int)] := by rw [ks_get, hx]; rfl
      by_cases hx0 : x = 0
      · subst hx0
        have hn1 : (n : Int) > 0 := by omega
        have hks := ks_set out i n
        have hnz := st1 (by omega)
        refine W_region fun K hK => ?_
        simp only [KA, KB, KP, KQ, KM, simprocAttr, KT w, KI, hw.KF, htm, t3, t5, t6, hol, hi0, hil, hxk, hn1, Int.ofNat_zero]
        refine hK _ _ ?_
        clear hK
        clear K
        repeat with_reducible (first | apply E0 | apply E1 | apply E2 | apply E3 | apply E4 | refine E5 (by decide) ?_ | apply E6 | apply E7 | apply E8 | apply E9 | apply Ea | apply Eb | apply Ec | apply Ed)
        refine W_condT (by simp only [KA, KP, KQ, simprocAttr, KT w, KI, hw.KF, htm]) ?_
        repeat with_reducible (first | apply E0 | apply E1 | apply E2 | apply E3 | apply E4 | refine E5 (by decide) ?_ | apply E6 | apply E7 | apply E8 | apply E9 | apply Ea | apply Eb | apply Ec | apply Ed)
        refine W_region fun K hK => ?_
        simp only [KA, KB, KP, KQ, KM, simprocAttr, KT w, KI, hw.KF, htm, t3, t5, t6, hol, hi0, hil, hxk, hks, splice]
        refine hK _ _ ?_
        clear hK
        clear K
        repeat with_reducible (first | apply E0 | apply E1 | apply E2 | apply E3 | apply E4 | refine E5 (by decide) ?_ | apply E6 | apply E7 | apply E8 | apply E9 | apply Ea | apply Eb | apply Ec | apply Ed)
        refine W_region fun K hK => ?_
        simp only [KA, KB, KP, KQ, KM, simprocAttr, KT w, KI, hw.KF, htm]
        refine hK _ _ ?_
        clear hK
        clear K
        repeat with_reducible (first | apply E0 | apply E1 | apply E2 | apply E3 | apply E4 | refine E5 (by decide) ?_ | apply E6 | apply E7 | apply E8 | apply E9 | apply Ea | apply Eb | apply Ec | apply Ed)
        refine W_region fun K hK => ?_
        simp only [KA, KB, KP, KQ, KM, simprocAttr, KT w, KI, hw.KF, htm, t5, e1]
        refine hK _ _ ?_
        clear hK
        clear K
        have hzz := zeros_set hx (show 0 < n by omega)
        refine ⟨SL.length - (i + 1), by omega, _, i + 1, out.set i n, true, rfl, rfl, rfl, by omega, hz.set hnz, by omega, (fun _ => by omega), (fun h => by cases h), ?_⟩
        simp only [KA, KP, KQ, simprocAttr, KT w, KI, hw.KF, htm, t1, t3, Int.natCast_add, A3z]
      · have hx0' : ¬ (x : Int) = 0 := by omega
        refine W_region fun K hK => ?_
        simp only [KA, KB, KP, KQ, KM, simprocAttr, KT w, KI, hw.KF, htm, t3, t5, t6, hol, hi0, hil, hxk, hx0', Int.ofNat_zero]
        refine hK _ _ ?_
        clear hK
        clear K
        repeat with_reducible (first | apply E0 | apply E1 | apply E2 | apply E3 | apply E4 | refine E5 (by decide) ?_ | apply E6 | apply E7 | apply E8 | apply E9 | apply Ea | apply Eb | apply Ec | apply Ed)
        refine W_condF (by simp only [KA, KP, KQ, simprocAttr, KT w, KI, hw.KF, htm]) ?_
        repeat with_reducible (first | apply E0 | apply E1 | apply E2 | apply E3 | apply E4 | refine E5 (by decide) ?_ | apply E6 | apply E7 | apply E8 | apply E9 | apply Ea | apply Eb | apply Ec | apply Ed)
        refine W_region fun K hK => ?_
        simp only [KA, KB, KP, KQ, KM, simprocAttr, KT w, KI, hw.KF, htm, t5, e1]
        refine hK _ _ ?_
        clear hK
        clear K
        refine ⟨SL.length - (i + 1), by omega, _, i + 1, out, ag, rfl, rfl, rfl, by omega, hz, hle, hlt, fun h => ?_, ?_⟩
        · obtain ⟨h1, h2⟩ := hff h
          refine ⟨h1, fun q s' hq hs' h0 => ?_⟩
          by_cases hqi : q < i
          · exact h2 q s' hqi hs' h0
          · have hqe : q = i := by omega
            subst hqe
            rw [hs] at hs'; cases hs'
            rw [← h1] at h0 ⊢
            rw [hx] at h0
            cases h0; exact absurd rfl hx0
        · simp only [KA, KP, KQ, simprocAttr, KT w, KI, hw.KF, htm, t1, t3, t4, Int.natCast_add, A3z]
    obtain ⟨q, hq⟩ : ∃ q, s.kids[k]? = some q := ⟨_, List.getElem?_eq_getElem (by omega)⟩
    have hqm := List.mem_of_getElem? hq
    obtain ⟨x, hx, hx5, hxd⟩ := hou q hqm
    have hqk : (ks s.kids)[k]? = some [.int .i64 (q : Int)] := by rw [ks_get, hq]; rfl
    have hxk : (ks out)[q]? = some [.int .i64 (x : Int)] := by rw [ks_get, hx]; rfl
    have hq0 : ¬ (q : Int) < 0 := by omega
    have hql : (q : Int) < (SL.length : Int) := by have := (List.getElem?_eq_some_iff.1 hx).1; rw [hz.1, hsL] at this; omega
    have e3 : IntKind.i64.wrap ((n : Int) + (x : Int)) = ((n + x : Nat) : Int) := by rw [i64_in _ (by omega)]; omega
    have hmn : amin [.int .i64 ((n + x : Nat) : Int), .int .i64 5001] = some (.int .i64 ((min (n + x) 5001 : Nat) : Int)) := by
      simp only [amin, ↓reduceIte, Option.some.injEq, AV.int.injEq, true_and]
      split <;> omega
    rcases hor with ⟨h1, h2, h3⟩ | ⟨h1, _⟩
    case inr => exact absurd h1 hn0
    have htk : s.kids.take (k + 1) = s.kids.take k ++ [q] := by rw [List.take_add_one, hq]; rfl
    refine W_region fun K hK => ?_
    simp only [KA, KB, KP, KQ, KM, simprocAttr, KT w, KI, hw.KF, htm, t1, t5, t6, t7, hrow, hr10, hr7, hsl, hi0, hil, hkl, hkn, hnp]
    refine hK _ _ ?_
    clear hK
    clear K
    repeat with_reducible (first | apply E0 | apply E1 | apply E2 | apply E3 | apply E4 | refine E5 (by decide) ?_ | apply E6 | apply E7 | apply E8 | apply E9 | apply Ea | apply Eb | apply Ec | apply Ed)
    refine W_condT (by simp only [KA, KP, KQ, simprocAttr, KT w, KI, hw.KF, htm]) ?_
    repeat with_reducible (first | apply E0 | apply E1 | apply E2 | apply E3 | apply E4 | refine E5 (by decide) ?_ | apply E6 | apply E7 | apply E8 | apply E9 | apply Ea | apply Eb | apply Ec | apply Ed)
    refine W_region fun K hK => ?_
    simp only [KA, KB, KP, KQ, KM, simprocAttr, KT w, KI, hw.KF, htm, t1, t3, t5, t7, hrow, hr10, hr7, hsl, hi0, hil, hk0, hkn, hkl, hqk, hq0, hql, hxk, hol]
    refine hK _ _ ?_
    clear hK
    clear K
    repeat with_reducible (first | apply E0 | apply E1 | apply E2 | apply E3 | apply E4 | refine E5 (by decide) ?_ | apply E6 | apply E7 | apply E8 | apply E9 | apply Ea | apply Eb | apply Ec | apply Ed)
    refine W_region fun K hK => ?_
    simp only [KA, KB, KP, KQ, KM, simprocAttr, KT w, KI, hw.KF, htm, t6, e3, hmn]
    refine hK _ _ ?_
    clear hK
    clear K
    repeat with_reducible (first | apply E0 | apply E1 | apply E2 | apply E3 | apply E4 | refine E5 (by decide) ?_ | apply E6 | apply E7 | apply E8 | apply E9 | apply Ea | apply Eb | apply Ec | apply Ed)
    by_cases hx0 : x = 0
    · subst hx0
      refine W_region fun K hK => ?_
      simp only [KA, KB, KP, KQ, KM, simprocAttr, KT w, KI, hw.KF, htm, Int.ofNat_zero]
      refine hK _ _ ?_
      clear hK
      clear K
      repeat with_reducible (first | apply E0 | apply E1 | apply E2 | apply E3 | apply E4 | refine E5 (by decide) ?_ | apply E6 | apply E7 | apply E8 | apply E9 | apply Ea | apply Eb | apply Ec | apply Ed)
      refine W_condT (by simp only [KA, KP, KQ, simprocAttr, KT w, KI, hw.KF, htm]) ?_
      repeat with_reducible (first | apply E0 | apply E1 | apply E2 | apply E3 | apply E4 | refine E5 (by decide) ?_ | apply E6 | apply E7 | apply E8 | apply E9 | apply Ea | apply Eb | apply Ec | apply Ed)
      refine W_region fun K hK => ?_
      simp only [KA, KB, KP, KQ, KM, simprocAttr, KT w, KI, hw.KF, htm]
      refine hK _ _ ?_
      clear hK
      clear K
      repeat with_reducible (first | apply E0 | apply E1 | apply E2 | apply E3 | apply E4 | refine E5 (by decide) ?_ | apply E6 | apply E7 | apply E8 | apply E9 | apply Ea | apply Eb | apply Ec | apply Ed)
      refine W_region fun K hK => ?_
      simp only [KA, KB, KP, KQ, KM, simprocAttr, KT w, KI, hw.KF, htm, t7, e2]
      refine hK _ _ ?_
      clear hK
      clear K
      refine ⟨s.kids.length - (k + 1), by omega, _, k + 1, 0, rfl, rfl, rfl, by omega, by omega, .inr ⟨rfl, q, hqm, hxd⟩, ?_⟩
      simp only [KA, KP, KQ, simprocAttr, KT w, KI, hw.KF, htm, t1, t3, t4, t5, Int.natCast_add, A3z, Int.ofNat_zero]
    · have hx0' : ¬ (x : Int) = 0 := by omega
      refine W_region fun K hK => ?_
      simp only [KA, KB, KP, KQ, KM, simprocAttr, KT w, KI, hw.KF, htm, hx0']
      refine hK _ _ ?_
      clear hK
      clear K
      repeat with_reducible (first | apply E0 | apply E1 | apply E2 | apply E3 | apply E4 | refine E5 (by decide) ?_ | apply E6 | apply E7 | apply E8 | apply E9 | apply Ea | apply Eb | apply Ec | apply Ed)
      refine W_condF (by simp only [KA, KP, KQ, simprocAttr, KT w, KI, hw.KF, htm]) ?_
      repeat with_reducible (first | apply E0 | apply E1 | apply E2 | apply E3 | apply E4 | refine E5 (by decide) ?_ | apply E6 | apply E7 | apply E8 | apply E9 | apply Ea | apply Eb | apply Ec | apply Ed)
      refine W_region fun K hK => ?_
      simp only [KA, KB, KP, KQ, KM, simprocAttr, KT w, KI, hw.KF, htm, t7, e2]
      refine hK _ _ ?_
      clear hK
      clear K
      refine ⟨s.kids.length - (k + 1), by omega, _, k + 1, min (n + x) 5001, rfl, rfl, rfl, by omega, by omega, .inl ⟨by omega, by rw [htk, sg_snoc, hxd, h2]; omega, fun q' hq' => ?_⟩, ?_⟩
      · rw [htk] at hq'
        rcases List.mem_append.1 hq' with h | h
        · exact h3 q' h
        · rw [List.mem_singleton] at h; subst h; omega
      · simp only [KA, KP, KQ, simprocAttr, KT w, KI, hw.KF, htm, t1, t3, t4, t5, Int.natCast_add, A3z]
end Go.Am.R
