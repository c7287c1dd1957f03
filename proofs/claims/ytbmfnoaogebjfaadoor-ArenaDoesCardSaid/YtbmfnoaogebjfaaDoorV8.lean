/- THE REFERENCE'S Fit ON ANY ARENA. -/
import Derived.Test.YtbmfnoaogebjfaaDoorV7
set_option linter.unusedSimpArgs false
set_option linter.unusedVariables false
set_option maxRecDepth 20000
namespace Go.Am.R
open Go.Proofs Go.IntWalk Classical

variable {w : Ways}

def tb (N : Nat) (f : Nat → Nat) : List Nat := (List.range N).map f
theorem tb_len (N : Nat) (f : Nat → Nat) : (tb N f).length = N := by simp [tb]
theorem tb_get {N q : Nat} (f : Nat → Nat) (h : q < N) : (ks (tb N f))[q]? = some [.int .i64 (f q : Int)] := by simp [tb, ks, h]
theorem tb_set {N q : Nat} {f g : Nat → Nat} (h : q < N) (hg : ∀ j, j < N → g j = f j + (if q = j then 1 else 0)) : (ks (tb N f)).set q [.int .i64 ((f q : Int) + 1)] = ks (tb N g) := by
  have : ((f q : Int) + 1) = ((f q + 1 : Nat) : Int) := by omega
  rw [this, ks_set]
  congr 1
  refine List.ext_getElem? fun j => ?_
  rw [List.getElem?_set]
  by_cases hj : j < N
  · by_cases e : q = j
    · subst e; simp [tb, h, hg q h]
    · simp [e, tb, hj, hg j hj]
  · rw [if_neg (by omega)]
    simp [tb, hj]
theorem tb_rep (N : Nat) : List.replicate N [AV.int .i64 0] = ks (tb N fun _ => 0) := by
  rw [ks_rep]
  congr 1
  refine List.ext_getElem? fun j => ?_
  by_cases hj : j < N
  · simp [tb, hj]
  · simp [tb, hj, List.getElem?_eq_none]
theorem tb_congr {N : Nat} {f g : Nat → Nat} (h : ∀ j, j < N → f j = g j) : tb N f = tb N g := by
  refine List.map_congr_left fun j hj => h j (by simpa using hj)
theorem cnt_take_le (S : List Sl) (i j : Nat) : cnt (S.take i) j ≤ cnt S j := by
  have : cnt S j = cnt (S.take i) j + cnt (S.drop i) j := by
    simp only [cnt]
    rw [← List.sum_append, ← List.map_append, List.take_append_drop]
  omega
theorem cnt_take_snoc {S : List Sl} {i : Nat} {s : Sl} (h : S[i]? = some s) (j : Nat) : cnt (S.take (i + 1)) j = cnt (S.take i) j + s.kids.count j := by
  rw [List.take_add_one, h]; exact cnt_snoc _ _ _
theorem rcnt_take_le (r : List (Option Nat)) (i j : Nat) : rcnt (r.take i) j ≤ rcnt r j := List.Sublist.count_le _ (List.take_sublist _ _)
theorem rcnt_take_snoc {r : List (Option Nat)} {i : Nat} {o : Option Nat} (h : r[i]? = some o) (j : Nat) : rcnt (r.take (i + 1)) j = rcnt (r.take i) j + (if o = some j then 1 else 0) := by
  rw [List.take_add_one, h]; exact rcnt_snoc _ _ _

theorem cnt_le {M : Nat} : ∀ {S : List Sl}, (∀ s ∈ S, s.kids.length ≤ M) → ∀ j, cnt S j ≤ S.length * M
  | [], _, j => by simp [cnt]
  | s :: S, h, j => by
    have h1 := cnt_le (S := S) (fun t ht => h t (by simp [ht])) j
    have h2 := h s (by simp)
    have h3 : s.kids.count j ≤ s.kids.length := List.count_le_length
    simp only [cnt, List.map_cons, List.sum_cons, List.length_cons, Nat.add_mul, Nat.one_mul] at h1 ⊢
    omega
def RAr.ro (A : RAr) : List (Option Nat) := A.roots.map fun r => if r = -1 then none else some r.toNat
theorem ints_ro {l : List Int} (h : ∀ r ∈ l, r = -1 ∨ 0 ≤ r) : ints l = rs (l.map fun r => if r = -1 then none else some r.toNat) := by
  simp only [ints, rs, List.map_map]
  refine List.map_congr_left fun r hr => ?_
  simp only [Function.comp_apply]
  rcases h r hr with rfl | h1
  · rfl
  · rw [if_neg (by omega)]
    show [AV.int .i64 r] = [AV.int .i64 ((r.toNat : Nat) : Int)]
    rw [Int.toNat_of_nonneg h1]
structure FitP (A : RAr) : Prop where
  plain : PlainP A
  free : FreeP A
  size : ∀ (i : Nat) (s : Sl), A.sl[i]? = some s → s.refs > 0 → szG A.sl i ≠ 0
  big : ∀ r, some r ∈ A.ro → szG A.sl r ≤ 5000
  refs : ∀ (i : Nat) (s : Sl), A.sl[i]? = some s → s.refs = ((cnt A.sl i + rcnt A.ro i : Nat) : Int)

set_option maxHeartbeats 2000000 in
theorem fit9 (hw : Std w) (A : RAr) (hA : A.ok) : PC (cfg w) 9 [A.av] (.bool (decide (FitP A))) := by
  refine PC_of (args' := [A.av]) hw.e9 hw.m9 (by simp [nrmA, A.nrm]) ?_
  have no : ¬ FitP A → decide (FitP A) = false := fun h => decide_eq_false h
  have yes : FitP A → decide (FitP A) = true := fun h => decide_eq_true h
  have p29 := plain29 hw A hA
  by_cases hP : PlainP A
  case neg =>
    rw [no fun h => hP h.plain]
    rw [decide_eq_false hP] at p29
    obtain ⟨SL, FF, RT⟩ := A
    unfold RAr.av RAr.cells at p29 ⊢
    simp only at p29 ⊢
    refine call_of_W (fn9 w) rfl ?_
    simp only [Tryd.f9, List.length_cons, List.length_nil, Nat.reduceAdd, Nat.reduceSub, List.cons_append, List.nil_append]
    repeat with_reducible (first | apply E0 | apply E1 | apply E2 | apply E3 | apply E4 | refine E5 (by decide) ?_ | apply E6 | apply E7 | apply E8 | apply E9 | apply Ea | apply Eb | apply Ec | apply Ed)
    refine W_region fun K hK => ?_
    simp only [KA, KB, KP, KQ, KM, simprocAttr, KT w, KI, hw.KF]
    refine hK _ _ ?_
    clear hK
    clear K
    repeat with_reducible (first | apply E0 | apply E1 | apply E2 | apply E3 | apply E4 | refine E5 (by decide) ?_ | apply E6 | apply E7 | apply E8 | apply E9 | apply Ea | apply Eb | apply Ec | apply Ed)
    refine W_region fun K hK => ?_
    simp only [KA, KB, KP, KQ, KM, simprocAttr, KT w, KI, hw.KF, p29]
    refine hK _ _ ?_
    clear hK
    clear K
    repeat with_reducible (first | apply E0 | apply E1 | apply E2 | apply E3 | apply E4 | refine E5 (by decide) ?_ | apply E6 | apply E7 | apply E8 | apply E9 | apply Ea | apply Eb | apply Ec | apply Ed)
    refine W_condT (by simp only [KA, KP, KQ, simprocAttr, KT w, KI, hw.KF]) ?_
    repeat with_reducible (first | apply E0 | apply E1 | apply E2 | apply E3 | apply E4 | refine E5 (by decide) ?_ | apply E6 | apply E7 | apply E8 | apply E9 | apply Ea | apply Eb | apply Ec | apply Ed)
    refine W_region fun K hK => ?_
    simp only [KA, KB, KP, KQ, KM, simprocAttr, KT w, KI, hw.KF]
    refine hK _ _ ?_
    clear hK
    clear K
    repeat with_reducible (first | apply E0 | apply E1 | apply E2 | apply E3 | apply E4 | refine E5 (by decide) ?_ | apply E6 | apply E7 | apply E8 | apply E9 | apply Ea | apply Eb | apply Ec | apply Ed)
    refine AtEnd_of rfl ?_
    simp only [KA, KP, KQ, simprocAttr, KT w, KI, hw.KF, RS_some, aresults_nil, aresults_tmp, aresults_cell, one]
    exact FZ_bool
  rw [decide_eq_true hP] at p29
  have p30 := free30 hw A hP.sl
  by_cases hF : FreeP A
  case neg =>
    rw [no fun h => hF h.free]
    rw [decide_eq_false hF] at p30
    obtain ⟨SL, FF, RT⟩ := A
    unfold RAr.av RAr.cells at p29 p30 ⊢
    simp only at p29 p30 ⊢
    refine call_of_W (fn9 w) rfl ?_
    simp only [Tryd.f9, List.length_cons, List.length_nil, Nat.reduceAdd, Nat.reduceSub, List.cons_append, List.nil_append]
    repeat with_reducible (first | apply E0 | apply E1 | apply E2 | apply E3 | apply E4 | refine E5 (by decide) ?_ | apply E6 | apply E7 | apply E8 | apply E9 | apply Ea | apply Eb | apply Ec | apply Ed)
    refine W_region fun K hK => ?_
    simp only [KA, KB, KP, KQ, KM, simprocAttr, KT w, KI, hw.KF]
    refine hK _ _ ?_
    clear hK
    clear K
    repeat with_reducible (first | apply E0 | apply E1 | apply E2 | apply E3 | apply E4 | refine E5 (by decide) ?_ | apply E6 | apply E7 | apply E8 | apply E9 | apply Ea | apply Eb | apply Ec | apply Ed)
    refine W_region fun K hK => ?_
    simp only [KA, KB, KP, KQ, KM, simprocAttr, KT w, KI, hw.KF, p29, p30]
    refine hK _ _ ?_
    clear hK
    clear K
    repeat with_reducible (first | apply E0 | apply E1 | apply E2 | apply E3 | apply E4 | refine E5 (by decide) ?_ | apply E6 | apply E7 | apply E8 | apply E9 | apply Ea | apply Eb | apply Ec | apply Ed)
    refine W_condT (by simp only [KA, KP, KQ, simprocAttr, KT w, KI, hw.KF]) ?_
    repeat with_reducible (first | apply E0 | apply E1 | apply E2 | apply E3 | apply E4 | refine E5 (by decide) ?_ | apply E6 | apply E7 | apply E8 | apply E9 | apply Ea | apply Eb | apply Ec | apply Ed)
    refine W_region fun K hK => ?_
    simp only [KA, KB, KP, KQ, KM, simprocAttr, KT w, KI, hw.KF]
    refine hK _ _ ?_
    clear hK
    clear K
    repeat with_reducible (first | apply E0 | apply E1 | apply E2 | apply E3 | apply E4 | refine E5 (by decide) ?_ | apply E6 | apply E7 | apply E8 | apply E9 | apply Ea | apply Eb | apply Ec | apply Ed)
    refine AtEnd_of rfl ?_
    simp only [KA, KP, KQ, simprocAttr, KT w, KI, hw.KF, RS_some, aresults_nil, aresults_tmp, aresults_cell, one]
    exact FZ_bool
  rw [decide_eq_true hF] at p30
  have p31 := sizes31 hw A hA hP
  have bad1 : ∀ (i : Nat) (s : Sl), A.sl[i]? = some s → s.refs > 0 → szG A.sl i = 0 → ¬ FitP A := fun i s h1 h2 h3 k => k.size i s h1 h2 h3
  have bad2 : ∀ r, some r ∈ A.ro → szG A.sl r > 5000 → ¬ FitP A := fun r h1 h2 k => by have := k.big r h1; omega
  have bad3 : ∀ (i : Nat) (s : Sl), A.sl[i]? = some s → s.refs ≠ ((cnt A.sl i + rcnt A.ro i : Nat) : Int) → ¬ FitP A := fun i s h1 h2 k => h2 (k.refs i s h1)
  have good : (∀ (i : Nat) (s : Sl), A.sl[i]? = some s → s.refs > 0 → szG A.sl i ≠ 0) → (∀ r, some r ∈ A.ro → szG A.sl r ≤ 5000) → (∀ (i : Nat) (s : Sl), A.sl[i]? = some s → s.refs = ((cnt A.sl i + rcnt A.ro i : Nat) : Int)) → FitP A := fun a b c => ⟨hP, hF, a, b, c⟩
  generalize FitP A = FP at *
  have hlen := hP.sl
  have hrlen := hP.rl
  have hPS := hP.ps
  have hsl : (A.slots.map RSl.row).length = A.slots.length := List.length_map _
  have hsL : A.sl.length = A.slots.length := List.length_map _
  have hkid := fun i s q hs hq => hPS.kid i s q hs hq
  have hraw : ∀ (i : Nat) (s : RSl), A.slots[i]? = some s → A.sl[i]? = some s.sl ∧ ints s.kids = ks s.sl.kids ∧ s.sl.kids.length ≤ 20000000000000 ∧ s.row[8]? = some (.int .i64 s.sl.refs) := fun i s hs => by
    refine ⟨get_sl hs, ints_nk fun q hq => ((hP.slot i s hs).2.1 q hq).1, ?_, s.row8⟩
    have := (hA.2.1 s (List.mem_of_getElem? hs)).2.1
    simpa [RSl.sl] using this
  have hroot : ∀ r, some r ∈ A.ro → r < A.slots.length := fun r hr => by
    simp only [RAr.ro, List.mem_map] at hr
    obtain ⟨x, hx, hxr⟩ := hr
    rcases hP.root x hx with rfl | ⟨h1, s', h2, _⟩
    · simp at hxr
    · split at hxr
      · cases hxr
      · cases hxr; exact (List.getElem?_eq_some_iff.1 h2).1
  have hrl : A.ro.length = A.roots.length := List.length_map _
  have hcl : ∀ j, cnt A.sl j ≤ 81920000000000000 := fun j => by
    have := cnt_le (S := A.sl) (M := 20000000000000) (fun t ht => by
      obtain ⟨i, hi⟩ := List.mem_iff_getElem?.1 ht
      obtain ⟨s, h1, rfl⟩ := sl_get hi
      exact (hraw i s h1).2.2.1) j
    have h2 : A.sl.length * 20000000000000 ≤ 4096 * 20000000000000 := Nat.mul_le_mul_right _ (by omega)
    omega
  have hrc : ∀ j, rcnt A.ro j ≤ 4096 := fun j => by
    have : rcnt A.ro j ≤ A.ro.length := List.count_le_length
    omega
  have hro : ints A.roots = rs A.ro := ints_ro fun r hr => by
    rcases hP.root r hr with h | h
    · exact .inl h
    · exact .inr h.1
  have hszl : ∀ i, i < A.slots.length → (ks (szL A.sl))[i]? = some [.int .i64 (szG A.sl i : Int)] := fun i hi => by simp [ks, szL, hsL, hi]
  have hszn : (ks (szL A.sl)).length = A.slots.length := by simp [ks, szL, hsL]
  have hRR := rs_len A.ro
  rw [hrl] at hRR
  clear hP hF hPS hA
  generalize A.sl = SS at *
  generalize A.ro = RO at *
  obtain ⟨SL, FF, RT⟩ := A
  unfold RAr.av RAr.cells at p29 p30 p31 ⊢
  simp only at hlen hrlen hsl hsL hraw hroot hrl hro hszl hszn hRR p29 p30 p31 ⊢
  rw [hro] at p29 p30 p31 ⊢
  generalize ks (szL SS) = ZL at *
  generalize szG SS = ZF at *
  have hrep := tb_rep SL.length
  have hmk : ((0 : Int) ≤ (SL.length : Int)) := by omega
  have hmk2 : ((SL.length : Int) ≤ 281474976710656) := by omega
  have hmk3 := Int.le_refl (SL.length : Int)
  have hmk4 : (8 * (SL.length : Int) ≤ 281474976710656) := by omega
  have hTl : ∀ f, (ks (tb SL.length f)).length = SL.length := fun f => by rw [ks_len, tb_len]
  refine call_of_W (fn9 w) rfl ?_
  simp only [Tryd.f9, List.length_cons, List.length_nil, Nat.reduceAdd, Nat.reduceSub, List.cons_append, List.nil_append]
  repeat with_reducible (first | apply E0 | apply E1 | apply E2 | apply E3 | apply E4 | refine E5 (by decide) ?_ | apply E6 | apply E7 | apply E8 | apply E9 | apply Ea | apply Eb | apply Ec | apply Ed)
  refine W_region fun K hK => ?_
  simp only [KA, KB, KP, KQ, KM, simprocAttr, KT w, KI, hw.KF]
  refine hK _ _ ?_
  clear hK
  clear K
  repeat with_reducible (first | apply E0 | apply E1 | apply E2 | apply E3 | apply E4 | refine E5 (by decide) ?_ | apply E6 | apply E7 | apply E8 | apply E9 | apply Ea | apply Eb | apply Ec | apply Ed)
  refine W_region fun K hK => ?_
  simp only [KA, KB, KP, KQ, KM, simprocAttr, KT w, KI, hw.KF, p29, p30]
  refine hK _ _ ?_
  clear hK
  clear K
  repeat with_reducible (first | apply E0 | apply E1 | apply E2 | apply E3 | apply E4 | refine E5 (by decide) ?_ | apply E6 | apply E7 | apply E8 | apply E9 | apply Ea | apply Eb | apply Ec | apply Ed)
  refine W_condF (by simp only [KA, KP, KQ, simprocAttr, KT w, KI, hw.KF]) ?_
  repeat with_reducible (first | apply E0 | apply E1 | apply E2 | apply E3 | apply E4 | refine E5 (by decide) ?_ | apply E6 | apply E7 | apply E8 | apply E9 | apply Ea | apply Eb | apply Ec | apply Ed)
  refine W_region fun K hK => ?_
  simp only [KA, KB, KP, KQ, KM, reduceCtorEq, ↓reduceIte, Int.reduceLT, Int.reduceLE, Int.reduceAdd, Int.reduceSub, Int.reduceNeg, Int.reduceMul, Int.reduceToNat, Int.reduceEq, Int.reduceNe, Int.reduceGT, Int.reduceGE, Nat.reducePow, Nat.reduceAdd, Nat.reduceSub, Nat.reduceLT, Nat.reduceMul, Nat.reduceDiv, Nat.reduceEqDiff, Nat.reduceLeDiff, KT w, KI, hw.KF, hsl, hmk, hmk2, hmk3, hmk4, hrep]
  refine hK _ _ ?_
  clear hK
  clear K
  repeat with_reducible (first | apply E0 | apply E1 | apply E2 | apply E3 | apply E4 | refine E5 (by decide) ?_ | apply E6 | apply E7 | apply E8 | apply E9 | apply Ea | apply Eb | apply Ec | apply Ed)
  refine W_region fun K hK => ?_
  simp only [KA, KB, KP, KQ, KM, simprocAttr, KT w, KI, hw.KF, p31]
  refine hK _ _ ?_
  clear hK
  clear K
  repeat with_reducible (first | apply E0 | apply E1 | apply E2 | apply E3 | apply E4 | refine E5 (by decide) ?_ | apply E6 | apply E7 | apply E8 | apply E9 | apply Ea | apply Eb | apply Ec | apply Ed)
  refine W_region fun K hK => ?_
  simp only [KA, KB, KP, KQ, KM, simprocAttr, KT w, KI, hw.KF]
  refine hK _ _ ?_
  clear hK
  clear K
  repeat with_reducible (first | apply E0 | apply E1 | apply E2 | apply E3 | apply E4 | refine E5 (by decide) ?_ | apply E6 | apply E7 | apply E8 | apply E9 | apply Ea | apply Eb | apply Ec | apply Ed)
  refine W_loop (fun k0 fr T => ∃ (tm : List AV) (i : Nat), fr = ⟨tm, [], none, 9⟩ ∧ T = (St.nil.push (.row [.vec (SL.map RSl.row), .int .i64 FF, .vec (rs RO)] false)).push (.seq 0 1 (ks (tb SL.length fun j => cnt (SS.take i) j)) 0) ∧ k0 = SL.length - i ∧ i ≤ SL.length ∧ (∀ (j : Nat) (s : Sl), j < i → SS[j]? = some s → s.refs > 0 → ZF j ≠ 0) ∧
      tm.length = 118 ∧ tget tm 1 = .ptr 0 0 ∧ tget tm 3 = .sref 1 0 0 SL.length ∧ tget tm 4 = .vec ZL ∧ tget tm 5 = .int .i64 (i : Nat)) SL.length
    ⟨_, 0, rfl, by simp [cnt], rfl, Nat.zero_le _, fun j s hj => by omega, ?_⟩ ?_
  · simp only [KA, KP, KQ, simprocAttr, KT w, KI, hw.KF, Int.ofNat_zero]
  rintro k0 fr T ⟨tm, i, rfl, rfl, rfl, hi, hzd, htm, t1, t3, t4, t5⟩
  repeat with_reducible (first | apply E0 | apply E1 | apply E2 | apply E3 | apply E4 | refine E5 (by decide) ?_ | apply E6 | apply E7 | apply E8 | apply E9 | apply Ea | apply Eb | apply Ec | apply Ed)
  by_cases hil : (i : Int) < (SL.length : Int)
  case neg =>
    have hie : i = SS.length := by omega
    have hie' : i = SL.length := by omega
    have hzall : ∀ (j : Nat) (s : Sl), SS[j]? = some s → s.refs > 0 → ZF j ≠ 0 := fun j s hs => hzd j s (by rw [hie]; exact (List.getElem?_eq_some_iff.1 hs).1) hs
    rw [show SS.take i = SS from List.take_of_length_le (by omega)]
    refine W_region fun K hK => ?_
    simp only [KA, KB, KP, KQ, KM, simprocAttr, KT w, KI, hw.KF, htm, t1, t5, hsl, hil]
    refine hK _ _ ?_
    clear hK
    clear K
    repeat with_reducible (first | apply E0 | apply E1 | apply E2 | apply E3 | apply E4 | refine E5 (by decide) ?_ | apply E6 | apply E7 | apply E8 | apply E9 | apply Ea | apply Eb | apply Ec | apply Ed)
    refine W_condF (by simp only [KA, KP, KQ, simprocAttr, KT w, KI, hw.KF, htm]) ?_
    repeat with_reducible (first | apply E0 | apply E1 | apply E2 | apply E3 | apply E4 | refine E5 (by decide) ?_ | apply E6 | apply E7 | apply E8 | apply E9 | apply Ea | apply Eb | apply Ec | apply Ed)
    refine W_region fun K hK => ?_
    simp only [KA, KB, KP, KQ, KM, simprocAttr, KT w, KI, hw.KF, htm]
    refine hK _ _ ?_
    clear hK
    clear K
    repeat with_reducible (first | apply E0 | apply E1 | apply E2 | apply E3 | apply E4 | refine E5 (by decide) ?_ | apply E6 | apply E7 | apply E8 | apply E9 | apply Ea | apply Eb | apply Ec | apply Ed)
    refine W_loop (fun k0 fr T => ∃ (tm : List AV) (r : Nat), fr = ⟨tm, [], none, 9⟩ ∧ T = (St.nil.push (.row [.vec (SL.map RSl.row), .int .i64 FF, .vec (rs RO)] false)).push (.seq 0 1 (ks (tb SL.length fun j => cnt SS j + rcnt (RO.take r) j)) 0) ∧ k0 = RT.length - r ∧ r ≤ RT.length ∧ (∀ q, some q ∈ RO.take r → ZF q ≤ 5000) ∧
        tm.length = 118 ∧ tget tm 1 = .ptr 0 0 ∧ tget tm 3 = .sref 1 0 0 SL.length ∧ tget tm 4 = .vec ZL ∧ tget tm 7 = .int .i64 (r : Nat)) RT.length
      ⟨_, 0, rfl, by simp [rcnt], rfl, Nat.zero_le _, by simp, ?_⟩ ?_
    · simp only [KA, KP, KQ, simprocAttr, KT w, KI, hw.KF, htm, t1, t3, t4, Int.ofNat_zero]
    clear htm t1 t3 t4 t5 tm
    rintro k0 fr T ⟨tm, r, rfl, rfl, rfl, hrr, hbd, htm, t1, t3, t4, t7⟩
    repeat with_reducible (first | apply E0 | apply E1 | apply E2 | apply E3 | apply E4 | refine E5 (by decide) ?_ | apply E6 | apply E7 | apply E8 | apply E9 | apply Ea | apply Eb | apply Ec | apply Ed)
    by_cases hrT : (r : Int) < (RT.length : Int)
    case neg =>
      rw [show RO.take r = RO from List.take_of_length_le (by omega)] at hbd ⊢
      refine W_region fun K hK => ?_
      simp only [KA, KB, KP, KQ, KM, simprocAttr, KT w, KI, hw.KF, htm, t1, t7, hRR, hrT]
      refine hK _ _ ?_
      clear hK
      clear K
      repeat with_reducible (first | apply E0 | apply E1 | apply E2 | apply E3 | apply E4 | refine E5 (by decide) ?_ | apply E6 | apply E7 | apply E8 | apply E9 | apply Ea | apply Eb | apply Ec | apply Ed)
      refine W_condF (by simp only [KA, KP, KQ, simprocAttr, KT w, KI, hw.KF, htm]) ?_
      repeat with_reducible (first | apply E0 | apply E1 | apply E2 | apply E3 | apply E4 | refine E5 (by decide) ?_ | apply E6 | apply E7 | apply E8 | apply E9 | apply Ea | apply Eb | apply Ec | apply Ed)
      refine W_region fun K hK => ?_
      simp only [KA, KB, KP, KQ, KM, simprocAttr, KT w, KI, hw.KF, htm]
      refine hK _ _ ?_
      clear hK
      clear K
      repeat with_reducible (first | apply E0 | apply E1 | apply E2 | apply E3 | apply E4 | refine E5 (by decide) ?_ | apply E6 | apply E7 | apply E8 | apply E9 | apply Ea | apply Eb | apply Ec | apply Ed)
      refine W_loop (fun k0 fr T => ∃ (tm : List AV) (i : Nat), fr = ⟨tm, [], none, 9⟩ ∧ T = (St.nil.push (.row [.vec (SL.map RSl.row), .int .i64 FF, .vec (rs RO)] false)).push (.seq 0 1 (ks (tb SL.length fun j => cnt SS j + rcnt RO j)) 0) ∧ k0 = SL.length - i ∧ i ≤ SL.length ∧ (∀ (j : Nat) (s : Sl), j < i → SS[j]? = some s → s.refs = ((cnt SS j + rcnt RO j : Nat) : Int)) ∧
          tm.length = 118 ∧ tget tm 1 = .ptr 0 0 ∧ tget tm 3 = .sref 1 0 0 SL.length ∧ tget tm 8 = .int .i64 (i : Nat)) SL.length
        ⟨_, 0, rfl, rfl, rfl, Nat.zero_le _, fun j s hj => by omega, ?_⟩ ?_
      · simp only [KA, KP, KQ, simprocAttr, KT w, KI, hw.KF, htm, t1, t3, t4, Int.ofNat_zero]
      clear htm t1 t3 t4 t7 tm
      rintro k0 fr T ⟨tm, i, rfl, rfl, rfl, hi, hrd, htm, t1, t3, t8⟩
      repeat with_reducible (first | apply E0 | apply E1 | apply E2 | apply E3 | apply E4 | refine E5 (by decide) ?_ | apply E6 | apply E7 | apply E8 | apply E9 | apply Ea | apply Eb | apply Ec | apply Ed)
      by_cases hil : (i : Int) < (SL.length : Int)
      case neg =>
        refine W_region fun K hK => ?_
        simp only [KA, KB, KP, KQ, KM, simprocAttr, KT w, KI, hw.KF, htm, t3, t8, hil]
        refine hK _ _ ?_
        clear hK
        clear K
        repeat with_reducible (first | apply E0 | apply E1 | apply E2 | apply E3 | apply E4 | refine E5 (by decide) ?_ | apply E6 | apply E7 | apply E8 | apply E9 | apply Ea | apply Eb | apply Ec | apply Ed)
        refine W_condF (by simp only [KA, KP, KQ, simprocAttr, KT w, KI, hw.KF, htm]) ?_
        repeat with_reducible (first | apply E0 | apply E1 | apply E2 | apply E3 | apply E4 | refine E5 (by decide) ?_ | apply E6 | apply E7 | apply E8 | apply E9 | apply Ea | apply Eb | apply Ec | apply Ed)
        refine W_region fun K hK => ?_
        simp only [KA, KB, KP, KQ, KM, simprocAttr, KT w, KI, hw.KF, htm]
        refine hK _ _ ?_
        clear hK
        clear K
        repeat with_reducible (first | apply E0 | apply E1 | apply E2 | apply E3 | apply E4 | refine E5 (by decide) ?_ | apply E6 | apply E7 | apply E8 | apply E9 | apply Ea | apply Eb | apply Ec | apply Ed)
        refine AtEnd_of rfl ?_
        simp only [KA, KP, KQ, simprocAttr, KT w, KI, hw.KF, htm, RS_some, aresults_nil, aresults_tmp, aresults_cell, one]
        rw [yes (good hzall hbd fun j s hs => hrd j s (by have := (List.getElem?_eq_some_iff.1 hs).1; omega) hs)]
        exact FZ_bool
      obtain ⟨s0, hs0⟩ := get_of_lt (l := SL) (i := i) (by omega)
      have hrow : (SL.map RSl.row)[i]? = some s0.row := by rw [List.getElem?_map, hs0]; rfl
      obtain ⟨hs, hsk, hkl, hr8⟩ := hraw i s0 hs0
      have hr10 := s0.row_len
      generalize s0.row = SR at *
      generalize s0.sl = s at *
      have htg := tb_get (fun j => cnt SS j + rcnt RO j) (show i < SL.length by omega)
      try simp only at htg
      have hi0 : ¬ (i : Int) < 0 := by omega
      have e1 : IntKind.i64.wrap ((i : Int) + 1) = (i : Int) + 1 := i64_in _ (by omega)
      refine W_region fun K hK => ?_
      simp only [KA, KB, KP, KQ, KM, simprocAttr, KT w, KI, hw.KF, htm, t3, t8, hil]
      refine hK _ _ ?_
      clear hK
      clear K
      repeat with_reducible (first | apply E0 | apply E1 | apply E2 | apply E3 | apply E4 | refine E5 (by decide) ?_ | apply E6 | apply E7 | apply E8 | apply E9 | apply Ea | apply Eb | apply Ec | apply Ed)
      refine W_condT (by simp only [KA, KP, KQ, simprocAttr, KT w, KI, hw.KF, htm]) ?_
      repeat with_reducible (first | apply E0 | apply E1 | apply E2 | apply E3 | apply E4 | refine E5 (by decide) ?_ | apply E6 | apply E7 | apply E8 | apply E9 | apply Ea | apply Eb | apply Ec | apply Ed)
      by_cases heq : s.refs = ((cnt SS i + rcnt RO i : Nat) : Int)
      · rw [← heq] at htg
        generalize hTX : (ks (tb SL.length fun j => cnt SS j + rcnt RO j)) = TX at *
        have hTXl : TX.length = SL.length := by rw [← hTX]; exact hTl _
        refine W_regionD [[], [], [0, 1], [2, 0, 1], [], [4], [], [5, 4, 6], [7, 5, 4, 6], [8, 7, 5, 4, 6], [3, 2, 0, 1, 9, 8, 7, 5, 4, 6]] (by decide +kernel) (by decide +kernel) (by decide +kernel) fun K hK => ?_
        simp only [KA, KB, KP, KQ, KM, simprocAttr, KT w, KI, hw.KF, A58, A59, A5a, A5b, A5c, A5d, A5e, A5f, A5g, A5h, KX, Foot.big, A5i, opP, rfoot, refsO, refs, wfoot, A5j, A5k, noisyOk, pairOk, Foot.isQuiet, Foot.apart, Ft.apart, Foot.none, A5l, A5m, A48, A49, A5n, A5o, A5p, A5q, Nat.reduceBEq, htm, t1, t3, t8, hi0, hil, htg, hTXl, hrow, hr10, hr8, hsl]
        refine hK _ _ ?_
        clear hK
        clear K
        repeat with_reducible (first | apply E0 | apply E1 | apply E2 | apply E3 | apply E4 | refine E5 (by decide) ?_ | apply E6 | apply E7 | apply E8 | apply E9 | apply Ea | apply Eb | apply Ec | apply Ed)
        refine W_condF (by simp only [KA, KP, KQ, simprocAttr, KT w, KI, hw.KF, htm]) ?_
        repeat with_reducible (first | apply E0 | apply E1 | apply E2 | apply E3 | apply E4 | refine E5 (by decide) ?_ | apply E6 | apply E7 | apply E8 | apply E9 | apply Ea | apply Eb | apply Ec | apply Ed)
        refine W_region fun K hK => ?_
        simp only [KA, KB, KP, KQ, KM, simprocAttr, KT w, KI, hw.KF, htm, t8, e1]
        refine hK _ _ ?_
        clear hK
        clear K
        refine ⟨SL.length - (i + 1), by omega, _, i + 1, rfl, by rw [← hTX], rfl, by omega, fun j s' hj hs' => ?_, ?_⟩
        · by_cases e : j < i
          · exact hrd j s' e hs'
          · have : j = i := by omega
            subst this; rw [hs] at hs'; cases hs'; exact heq
        · simp only [KA, KP, KQ, simprocAttr, KT w, KI, hw.KF, htm, t1, t3, Int.natCast_add, A3z]
      · have heq' : ¬ (((cnt SS i + rcnt RO i : Nat) : Int) = s.refs) := fun h => heq h.symm
        have hb3 := bad3 i s hs heq
        generalize ((cnt SS i + rcnt RO i : Nat) : Int) = CC at *
        generalize hTX : (ks (tb SL.length fun j => cnt SS j + rcnt RO j)) = TX at *
        have hTXl : TX.length = SL.length := by rw [← hTX]; exact hTl _
        refine W_regionD [[], [], [0, 1], [2, 0, 1], [], [4], [], [5, 4, 6], [7, 5, 4, 6], [8, 7, 5, 4, 6], [3, 2, 0, 1, 9, 8, 7, 5, 4, 6]] (by decide +kernel) (by decide +kernel) (by decide +kernel) fun K hK => ?_
        simp only [KA, KB, KP, KQ, KM, simprocAttr, KT w, KI, hw.KF, A58, A59, A5a, A5b, A5c, A5d, A5e, A5f, A5g, A5h, KX, Foot.big, A5i, opP, rfoot, refsO, refs, wfoot, A5j, A5k, noisyOk, pairOk, Foot.isQuiet, Foot.apart, Ft.apart, Foot.none, A5l, A5m, A48, A49, A5n, A5o, A5p, A5q, Nat.reduceBEq, htm, t1, t3, t8, hi0, hil, htg, hTXl, hrow, hr10, hr8, hsl, heq']
        refine hK _ _ ?_
        clear hK
        clear K
        repeat with_reducible (first | apply E0 | apply E1 | apply E2 | apply E3 | apply E4 | refine E5 (by decide) ?_ | apply E6 | apply E7 | apply E8 | apply E9 | apply Ea | apply Eb | apply Ec | apply Ed)
        refine W_condT (by simp only [KA, KP, KQ, simprocAttr, KT w, KI, hw.KF, htm]) ?_
        repeat with_reducible (first | apply E0 | apply E1 | apply E2 | apply E3 | apply E4 | refine E5 (by decide) ?_ | apply E6 | apply E7 | apply E8 | apply E9 | apply Ea | apply Eb | apply Ec | apply Ed)
        refine W_region fun K hK => ?_
        simp only [KA, KB, KP, KQ, KM, simprocAttr, KT w, KI, hw.KF, htm]
        refine hK _ _ ?_
        clear hK
        clear K
        repeat with_reducible (first | apply E0 | apply E1 | apply E2 | apply E3 | apply E4 | refine E5 (by decide) ?_ | apply E6 | apply E7 | apply E8 | apply E9 | apply Ea | apply Eb | apply Ec | apply Ed)
        refine AtEnd_of rfl ?_
        simp only [KA, KP, KQ, simprocAttr, KT w, KI, hw.KF, htm, RS_some, aresults_nil, aresults_tmp, aresults_cell, one]
        rw [no hb3]
        exact FZ_bool
    obtain ⟨o, ho⟩ : ∃ o, RO[r]? = some o := ⟨_, List.getElem?_eq_getElem (by omega)⟩
    have hro : (rs RO)[r]? = some [.int .i64 (optI o)] := by rw [rs_get, ho]; rfl
    have hr0 : ¬ (r : Int) < 0 := by omega
    have e1 : IntKind.i64.wrap ((r : Int) + 1) = (r : Int) + 1 := i64_in _ (by omega)
    have hsn := rcnt_take_snoc ho
    have htk : RO.take (r + 1) = RO.take r ++ [o] := by rw [List.take_add_one, ho]; rfl
    refine W_region fun K hK => ?_
    simp only [KA, KB, KP, KQ, KM, simprocAttr, KT w, KI, hw.KF, htm, t1, t7, hRR, hrT]
    refine hK _ _ ?_
    clear hK
    clear K
    repeat with_reducible (first | apply E0 | apply E1 | apply E2 | apply E3 | apply E4 | refine E5 (by decide) ?_ | apply E6 | apply E7 | apply E8 | apply E9 | apply Ea | apply Eb | apply Ec | apply Ed)
    refine W_condT (by simp only [KA, KP, KQ, simprocAttr, KT w, KI, hw.KF, htm]) ?_
    repeat with_reducible (first | apply E0 | apply E1 | apply E2 | apply E3 | apply E4 | refine E5 (by decide) ?_ | apply E6 | apply E7 | apply E8 | apply E9 | apply Ea | apply Eb | apply Ec | apply Ed)
    cases o with
    | none =>
      rw [show optI none = -1 from rfl] at hro
      have hm1 : ¬ ((-1 : Int) ≥ 0) := by omega
      refine W_region fun K hK => ?_
      simp only [KA, KB, KP, KQ, KM, simprocAttr, KT w, KI, hw.KF, htm, t1, t7, hRR, hrT, hro, hr0, hm1]
      refine hK _ _ ?_
      clear hK
      clear K
      repeat with_reducible (first | apply E0 | apply E1 | apply E2 | apply E3 | apply E4 | refine E5 (by decide) ?_ | apply E6 | apply E7 | apply E8 | apply E9 | apply Ea | apply Eb | apply Ec | apply Ed)
      refine W_condF (by simp only [KA, KP, KQ, simprocAttr, KT w, KI, hw.KF, htm]) ?_
      repeat with_reducible (first | apply E0 | apply E1 | apply E2 | apply E3 | apply E4 | refine E5 (by decide) ?_ | apply E6 | apply E7 | apply E8 | apply E9 | apply Ea | apply Eb | apply Ec | apply Ed)
      refine W_region fun K hK => ?_
      simp only [KA, KB, KP, KQ, KM, simprocAttr, KT w, KI, hw.KF, htm, t7, e1]
      refine hK _ _ ?_
      clear hK
      clear K
      refine ⟨RT.length - (r + 1), by omega, _, r + 1, rfl, ?_, rfl, by omega, fun q hq => ?_, ?_⟩
      · rw [tb_congr (f := fun j => cnt SS j + rcnt (RO.take r) j) (g := fun j => cnt SS j + rcnt (RO.take (r + 1)) j) fun j _ => by simp [hsn j]]
      · rw [htk] at hq
        rcases List.mem_append.1 hq with h | h
        · exact hbd q h
        · simp at h
      · simp only [KA, KP, KQ, simprocAttr, KT w, KI, hw.KF, htm, t1, t3, t4, Int.natCast_add, A3z]
    | some q =>
      rw [show optI (some q) = (q : Int) from rfl] at hro
      have hqm := List.mem_of_getElem? ho
      have hqS := hroot q hqm
      have hq0 : ¬ (q : Int) < 0 := by omega
      have hq1 : (q : Int) ≥ 0 := by omega
      have hql : (q : Int) < (SL.length : Int) := by omega
      have hzl := hszl q hqS
      have hcc := hcl q
      have hcr := hrc q
      have h1 := hsn q
      have h2 := rcnt_take_le RO (r + 1) q
      simp only [↓reduceIte] at h1
      have e2 : IntKind.i64.wrap (((cnt SS q + rcnt (RO.take r) q : Nat) : Int) + 1) = ((cnt SS q + rcnt (RO.take r) q : Nat) : Int) + 1 := i64_in _ (by omega)
      have htg := tb_get (fun j => cnt SS j + rcnt (RO.take r) j) hqS
      have hts := tb_set (N := SL.length) (q := q) (f := fun j => cnt SS j + rcnt (RO.take r) j) (g := fun j => cnt SS j + rcnt (RO.take (r + 1)) j) hqS (fun j _ => by simp only [hsn j, Option.some.injEq]; omega)
      try simp only at htg hts
      generalize hTX : (ks (tb SL.length fun j => cnt SS j + rcnt (RO.take r) j)) = TX at *
      have hTXl : TX.length = SL.length := by rw [← hTX]; exact hTl _
      refine W_region fun K hK => ?_
      simp only [KA, KB, KP, KQ, KM, simprocAttr, KT w, KI, hw.KF, htm, t1, t7, hRR, hrT, hro, hr0, hq1]
      refine hK _ _ ?_
      clear hK
      clear K
      repeat with_reducible (first | apply E0 | apply E1 | apply E2 | apply E3 | apply E4 | refine E5 (by decide) ?_ | apply E6 | apply E7 | apply E8 | apply E9 | apply Ea | apply Eb | apply Ec | apply Ed)
      refine W_condT (by simp only [KA, KP, KQ, simprocAttr, KT w, KI, hw.KF, htm]) ?_
      repeat with_reducible (first | apply E0 | apply E1 | apply E2 | apply E3 | apply E4 | refine E5 (by decide) ?_ | apply E6 | apply E7 | apply E8 | apply E9 | apply Ea | apply Eb | apply Ec | apply Ed)
      refine W_region fun K hK => ?_
      simp only [KA, KB, KP, KQ, KM, simprocAttr, KT w, KI, hw.KF, htm, t1, t3, t7, hRR, hrT, hro, hr0, hq0, hql, hTXl, htg, e2, hts, splice]
      refine hK _ _ ?_
      clear hK
      clear K
      repeat with_reducible (first | apply E0 | apply E1 | apply E2 | apply E3 | apply E4 | refine E5 (by decide) ?_ | apply E6 | apply E7 | apply E8 | apply E9 | apply Ea | apply Eb | apply Ec | apply Ed)
      by_cases hz5 : (ZF q : Int) > 5000
      · refine W_region fun K hK => ?_
        simp only [KA, KB, KP, KQ, KM, simprocAttr, KT w, KI, hw.KF, htm, t1, t4, t7, hRR, hrT, hro, hr0, hq0, hql, hszn, hzl, hz5]
        refine hK _ _ ?_
        clear hK
        clear K
        repeat with_reducible (first | apply E0 | apply E1 | apply E2 | apply E3 | apply E4 | refine E5 (by decide) ?_ | apply E6 | apply E7 | apply E8 | apply E9 | apply Ea | apply Eb | apply Ec | apply Ed)
        refine W_condT (by simp only [KA, KP, KQ, simprocAttr, KT w, KI, hw.KF, htm]) ?_
        repeat with_reducible (first | apply E0 | apply E1 | apply E2 | apply E3 | apply E4 | refine E5 (by decide) ?_ | apply E6 | apply E7 | apply E8 | apply E9 | apply Ea | apply Eb | apply Ec | apply Ed)
        refine W_region fun K hK => ?_
        simp only [KA, KB, KP, KQ, KM, simprocAttr, KT w, KI, hw.KF, htm]
        refine hK _ _ ?_
        clear hK
        clear K
        repeat with_reducible (first | apply E0 | apply E1 | apply E2 | apply E3 | apply E4 | refine E5 (by decide) ?_ | apply E6 | apply E7 | apply E8 | apply E9 | apply Ea | apply Eb | apply Ec | apply Ed)
        refine AtEnd_of rfl ?_
        simp only [KA, KP, KQ, simprocAttr, KT w, KI, hw.KF, htm, RS_some, aresults_nil, aresults_tmp, aresults_cell, one]
        rw [no (bad2 q hqm (by omega))]
        exact FZ_bool
      refine W_region fun K hK => ?_
      simp only [KA, KB, KP, KQ, KM, simprocAttr, KT w, KI, hw.KF, htm, t1, t4, t7, hRR, hrT, hro, hr0, hq0, hql, hszn, hzl, hz5]
      refine hK _ _ ?_
      clear hK
      clear K
      repeat with_reducible (first | apply E0 | apply E1 | apply E2 | apply E3 | apply E4 | refine E5 (by decide) ?_ | apply E6 | apply E7 | apply E8 | apply E9 | apply Ea | apply Eb | apply Ec | apply Ed)
      refine W_condF (by simp only [KA, KP, KQ, simprocAttr, KT w, KI, hw.KF, htm]) ?_
      repeat with_reducible (first | apply E0 | apply E1 | apply E2 | apply E3 | apply E4 | refine E5 (by decide) ?_ | apply E6 | apply E7 | apply E8 | apply E9 | apply Ea | apply Eb | apply Ec | apply Ed)
      refine W_region fun K hK => ?_
      simp only [KA, KB, KP, KQ, KM, simprocAttr, KT w, KI, hw.KF, htm, t7, e1]
      refine hK _ _ ?_
      clear hK
      clear K
      refine ⟨RT.length - (r + 1), by omega, _, r + 1, rfl, rfl, rfl, by omega, fun x hx => ?_, ?_⟩
      · rw [htk] at hx
        rcases List.mem_append.1 hx with h | h
        · exact hbd x h
        · simp at h; subst h; omega
      · simp only [KA, KP, KQ, simprocAttr, KT w, KI, hw.KF, htm, t1, t3, t4, Int.natCast_add, A3z]
  have hin : i < SL.length := by omega
  obtain ⟨s0, hs0⟩ := get_of_lt (l := SL) (i := i) hin
  have hrow : (SL.map RSl.row)[i]? = some s0.row := by rw [List.getElem?_map, hs0]; rfl
  obtain ⟨hs, hsk, hkl, hr8⟩ := hraw i s0 hs0
  have hr10 := s0.row_len
  have hr7 := s0.row7
  rw [hsk] at hr7
  generalize s0.row = SR at *
  generalize s0.sl = s at *
  have hi0 : ¬ (i : Int) < 0 := by omega
  have e1 : IntKind.i64.wrap ((i : Int) + 1) = (i : Int) + 1 := i64_in _ (by omega)
  have hzl := hszl i hin
  have hkn := ks_len s.kids
  have hsn := cnt_take_snoc hs
  refine W_region fun K hK => ?_
  simp only [KA, KB, KP, KQ, KM, simprocAttr, KT w, KI, hw.KF, htm, t1, t5, hsl, hil]
  refine hK _ _ ?_
  clear hK
  clear K
  repeat with_reducible (first | apply E0 | apply E1 | apply E2 | apply E3 | apply E4 | refine E5 (by decide) ?_ | apply E6 | apply E7 | apply E8 | apply E9 | apply Ea | apply Eb | apply Ec | apply Ed)
  refine W_condT (by simp only [KA, KP, KQ, simprocAttr, KT w, KI, hw.KF, htm]) ?_
  repeat with_reducible (first | apply E0 | apply E1 | apply E2 | apply E3 | apply E4 | refine E5 (by decide) ?_ | apply E6 | apply E7 | apply E8 | apply E9 | apply Ea | apply Eb | apply Ec | apply Ed)
  by_cases hpos : s.refs > 0
  · by_cases hzn : (ZF i : Int) = 0
    · rw [hzn] at hzl
      refine W_region fun K hK => ?_
      simp only [KA, KB, KP, KQ, KM, simprocAttr, KT w, KI, hw.KF, htm, t1, t4, t5, hsl, hil, hi0, hrow, hr10, hr8, hpos, hszn, hzl]
      refine hK _ _ ?_
      clear hK
      clear K
      repeat with_reducible (first | apply E0 | apply E1 | apply E2 | apply E3 | apply E4 | refine E5 (by decide) ?_ | apply E6 | apply E7 | apply E8 | apply E9 | apply Ea | apply Eb | apply Ec | apply Ed)
      refine W_condT (by simp only [KA, KP, KQ, simprocAttr, KT w, KI, hw.KF, htm]) ?_
      repeat with_reducible (first | apply E0 | apply E1 | apply E2 | apply E3 | apply E4 | refine E5 (by decide) ?_ | apply E6 | apply E7 | apply E8 | apply E9 | apply Ea | apply Eb | apply Ec | apply Ed)
      refine W_region fun K hK => ?_
      simp only [KA, KB, KP, KQ, KM, simprocAttr, KT w, KI, hw.KF, htm]
      refine hK _ _ ?_
      clear hK
      clear K
      repeat with_reducible (first | apply E0 | apply E1 | apply E2 | apply E3 | apply E4 | refine E5 (by decide) ?_ | apply E6 | apply E7 | apply E8 | apply E9 | apply Ea | apply Eb | apply Ec | apply Ed)
      refine AtEnd_of rfl ?_
      simp only [KA, KP, KQ, simprocAttr, KT w, KI, hw.KF, htm, RS_some, aresults_nil, aresults_tmp, aresults_cell, one]
      rw [no (bad1 i s hs hpos (by omega))]
      exact FZ_bool
    refine W_region fun K hK => ?_
    simp only [KA, KB, KP, KQ, KM, simprocAttr, KT w, KI, hw.KF, htm, t1, t4, t5, hsl, hil, hi0, hrow, hr10, hr8, hpos, hszn, hzl, hzn]
    refine hK _ _ ?_
    clear hK
    clear K
    repeat with_reducible (first | apply E0 | apply E1 | apply E2 | apply E3 | apply E4 | refine E5 (by decide) ?_ | apply E6 | apply E7 | apply E8 | apply E9 | apply Ea | apply Eb | apply Ec | apply Ed)
    refine W_condF (by simp only [KA, KP, KQ, simprocAttr, KT w, KI, hw.KF, htm]) ?_
    repeat with_reducible (first | apply E0 | apply E1 | apply E2 | apply E3 | apply E4 | refine E5 (by decide) ?_ | apply E6 | apply E7 | apply E8 | apply E9 | apply Ea | apply Eb | apply Ec | apply Ed)
    refine W_region fun K hK => ?_
    simp only [KA, KB, KP, KQ, KM, simprocAttr, KT w, KI, hw.KF, htm]
    refine hK _ _ ?_
    clear hK
    clear K
    repeat with_reducible (first | apply E0 | apply E1 | apply E2 | apply E3 | apply E4 | refine E5 (by decide) ?_ | apply E6 | apply E7 | apply E8 | apply E9 | apply Ea | apply Eb | apply Ec | apply Ed)
    refine W_loop (fun k0 fr T => ∃ (tm : List AV) (k : Nat), fr = ⟨tm, [], none, 9⟩ ∧ T = (St.nil.push (.row [.vec (SL.map RSl.row), .int .i64 FF, .vec (rs RO)] false)).push (.seq 0 1 (ks (tb SL.length fun j => cnt (SS.take i) j + (s.kids.take k).count j)) 0) ∧ k0 = s.kids.length - k ∧ k ≤ s.kids.length ∧
        tm.length = 118 ∧ tget tm 1 = .ptr 0 0 ∧ tget tm 3 = .sref 1 0 0 SL.length ∧ tget tm 4 = .vec ZL ∧ tget tm 5 = .int .i64 (i : Nat) ∧ tget tm 6 = .int .i64 (k : Nat)) s.kids.length
      ⟨_, 0, rfl, by simp, rfl, Nat.zero_le _, ?_⟩ ?_
    · simp only [KA, KP, KQ, simprocAttr, KT w, KI, hw.KF, htm, t1, t3, t4, t5, Int.ofNat_zero]
    clear htm t1 t3 t4 t5 tm
    rintro k0 fr T ⟨tm, k, rfl, rfl, rfl, hk, htm, t1, t3, t4, t5, t6⟩
    repeat with_reducible (first | apply E0 | apply E1 | apply E2 | apply E3 | apply E4 | refine E5 (by decide) ?_ | apply E6 | apply E7 | apply E8 | apply E9 | apply Ea | apply Eb | apply Ec | apply Ed)
    by_cases hkk : (k : Int) < (s.kids.length : Int)
    case neg =>
      have hke : k = s.kids.length := by omega
      refine W_region fun K hK => ?_
      simp only [KA, KB, KP, KQ, KM, simprocAttr, KT w, KI, hw.KF, htm, t1, t5, t6, hsl, hil, hi0, hrow, hr10, hr7, hkn, hkk]
      refine hK _ _ ?_
      clear hK
      clear K
      repeat with_reducible (first | apply E0 | apply E1 | apply E2 | apply E3 | apply E4 | refine E5 (by decide) ?_ | apply E6 | apply E7 | apply E8 | apply E9 | apply Ea | apply Eb | apply Ec | apply Ed)
      refine W_condF (by simp only [KA, KP, KQ, simprocAttr, KT w, KI, hw.KF, htm]) ?_
      repeat with_reducible (first | apply E0 | apply E1 | apply E2 | apply E3 | apply E4 | refine E5 (by decide) ?_ | apply E6 | apply E7 | apply E8 | apply E9 | apply Ea | apply Eb | apply Ec | apply Ed)
      refine W_region fun K hK => ?_
      simp only [KA, KB, KP, KQ, KM, simprocAttr, KT w, KI, hw.KF, htm, t5, e1]
      refine hK _ _ ?_
      clear hK
      clear K
      refine ⟨SL.length - (i + 1), by omega, _, i + 1, rfl, ?_, rfl, by omega, fun j s' hj hs' => ?_, ?_⟩
      · rw [tb_congr (f := fun j => cnt (SS.take i) j + (s.kids.take k).count j) (g := fun j => cnt (SS.take (i + 1)) j) fun j _ => by simp only [hsn j, hke, List.take_length]]
      · by_cases e : j < i
        · exact hzd j s' e hs'
        · have : j = i := by omega
          subst this; rw [hs] at hs'; cases hs'; exact fun _ => by omega
      · simp only [KA, KP, KQ, simprocAttr, KT w, KI, hw.KF, htm, t1, t3, t4, Int.natCast_add, A3z]
    obtain ⟨q, hq⟩ : ∃ q, s.kids[k]? = some q := ⟨_, List.getElem?_eq_getElem (by omega)⟩
    obtain ⟨s', hs', hs'0⟩ := hkid i s q hs (List.mem_of_getElem? hq)
    have hqS : q < SL.length := by have := (List.getElem?_eq_some_iff.1 hs').1; omega
    have hq0 : ¬ (q : Int) < 0 := by omega
    have hql : (q : Int) < (SL.length : Int) := by omega
    have hkq : (ks s.kids)[k]? = some [.int .i64 (q : Int)] := by rw [ks_get, hq]; rfl
    have hk0 : ¬ (k : Int) < 0 := by omega
    have hcc := hcl q
    have htk : s.kids.take (k + 1) = s.kids.take k ++ [q] := by rw [List.take_add_one, hq]; rfl
    have hct : ∀ j, (s.kids.take (k + 1)).count j = (s.kids.take k).count j + (if q = j then 1 else 0) := fun j => by
      rw [htk, List.count_append, List.count_cons, List.count_nil]; simp only [beq_iff_eq, Nat.zero_add]
    have h1 := hct q
    have h2 : (s.kids.take (k + 1)).count q ≤ s.kids.count q := List.Sublist.count_le _ (List.take_sublist _ _)
    have h3 := hsn q
    have h4 := cnt_take_le SS (i + 1) q
    simp only [↓reduceIte] at h1
    have e2 : IntKind.i64.wrap (((cnt (SS.take i) q + (s.kids.take k).count q : Nat) : Int) + 1) = ((cnt (SS.take i) q + (s.kids.take k).count q : Nat) : Int) + 1 := i64_in _ (by omega)
    have e3 : IntKind.i64.wrap ((k : Int) + 1) = (k : Int) + 1 := i64_in _ (by omega)
    have htg := tb_get (fun j => cnt (SS.take i) j + (s.kids.take k).count j) hqS
    have hts := tb_set (N := SL.length) (q := q) (f := fun j => cnt (SS.take i) j + (s.kids.take k).count j) (g := fun j => cnt (SS.take i) j + (s.kids.take (k + 1)).count j) hqS (fun j _ => by simp only [hct j]; omega)
    try simp only at htg hts
    generalize hTX : (ks (tb SL.length fun j => cnt (SS.take i) j + (s.kids.take k).count j)) = TX at *
    have hTXl : TX.length = SL.length := by rw [← hTX]; exact hTl _
    refine W_region fun K hK => ?_
    simp only [KA, KB, KP, KQ, KM, simprocAttr, KT w, KI, hw.KF, htm, t1, t5, t6, hsl, hil, hi0, hrow, hr10, hr7, hkn, hkk]
    refine hK _ _ ?_
    clear hK
    clear K
    repeat with_reducible (first | apply E0 | apply E1 | apply E2 | apply E3 | apply E4 | refine E5 (by decide) ?_ | apply E6 | apply E7 | apply E8 | apply E9 | apply Ea | apply Eb | apply Ec | apply Ed)
    refine W_condT (by simp only [KA, KP, KQ, simprocAttr, KT w, KI, hw.KF, htm]) ?_
    repeat with_reducible (first | apply E0 | apply E1 | apply E2 | apply E3 | apply E4 | refine E5 (by decide) ?_ | apply E6 | apply E7 | apply E8 | apply E9 | apply Ea | apply Eb | apply Ec | apply Ed)
    refine W_region fun K hK => ?_
    simp only [KA, KB, KP, KQ, KM, simprocAttr, KT w, KI, hw.KF, htm, t1, t3, t5, t6, hsl, hil, hi0, hrow, hr10, hr7, hkn, hkk, hk0, hkq, hq0, hql, hTXl, htg, e2, hts, splice]
    refine hK _ _ ?_
    clear hK
    clear K
    repeat with_reducible (first | apply E0 | apply E1 | apply E2 | apply E3 | apply E4 | refine E5 (by decide) ?_ | apply E6 | apply E7 | apply E8 | apply E9 | apply Ea | apply Eb | apply Ec | apply Ed)
    refine W_region fun K hK => ?_
    simp only [KA, KB, KP, KQ, KM, simprocAttr, KT w, KI, hw.KF, htm, t6, e3]
    refine hK _ _ ?_
    clear hK
    clear K
    refine ⟨s.kids.length - (k + 1), by omega, _, k + 1, rfl, rfl, rfl, by omega, ?_⟩
    simp only [KA, KP, KQ, simprocAttr, KT w, KI, hw.KF, htm, t1, t3, t4, t5, Int.natCast_add, A3z]
  · refine W_region fun K hK => ?_
    simp only [KA, KB, KP, KQ, KM, simprocAttr, KT w, KI, hw.KF, htm, t1, t4, t5, hsl, hil, hi0, hrow, hr10, hr8, hpos]
    refine hK _ _ ?_
    clear hK
    clear K
    repeat with_reducible (first | apply E0 | apply E1 | apply E2 | apply E3 | apply E4 | refine E5 (by decide) ?_ | apply E6 | apply E7 | apply E8 | apply E9 | apply Ea | apply Eb | apply Ec | apply Ed)
    refine W_condF (by simp only [KA, KP, KQ, simprocAttr, KT w, KI, hw.KF, htm]) ?_
    repeat with_reducible (first | apply E0 | apply E1 | apply E2 | apply E3 | apply E4 | refine E5 (by decide) ?_ | apply E6 | apply E7 | apply E8 | apply E9 | apply Ea | apply Eb | apply Ec | apply Ed)
    refine W_region fun K hK => ?_
    simp only [KA, KB, KP, KQ, KM, simprocAttr, KT w, KI, hw.KF, htm]
    refine hK _ _ ?_
    clear hK
    clear K
    repeat with_reducible (first | apply E0 | apply E1 | apply E2 | apply E3 | apply E4 | refine E5 (by decide) ?_ | apply E6 | apply E7 | apply E8 | apply E9 | apply Ea | apply Eb | apply Ec | apply Ed)
    refine W_loop (fun k0 fr T => ∃ (tm : List AV) (k : Nat), fr = ⟨tm, [], none, 9⟩ ∧ T = (St.nil.push (.row [.vec (SL.map RSl.row), .int .i64 FF, .vec (rs RO)] false)).push (.seq 0 1 (ks (tb SL.length fun j => cnt (SS.take i) j + (s.kids.take k).count j)) 0) ∧ k0 = s.kids.length - k ∧ k ≤ s.kids.length ∧
        tm.length = 118 ∧ tget tm 1 = .ptr 0 0 ∧ tget tm 3 = .sref 1 0 0 SL.length ∧ tget tm 4 = .vec ZL ∧ tget tm 5 = .int .i64 (i : Nat) ∧ tget tm 6 = .int .i64 (k : Nat)) s.kids.length
      ⟨_, 0, rfl, by simp, rfl, Nat.zero_le _, ?_⟩ ?_
    · simp only [KA, KP, KQ, simprocAttr, KT w, KI, hw.KF, htm, t1, t3, t4, t5, Int.ofNat_zero]
    clear htm t1 t3 t4 t5 tm
    rintro k0 fr T ⟨tm, k, rfl, rfl, rfl, hk, htm, t1, t3, t4, t5, t6⟩
    repeat with_reducible (first | apply E0 | apply E1 | apply E2 | apply E3 | apply E4 | refine E5 (by decide) ?_ | apply E6 | apply E7 | apply E8 | apply E9 | apply Ea | apply Eb | apply Ec | apply Ed)
    by_cases hkk : (k : Int) < (s.kids.length : Int)
    case neg =>
      have hke : k = s.kids.length := by omega
      refine W_region fun K hK => ?_
      simp only [KA, KB, KP, KQ, KM, simprocAttr, KT w, KI, hw.KF, htm, t1, t5, t6, hsl, hil, hi0, hrow, hr10, hr7, hkn, hkk]
      refine hK _ _ ?_
      clear hK
      clear K
      repeat with_reducible (first | apply E0 | apply E1 | apply E2 | apply E3 | apply E4 | refine E5 (by decide) ?_ | apply E6 | apply E7 | apply E8 | apply E9 | apply Ea | apply Eb | apply Ec | apply Ed)
      refine W_condF (by simp only [KA, KP, KQ, simprocAttr, KT w, KI, hw.KF, htm]) ?_
      repeat with_reducible (first | apply E0 | apply E1 | apply E2 | apply E3 | apply E4 | refine E5 (by decide) ?_ | apply E6 | apply E7 | apply E8 | apply E9 | apply Ea | apply Eb | apply Ec | apply Ed)
      refine W_region fun K hK => ?_
      simp only [KA, KB, KP, KQ, KM, simprocAttr, KT w, KI, hw.KF, htm, t5, e1]
      refine hK _ _ ?_
      clear hK
      clear K
      refine ⟨SL.length - (i + 1), by omega, _, i + 1, rfl, ?_, rfl, by omega, fun j s' hj hs' => ?_, ?_⟩
      · rw [tb_congr (f := fun j => cnt (SS.take i) j + (s.kids.take k).count j) (g := fun j => cnt (SS.take (i + 1)) j) fun j _ => by simp only [hsn j, hke, List.take_length]]
      · by_cases e : j < i
        · exact hzd j s' e hs'
        · have : j = i := by omega
          subst this; rw [hs] at hs'; cases hs'; exact fun h => absurd h hpos
      · simp only [KA, KP, KQ, simprocAttr, KT w, KI, hw.KF, htm, t1, t3, t4, Int.natCast_add, A3z]
    obtain ⟨q, hq⟩ : ∃ q, s.kids[k]? = some q := ⟨_, List.getElem?_eq_getElem (by omega)⟩
    obtain ⟨s', hs', hs'0⟩ := hkid i s q hs (List.mem_of_getElem? hq)
    have hqS : q < SL.length := by have := (List.getElem?_eq_some_iff.1 hs').1; omega
    have hq0 : ¬ (q : Int) < 0 := by omega
    have hql : (q : Int) < (SL.length : Int) := by omega
    have hkq : (ks s.kids)[k]? = some [.int .i64 (q : Int)] := by rw [ks_get, hq]; rfl
    have hk0 : ¬ (k : Int) < 0 := by omega
    have hcc := hcl q
    have htk : s.kids.take (k + 1) = s.kids.take k ++ [q] := by rw [List.take_add_one, hq]; rfl
    have hct : ∀ j, (s.kids.take (k + 1)).count j = (s.kids.take k).count j + (if q = j then 1 else 0) := fun j => by
      rw [htk, List.count_append, List.count_cons, List.count_nil]; simp only [beq_iff_eq, Nat.zero_add]
    have h1 := hct q
    have h2 : (s.kids.take (k + 1)).count q ≤ s.kids.count q := List.Sublist.count_le _ (List.take_sublist _ _)
    have h3 := hsn q
    have h4 := cnt_take_le SS (i + 1) q
    simp only [↓reduceIte] at h1
    have e2 : IntKind.i64.wrap (((cnt (SS.take i) q + (s.kids.take k).count q : Nat) : Int) + 1) = ((cnt (SS.take i) q + (s.kids.take k).count q : Nat) : Int) + 1 := i64_in _ (by omega)
    have e3 : IntKind.i64.wrap ((k : Int) + 1) = (k : Int) + 1 := i64_in _ (by omega)
    have htg := tb_get (fun j => cnt (SS.take i) j + (s.kids.take k).count j) hqS
    have hts := tb_set (N := SL.length) (q := q) (f := fun j => cnt (SS.take i) j + (s.kids.take k).count j) (g := fun j => cnt (SS.take i) j + (s.kids.take (k + 1)).count j) hqS (fun j _ => by simp only [hct j]; omega)
    try simp only at htg hts
    generalize hTX : (ks (tb SL.length fun j => cnt (SS.take i) j + (s.kids.take k).count j)) = TX at *
    have hTXl : TX.length = SL.length := by rw [← hTX]; exact hTl _
    refine W_region fun K hK => ?_
    simp only [KA, KB, KP, KQ, KM, simprocAttr, KT w, KI, hw.KF, htm, t1, t5, t6, hsl, hil, hi0, hrow, hr10, hr7, hkn, hkk]
    refine hK _ _ ?_
    clear hK
    clear K
    repeat with_reducible (first | apply E0 | apply E1 | apply E2 | apply E3 | apply E4 | refine E5 (by decide) ?_ | apply E6 | apply E7 | apply E8 | apply E9 | apply Ea | apply Eb | apply Ec | apply Ed)
    refine W_condT (by simp only [KA, KP, KQ, simprocAttr, KT w, KI, hw.KF, htm]) ?_
    repeat with_reducible (first | apply E0 | apply E1 | apply E2 | apply E3 | apply E4 | refine E5 (by decide) ?_ | apply E6 | apply E7 | apply E8 | apply E9 | apply Ea | apply Eb | apply Ec | apply Ed)
    refine W_region fun K hK => ?_
    simp only [KA, KB, KP, KQ, KM, simprocAttr, KT w, KI, hw.KF, htm, t1, t3, t5, t6, hsl, hil, hi0, hrow, hr10, hr7, hkn, hkk, hk0, hkq, hq0, hql, hTXl, htg, e2, hts, splice]
    refine hK _ _ ?_
    clear hK
    clear K
    repeat with_reducible (first | apply E0 | apply E1 | apply E2 | apply E3 | apply E4 | refine E5 (by decide) ?_ | apply E6 | apply E7 | apply E8 | apply E9 | apply Ea | apply Eb | apply Ec | apply Ed)
    refine W_region fun K hK => ?_
    simp only [KA, KB, KP, KQ, KM, simprocAttr, KT w, KI, hw.KF, htm, t6, e3]
    refine hK _ _ ?_
    clear hK
    clear K
    refine ⟨s.kids.length - (k + 1), by omega, _, k + 1, rfl, rfl, rfl, by omega, ?_⟩
    simp only [KA, KP, KQ, simprocAttr, KT w, KI, hw.KF, htm, t1, t3, t4, t5, Int.natCast_add, A3z]
end Go.Am.R
