/- THE REFERENCE'S plain ON ANY ARENA. -/
import Derived.Test.YtbmfnoaogebjfaaDoorV2
set_option linter.unusedSimpArgs false
set_option linter.unusedVariables false
set_option maxRecDepth 20000
namespace Go.Am.R
open Go.Proofs Go.IntWalk Classical

variable {w : Ways}

/-- A slot such as may be, by itself. -/
structure SlotP (s : RSl) : Prop where
  refs : 0 ≤ s.refs
  leaf : s.node.kids = []
  zero : s.refs = 0 → s.kids = [] ∧ s.node = fs0.nd
  next : s.refs > 0 → s.next = -1
def KidP (S : List RSl) (q : Int) : Prop := 0 ≤ q ∧ ∃ s', S[q.toNat]? = some s' ∧ s'.refs ≠ 0
def ApartP (S : List RSl) (i : Nat) (s : RSl) : Prop := ∀ (j : Nat) (s' : RSl), j < i → S[j]? = some s' → s.refs > 0 → s'.refs > 0 → ¬ (s.node = s'.node ∧ s.kids = s'.kids)
def RootP (S : List RSl) (r : Int) : Prop := r = -1 ∨ KidP S r
structure PlainP (A : RAr) : Prop where
  sl : A.slots.length ≤ 4096
  rl : A.roots.length ≤ 4096
  slot : ∀ (i : Nat) (s : RSl), A.slots[i]? = some s → SlotP s ∧ (∀ q ∈ s.kids, KidP A.slots q) ∧ ApartP A.slots i s
  root : ∀ r ∈ A.roots, RootP A.slots r
theorem bfalse {b : Bool} {P : Prop} (h : b = true ↔ P) (hn : ¬ P) : b = false := by
  cases b with
  | false => rfl
  | true => exact absurd (h.1 rfl) hn
theorem ints_get' {l : List Int} {i : Nat} {x : Int} (h : l[i]? = some x) : (ints l)[i]? = some [.int .i64 x] := by simp [ints, h]

set_option maxHeartbeats 2000000 in
theorem plain29 (hw : Std w) (A : RAr) (hA : A.ok) : PC (cfg w) 29 [A.av] (.bool (decide (PlainP A))) := by
  refine PC_of (args' := [A.av]) hw.e29 hw.m29 (by simp [nrmA, A.nrm]) ?_
  obtain ⟨hl, hs, hr⟩ := hA
  have no : ¬ PlainP A → decide (PlainP A) = false := fun h => decide_eq_false h
  have yes : PlainP A → decide (PlainP A) = true := fun h => decide_eq_true h
  have bad1 : ¬ (A.slots.length ≤ 4096) → ¬ PlainP A := fun h k => h k.sl
  have bad2 : ¬ (A.roots.length ≤ 4096) → ¬ PlainP A := fun h k => h k.rl
  have bad3 : ∀ (i : Nat) (s : RSl), A.slots[i]? = some s → ¬ SlotP s → ¬ PlainP A := fun i s h1 h2 k => h2 (k.slot i s h1).1
  have bad4 : ∀ (i : Nat) (s : RSl) (q : Int), A.slots[i]? = some s → q ∈ s.kids → ¬ KidP A.slots q → ¬ PlainP A := fun i s q h1 h2 h3 k => h3 ((k.slot i s h1).2.1 q h2)
  have bad5 : ∀ (i j : Nat) (s s' : RSl), A.slots[i]? = some s → A.slots[j]? = some s' → j < i → s.refs > 0 → s'.refs > 0 → s.node = s'.node ∧ s.kids = s'.kids → ¬ PlainP A := fun i j s s' h1 h2 h3 h4 h5 h6 k => (k.slot i s h1).2.2 j s' h3 h2 h4 h5 h6
  have bad6 : ∀ r, r ∈ A.roots → ¬ RootP A.slots r → ¬ PlainP A := fun r h1 h2 k => h2 (k.root r h1)
  have good : A.slots.length ≤ 4096 → A.roots.length ≤ 4096 → (∀ (i : Nat) (s : RSl), A.slots[i]? = some s → SlotP s ∧ (∀ q ∈ s.kids, KidP A.slots q) ∧ ApartP A.slots i s) → (∀ r ∈ A.roots, RootP A.slots r) → PlainP A := fun a b c d => ⟨a, b, c, d⟩
  generalize PlainP A = PP at *
  obtain ⟨SL, FF, RT⟩ := A
  simp only at hl hs hr bad1 bad2 bad3 bad4 bad5 bad6 good ⊢
  have hlen : (SL.map RSl.row).length = SL.length := List.length_map _
  have hrl := ints_len RT
  unfold RAr.av RAr.cells
  simp only
  have kp : ∀ q : Int, KidP SL q → 0 ≤ q ∧ q < SL.length := fun q h => ⟨h.1, by obtain ⟨s', h1, _⟩ := h.2; have := (List.getElem?_eq_some_iff.1 h1).1; have := h.1; omega⟩
  refine call_of_W (fn29 w) rfl ?_
  simp only [Tryd.f29, List.length_cons, List.length_nil, Nat.reduceAdd, Nat.reduceSub, List.cons_append, List.nil_append]
  repeat with_reducible (first | apply E0 | apply E1 | apply E2 | apply E3 | apply E4 | refine E5 (by decide) ?_ | apply E6 | apply E7 | apply E8 | apply E9 | apply Ea | apply Eb | apply Ec | apply Ed)
  refine W_region fun K hK => ?_
  simp only [KA, KB, KP, KQ, KM, simprocAttr, KT w, KI, hw.KF]
  refine hK _ _ ?_
  clear hK
  clear K
  repeat with_reducible (first | apply E0 | apply E1 | apply E2 | apply E3 | apply E4 | refine E5 (by decide) ?_ | apply E6 | apply E7 | apply E8 | apply E9 | apply Ea | apply Eb | apply Ec | apply Ed)
  refine W_region fun K hK => ?_
  simp only [KA, KB, KP, KQ, KM, simprocAttr, KT w, KI, hw.KF, hlen]
  refine hK _ _ ?_
  clear hK
  clear K
  repeat with_reducible (first | apply E0 | apply E1 | apply E2 | apply E3 | apply E4 | refine E5 (by decide) ?_ | apply E6 | apply E7 | apply E8 | apply E9 | apply Ea | apply Eb | apply Ec | apply Ed)
  by_cases h4 : SL.length ≤ 4096
  case neg =>
    have h4' : (SL.length : Int) > 4096 := by omega
    refine W_region fun K hK => ?_
    simp only [KA, KB, KP, KQ, KM, simprocAttr, KT w, KI, hw.KF, hlen, h4']
    refine hK _ _ ?_
    clear hK
    clear K
    repeat with_reducible (first | apply E0 | apply E1 | apply E2 | apply E3 | apply E4 | refine E5 (by decide) ?_ | apply E6 | apply E7 | apply E8 | apply E9 | apply Ea | apply Eb | apply Ec | apply Ed)
    refine W_condT (by simp only [KA, KP, KQ, simprocAttr, KT w, KI, hw.KF]) ?_
    repeat with_reducible (first | apply E0 | apply E1 | apply E2 | apply E3 | apply E4 | refine E5 (by decide) ?_ | apply E6 | apply E7 | apply E8 | apply E9 | apply Ea | apply Eb | apply Ec | apply Ed)
    refine W_region fun K hK => ?_
    simp only [KA, KB, KP, KQ, KM, simprocAttr, KT w, KI, hw.KF]
    refine hK _ _ ?_
    clear hK
    clear K
    repeat with_reducible (first | apply E0 | apply E1 | apply E2 | apply E3 | apply E4 | refine E5 (by decide) ?_ | apply E6 | apply E7 | apply E8 | apply E9 | apply Ea | apply Eb | apply Ec | apply Ed)
    refine AtEnd_of rfl ?_
    simp only [KA, KP, KQ, simprocAttr, KT w, KI, hw.KF, RS_some, aresults_nil, aresults_tmp, aresults_cell, one]
    rw [no (bad1 h4)]
    exact FZ_bool
  have h4' : ¬ (SL.length : Int) > 4096 := by omega
  by_cases h5 : RT.length ≤ 4096
  case neg =>
    have h5' : (RT.length : Int) > 4096 := by omega
    refine W_region fun K hK => ?_
    simp only [KA, KB, KP, KQ, KM, simprocAttr, KT w, KI, hw.KF, hlen, hrl, h4', h5']
    refine hK _ _ ?_
    clear hK
    clear K
    repeat with_reducible (first | apply E0 | apply E1 | apply E2 | apply E3 | apply E4 | refine E5 (by decide) ?_ | apply E6 | apply E7 | apply E8 | apply E9 | apply Ea | apply Eb | apply Ec | apply Ed)
    refine W_condT (by simp only [KA, KP, KQ, simprocAttr, KT w, KI, hw.KF]) ?_
    repeat with_reducible (first | apply E0 | apply E1 | apply E2 | apply E3 | apply E4 | refine E5 (by decide) ?_ | apply E6 | apply E7 | apply E8 | apply E9 | apply Ea | apply Eb | apply Ec | apply Ed)
    refine W_region fun K hK => ?_
    simp only [KA, KB, KP, KQ, KM, simprocAttr, KT w, KI, hw.KF]
    refine hK _ _ ?_
    clear hK
    clear K
    repeat with_reducible (first | apply E0 | apply E1 | apply E2 | apply E3 | apply E4 | refine E5 (by decide) ?_ | apply E6 | apply E7 | apply E8 | apply E9 | apply Ea | apply Eb | apply Ec | apply Ed)
    refine AtEnd_of rfl ?_
    simp only [KA, KP, KQ, simprocAttr, KT w, KI, hw.KF, RS_some, aresults_nil, aresults_tmp, aresults_cell, one]
    rw [no (bad2 h5)]
    exact FZ_bool
  have h5' : ¬ (RT.length : Int) > 4096 := by omega
  refine W_region fun K hK => ?_
  simp only [KA, KB, KP, KQ, KM, simprocAttr, KT w, KI, hw.KF, hlen, hrl, h4', h5']
  refine hK _ _ ?_
  clear hK
  clear K
  repeat with_reducible (first | apply E0 | apply E1 | apply E2 | apply E3 | apply E4 | refine E5 (by decide) ?_ | apply E6 | apply E7 | apply E8 | apply E9 | apply Ea | apply Eb | apply Ec | apply Ed)
  refine W_condF (by simp only [KA, KP, KQ, simprocAttr, KT w, KI, hw.KF]) ?_
  repeat with_reducible (first | apply E0 | apply E1 | apply E2 | apply E3 | apply E4 | refine E5 (by decide) ?_ | apply E6 | apply E7 | apply E8 | apply E9 | apply Ea | apply Eb | apply Ec | apply Ed)
  refine W_region fun K hK => ?_
  simp only [KA, KB, KP, KQ, KM, simprocAttr, KT w, KI, hw.KF]
  refine hK _ _ ?_
  clear hK
  clear K
  repeat with_reducible (first | apply E0 | apply E1 | apply E2 | apply E3 | apply E4 | refine E5 (by decide) ?_ | apply E6 | apply E7 | apply E8 | apply E9 | apply Ea | apply Eb | apply Ec | apply Ed)
  refine W_loop (fun k0 fr T => ∃ (tm : List AV) (i : Nat), fr = ⟨tm, [], none, 29⟩ ∧ T.ok ∧ T.base = 0 ∧ 1 ≤ T.n ∧ T.get 0 = some (.row [.vec (SL.map RSl.row), .int .i64 FF, .vec (ints RT)] false) ∧ k0 = SL.length - i ∧ i ≤ SL.length ∧
      (∀ (j : Nat) (s : RSl), j < i → SL[j]? = some s → SlotP s ∧ (∀ q ∈ s.kids, KidP SL q) ∧ ApartP SL j s) ∧
      tm.length = 172 ∧ tget tm 1 = .ptr 0 0 ∧ tget tm 3 = .int .i64 (SL.length : Nat) ∧ tget tm 4 = .int .i64 (i : Nat)) SL.length
    ⟨_, 0, rfl, St.ok_push St.ok_nil, rfl, by simp [St.pushN], rfl, rfl, Nat.zero_le _, fun j s hj => by omega, ?_⟩ ?_
  · simp only [KA, KP, KQ, simprocAttr, KT w, KI, hw.KF, Int.ofNat_zero]
  rintro k0 fr T ⟨tm, i, rfl, hok, hb, hn, g0, rfl, hi, hdone, htm, t1, t3, t4⟩
  repeat with_reducible (first | apply E0 | apply E1 | apply E2 | apply E3 | apply E4 | refine E5 (by decide) ?_ | apply E6 | apply E7 | apply E8 | apply E9 | apply Ea | apply Eb | apply Ec | apply Ed)
  by_cases hil : (i : Int) < (SL.length : Int)
  case neg =>
    have hie : i = SL.length := by omega
    refine W_region fun K hK => ?_
    simp only [KA, KB, KP, KQ, KM, simprocAttr, KT w, KI, hw.KF, htm, t3, t4, hil]
    refine hK _ _ ?_
    clear hK
    clear K
    repeat with_reducible (first | apply E0 | apply E1 | apply E2 | apply E3 | apply E4 | refine E5 (by decide) ?_ | apply E6 | apply E7 | apply E8 | apply E9 | apply Ea | apply Eb | apply Ec | apply Ed)
    refine W_condF (by simp only [KA, KP, KQ, simprocAttr, KT w, KI, hw.KF, htm]) ?_
    repeat with_reducible (first | apply E0 | apply E1 | apply E2 | apply E3 | apply E4 | refine E5 (by decide) ?_ | apply E6 | apply E7 | apply E8 | apply E9 | apply Ea | apply Eb | apply Ec | apply Ed)
    refine W_region fun K hK => ?_
    simp only [KA, KB, KP, KQ, KM, simprocAttr, KT w, KI, hw.KF, htm]
    refine hK _ _ ?_
    clear hK
    clear K
    repeat with_reducible (first | apply E0 | apply E1 | apply E2 | apply E3 | apply E4 | refine E5 (by decide) ?_ | apply E6 | apply E7 | apply E8 | apply E9 | apply Ea | apply Eb | apply Ec | apply Ed)
    refine W_loop (fun k0 fr T' => ∃ (tm : List AV) (j : Nat), fr = ⟨tm, [], none, 29⟩ ∧ T' = T ∧ k0 = RT.length - j ∧ j ≤ RT.length ∧ (∀ r ∈ RT.take j, RootP SL r) ∧ tm.length = 172 ∧ tget tm 1 = .ptr 0 0 ∧ tget tm 3 = .int .i64 (SL.length : Nat) ∧ tget tm 8 = .int .i64 (j : Nat)) RT.length
      ⟨_, 0, rfl, rfl, rfl, Nat.zero_le _, by simp, ?_⟩ ?_
    · simp only [KA, KP, KQ, simprocAttr, KT w, KI, hw.KF, htm, t1, t3, Int.ofNat_zero]
    clear htm t1 t3 t4 tm
    rintro k0 fr T' ⟨tm, j, rfl, rfl, rfl, hj, hrd, htm, t1, t3, t8⟩
    repeat with_reducible (first | apply E0 | apply E1 | apply E2 | apply E3 | apply E4 | refine E5 (by decide) ?_ | apply E6 | apply E7 | apply E8 | apply E9 | apply Ea | apply Eb | apply Ec | apply Ed)
    by_cases hjl : (j : Int) < (RT.length : Int)
    case neg =>
      have hje : j = RT.length := by omega
      rw [hje, List.take_length] at hrd
      refine W_region fun K hK => ?_
      simp only [KA, KB, KP, KQ, KM, simprocAttr, KT w, KI, hw.KF, htm, t1, t8, g0, hrl, hjl]
      refine hK _ _ ?_
      clear hK
      clear K
      repeat with_reducible (first | apply E0 | apply E1 | apply E2 | apply E3 | apply E4 | refine E5 (by decide) ?_ | apply E6 | apply E7 | apply E8 | apply E9 | apply Ea | apply Eb | apply Ec | apply Ed)
      refine W_condF (by simp only [KA, KP, KQ, simprocAttr, KT w, KI, hw.KF, htm]) ?_
      repeat with_reducible (first | apply E0 | apply E1 | apply E2 | apply E3 | apply E4 | refine E5 (by decide) ?_ | apply E6 | apply E7 | apply E8 | apply E9 | apply Ea | apply Eb | apply Ec | apply Ed)
      refine W_region fun K hK => ?_
      simp only [KA, KB, KP, KQ, KM, simprocAttr, KT w, KI, hw.KF, htm]
      refine hK _ _ ?_
      clear hK
      clear K
      repeat with_reducible (first | apply E0 | apply E1 | apply E2 | apply E3 | apply E4 | refine E5 (by decide) ?_ | apply E6 | apply E7 | apply E8 | apply E9 | apply Ea | apply Eb | apply Ec | apply Ed)
      refine AtEnd_of rfl ?_
      simp only [KA, KP, KQ, simprocAttr, KT w, KI, hw.KF, htm, RS_some, aresults_nil, aresults_tmp, aresults_cell, one]
      rw [yes (good h4 h5 (fun j s hs => hdone j s (by rw [hie]; exact (List.getElem?_eq_some_iff.1 hs).1) hs) hrd)]
      exact FZ_bool
    obtain ⟨r, hrj⟩ := get_of_lt (l := RT) (i := j) (by omega)
    have hrm := List.mem_of_getElem? hrj
    have hro := ints_get' hrj
    have hj0 : ¬ (j : Int) < 0 := by omega
    have e1 : IntKind.i64.wrap ((j : Int) + 1) = (j : Int) + 1 := i64_in _ (by omega)
    have htk : RT.take (j + 1) = RT.take j ++ [r] := by rw [List.take_add_one, hrj]; rfl
    refine W_region fun K hK => ?_
    simp only [KA, KB, KP, KQ, KM, simprocAttr, KT w, KI, hw.KF, htm, t1, t8, g0, hrl, hjl]
    refine hK _ _ ?_
    clear hK
    clear K
    repeat with_reducible (first | apply E0 | apply E1 | apply E2 | apply E3 | apply E4 | refine E5 (by decide) ?_ | apply E6 | apply E7 | apply E8 | apply E9 | apply Ea | apply Eb | apply Ec | apply Ed)
    refine W_condT (by simp only [KA, KP, KQ, simprocAttr, KT w, KI, hw.KF, htm]) ?_
    repeat with_reducible (first | apply E0 | apply E1 | apply E2 | apply E3 | apply E4 | refine E5 (by decide) ?_ | apply E6 | apply E7 | apply E8 | apply E9 | apply Ea | apply Eb | apply Ec | apply Ed)
    by_cases hr1 : r = -1
    · subst hr1
      refine W_regionD [[], [0], [], [1, 0, 2], [3, 1, 0, 2], [4, 3, 1, 0, 2], [5, 4, 3, 1, 0, 2], [6, 5, 4, 3, 1, 0, 2], [7, 6, 5, 4, 3, 1, 0, 2], [6, 5, 4, 3, 1, 0, 2], [8, 7, 6, 5, 4, 3, 1, 0, 2, 9], [10, 8, 7, 6, 5, 4, 3, 1, 0, 2, 9], [11, 10, 8, 7, 6, 5, 4, 3, 1, 0, 2, 9], [12, 11, 10, 8, 7, 6, 5, 4, 3, 1, 0, 2, 9], [13, 12, 11, 10, 8, 7, 6, 5, 4, 3, 1, 0, 2, 9], [14, 13, 12, 11, 10, 8, 7, 6, 5, 4, 3, 1, 0, 2, 9], [13, 12, 11, 10, 8, 7, 6, 5, 4, 3, 1, 0, 2, 9], [15, 14, 13, 12, 11, 10, 8, 7, 6, 5, 4, 3, 1, 0, 2, 9, 16], [17, 15, 14, 13, 12, 11, 10, 8, 7, 6, 5, 4, 3, 1, 0, 2, 9, 16], [13, 12, 11, 10, 8, 7, 6, 5, 4, 3, 1, 0, 2, 9], [18, 17, 15, 14, 13, 12, 11, 10, 8, 7, 6, 5, 4, 3, 1, 0, 2, 9, 16, 19], [13, 12, 11, 10, 8, 7, 6, 5, 4, 3, 1, 0, 2, 9, 20, 18, 17, 15, 14, 16, 19], [21, 13, 12, 11, 10, 8, 7, 6, 5, 4, 3, 1, 0, 2, 9, 20, 18, 17, 15, 14, 16, 19], [22, 21, 13, 12, 11, 10, 8, 7, 6, 5, 4, 3, 1, 0, 2, 9, 20, 18, 17, 15, 14, 16, 19], [23, 22, 21, 13, 12, 11, 10, 8, 7, 6, 5, 4, 3, 1, 0, 2, 9, 20, 18, 17, 15, 14, 16, 19], [22, 21, 13, 12, 11, 10, 8, 7, 6, 5, 4, 3, 1, 0, 2, 9, 20, 18, 17, 15, 14, 16, 19], [25, 22, 21, 13, 12, 11, 10, 8, 7, 6, 5, 4, 3, 1, 0, 2, 9, 20, 18, 17, 15, 14, 16, 19], [22, 21, 13, 12, 11, 10, 8, 7, 6, 5, 4, 3, 1, 0, 2, 9, 20, 18, 17, 15, 14, 16, 19], [26, 25, 22, 21, 13, 12, 11, 10, 8, 7, 6, 5, 4, 3, 1, 0, 2, 9, 20, 18, 17, 15, 14, 16, 19, 27], [28, 26, 25, 22, 21, 13, 12, 11, 10, 8, 7, 6, 5, 4, 3, 1, 0, 2, 9, 20, 18, 17, 15, 14, 16, 19, 27], [24, 23, 22, 21, 13, 12, 11, 10, 8, 7, 6, 5, 4, 3, 1, 0, 2, 9, 20, 18, 17, 15, 14, 16, 19, 29, 28, 26, 25, 27], [30, 24, 23, 22, 21, 13, 12, 11, 10, 8, 7, 6, 5, 4, 3, 1, 0, 2, 9, 20, 18, 17, 15, 14, 16, 19, 29, 28, 26, 25, 27], [31, 30, 24, 23, 22, 21, 13, 12, 11, 10, 8, 7, 6, 5, 4, 3, 1, 0, 2, 9, 20, 18, 17, 15, 14, 16, 19, 29, 28, 26, 25, 27], [32, 31, 30, 24, 23, 22, 21, 13, 12, 11, 10, 8, 7, 6, 5, 4, 3, 1, 0, 2, 9, 20, 18, 17, 15, 14, 16, 19, 29, 28, 26, 25, 27], [22, 21, 13, 12, 11, 10, 8, 7, 6, 5, 4, 3, 1, 0, 2, 9, 20, 18, 17, 15, 14, 16, 19, 33, 32, 31, 30, 24, 23, 29, 28, 26, 25, 27], [6, 5, 4, 3, 1, 0, 2, 34, 22, 21, 13, 12, 11, 10, 8, 7, 9, 20, 18, 17, 15, 14, 16, 19, 33, 32, 31, 30, 24, 23, 29, 28, 26, 25, 27]] (by decide +kernel) (by decide +kernel) (by decide +kernel) fun K hK => ?_
      simp only [KA, KB, KP, KQ, KM, simprocAttr, KT w, KI, hw.KF, A58, A59, A5a, A5b, A5c, A5d, A5e, A5f, A5g, A5h, KX, Foot.big, A5i, opP, rfoot, refsO, refs, wfoot, A5j, A5k, noisyOk, pairOk, Foot.isQuiet, Foot.apart, Ft.apart, Foot.none, A5l, A5m, A48, A49, A5n, A5o, A5p, A5q, Nat.reduceBEq, htm, t1, t3, t8, g0, hro, hj0, hjl, hrl]
      refine hK _ _ ?_
      clear hK
      clear K
      repeat with_reducible (first | apply E0 | apply E1 | apply E2 | apply E3 | apply E4 | refine E5 (by decide) ?_ | apply E6 | apply E7 | apply E8 | apply E9 | apply Ea | apply Eb | apply Ec | apply Ed)
      refine W_condF (by simp only [KA, KP, KQ, simprocAttr, KT w, KI, hw.KF, htm]) ?_
      repeat with_reducible (first | apply E0 | apply E1 | apply E2 | apply E3 | apply E4 | refine E5 (by decide) ?_ | apply E6 | apply E7 | apply E8 | apply E9 | apply Ea | apply Eb | apply Ec | apply Ed)
      refine W_region fun K hK => ?_
      simp only [KA, KB, KP, KQ, KM, simprocAttr, KT w, KI, hw.KF, htm, t8, e1]
      refine hK _ _ ?_
      clear hK
      clear K
      refine ⟨RT.length - (j + 1), by omega, _, j + 1, rfl, rfl, rfl, by omega, fun x hx => ?_, ?_⟩
      · rw [htk] at hx
        rcases List.mem_append.1 hx with h | h
        · exact hrd x h
        · rw [List.mem_singleton] at h; subst h; exact .inl rfl
      · simp only [KA, KP, KQ, simprocAttr, KT w, KI, hw.KF, htm, t1, t3, Int.natCast_add, A3z]
    · by_cases hr2 : r < 0
      · refine W_regionD [[], [0], [], [1, 0, 2], [3, 1, 0, 2], [4, 3, 1, 0, 2], [5, 4, 3, 1, 0, 2], [6, 5, 4, 3, 1, 0, 2], [7, 6, 5, 4, 3, 1, 0, 2], [6, 5, 4, 3, 1, 0, 2], [8, 7, 6, 5, 4, 3, 1, 0, 2, 9], [10, 8, 7, 6, 5, 4, 3, 1, 0, 2, 9], [11, 10, 8, 7, 6, 5, 4, 3, 1, 0, 2, 9], [12, 11, 10, 8, 7, 6, 5, 4, 3, 1, 0, 2, 9], [13, 12, 11, 10, 8, 7, 6, 5, 4, 3, 1, 0, 2, 9], [14, 13, 12, 11, 10, 8, 7, 6, 5, 4, 3, 1, 0, 2, 9], [13, 12, 11, 10, 8, 7, 6, 5, 4, 3, 1, 0, 2, 9], [15, 14, 13, 12, 11, 10, 8, 7, 6, 5, 4, 3, 1, 0, 2, 9, 16], [17, 15, 14, 13, 12, 11, 10, 8, 7, 6, 5, 4, 3, 1, 0, 2, 9, 16], [13, 12, 11, 10, 8, 7, 6, 5, 4, 3, 1, 0, 2, 9], [18, 17, 15, 14, 13, 12, 11, 10, 8, 7, 6, 5, 4, 3, 1, 0, 2, 9, 16, 19], [13, 12, 11, 10, 8, 7, 6, 5, 4, 3, 1, 0, 2, 9, 20, 18, 17, 15, 14, 16, 19], [21, 13, 12, 11, 10, 8, 7, 6, 5, 4, 3, 1, 0, 2, 9, 20, 18, 17, 15, 14, 16, 19], [22, 21, 13, 12, 11, 10, 8, 7, 6, 5, 4, 3, 1, 0, 2, 9, 20, 18, 17, 15, 14, 16, 19], [23, 22, 21, 13, 12, 11, 10, 8, 7, 6, 5, 4, 3, 1, 0, 2, 9, 20, 18, 17, 15, 14, 16, 19], [22, 21, 13, 12, 11, 10, 8, 7, 6, 5, 4, 3, 1, 0, 2, 9, 20, 18, 17, 15, 14, 16, 19], [25, 22, 21, 13, 12, 11, 10, 8, 7, 6, 5, 4, 3, 1, 0, 2, 9, 20, 18, 17, 15, 14, 16, 19], [22, 21, 13, 12, 11, 10, 8, 7, 6, 5, 4, 3, 1, 0, 2, 9, 20, 18, 17, 15, 14, 16, 19], [26, 25, 22, 21, 13, 12, 11, 10, 8, 7, 6, 5, 4, 3, 1, 0, 2, 9, 20, 18, 17, 15, 14, 16, 19, 27], [28, 26, 25, 22, 21, 13, 12, 11, 10, 8, 7, 6, 5, 4, 3, 1, 0, 2, 9, 20, 18, 17, 15, 14, 16, 19, 27], [24, 23, 22, 21, 13, 12, 11, 10, 8, 7, 6, 5, 4, 3, 1, 0, 2, 9, 20, 18, 17, 15, 14, 16, 19, 29, 28, 26, 25, 27], [30, 24, 23, 22, 21, 13, 12, 11, 10, 8, 7, 6, 5, 4, 3, 1, 0, 2, 9, 20, 18, 17, 15, 14, 16, 19, 29, 28, 26, 25, 27], [31, 30, 24, 23, 22, 21, 13, 12, 11, 10, 8, 7, 6, 5, 4, 3, 1, 0, 2, 9, 20, 18, 17, 15, 14, 16, 19, 29, 28, 26, 25, 27], [32, 31, 30, 24, 23, 22, 21, 13, 12, 11, 10, 8, 7, 6, 5, 4, 3, 1, 0, 2, 9, 20, 18, 17, 15, 14, 16, 19, 29, 28, 26, 25, 27], [22, 21, 13, 12, 11, 10, 8, 7, 6, 5, 4, 3, 1, 0, 2, 9, 20, 18, 17, 15, 14, 16, 19, 33, 32, 31, 30, 24, 23, 29, 28, 26, 25, 27], [6, 5, 4, 3, 1, 0, 2, 34, 22, 21, 13, 12, 11, 10, 8, 7, 9, 20, 18, 17, 15, 14, 16, 19, 33, 32, 31, 30, 24, 23, 29, 28, 26, 25, 27]] (by decide +kernel) (by decide +kernel) (by decide +kernel) fun K hK => ?_
        simp only [KA, KB, KP, KQ, KM, simprocAttr, KT w, KI, hw.KF, A58, A59, A5a, A5b, A5c, A5d, A5e, A5f, A5g, A5h, KX, Foot.big, A5i, opP, rfoot, refsO, refs, wfoot, A5j, A5k, noisyOk, pairOk, Foot.isQuiet, Foot.apart, Ft.apart, Foot.none, A5l, A5m, A48, A49, A5n, A5o, A5p, A5q, Nat.reduceBEq, htm, t1, t3, t8, g0, hro, hj0, hjl, hrl, hr1, hr2]
        refine hK _ _ ?_
        clear hK
        clear K
        repeat with_reducible (first | apply E0 | apply E1 | apply E2 | apply E3 | apply E4 | refine E5 (by decide) ?_ | apply E6 | apply E7 | apply E8 | apply E9 | apply Ea | apply Eb | apply Ec | apply Ed)
        refine W_condT (by simp only [KA, KP, KQ, simprocAttr, KT w, KI, hw.KF, htm]) ?_
        repeat with_reducible (first | apply E0 | apply E1 | apply E2 | apply E3 | apply E4 | refine E5 (by decide) ?_ | apply E6 | apply E7 | apply E8 | apply E9 | apply Ea | apply Eb | apply Ec | apply Ed)
        refine W_region fun K hK => ?_
        simp only [KA, KB, KP, KQ, KM, simprocAttr, KT w, KI, hw.KF, htm]
        refine hK _ _ ?_
        clear hK
        clear K
        repeat with_reducible (first | apply E0 | apply E1 | apply E2 | apply E3 | apply E4 | refine E5 (by decide) ?_ | apply E6 | apply E7 | apply E8 | apply E9 | apply Ea | apply Eb | apply Ec | apply Ed)
        refine AtEnd_of rfl ?_
        simp only [KA, KP, KQ, simprocAttr, KT w, KI, hw.KF, htm, RS_some, aresults_nil, aresults_tmp, aresults_cell, one]
        rw [no (bad6 r hrm (fun h => h.elim hr1 fun h => by have := (kp r h).1; omega))]
        exact FZ_bool
      by_cases hr3 : r ≥ (SL.length : Int)
      · refine W_regionD [[], [0], [], [1, 0, 2], [3, 1, 0, 2], [4, 3, 1, 0, 2], [5, 4, 3, 1, 0, 2], [6, 5, 4, 3, 1, 0, 2], [7, 6, 5, 4, 3, 1, 0, 2], [6, 5, 4, 3, 1, 0, 2], [8, 7, 6, 5, 4, 3, 1, 0, 2, 9], [10, 8, 7, 6, 5, 4, 3, 1, 0, 2, 9], [11, 10, 8, 7, 6, 5, 4, 3, 1, 0, 2, 9], [12, 11, 10, 8, 7, 6, 5, 4, 3, 1, 0, 2, 9], [13, 12, 11, 10, 8, 7, 6, 5, 4, 3, 1, 0, 2, 9], [14, 13, 12, 11, 10, 8, 7, 6, 5, 4, 3, 1, 0, 2, 9], [13, 12, 11, 10, 8, 7, 6, 5, 4, 3, 1, 0, 2, 9], [15, 14, 13, 12, 11, 10, 8, 7, 6, 5, 4, 3, 1, 0, 2, 9, 16], [17, 15, 14, 13, 12, 11, 10, 8, 7, 6, 5, 4, 3, 1, 0, 2, 9, 16], [13, 12, 11, 10, 8, 7, 6, 5, 4, 3, 1, 0, 2, 9], [18, 17, 15, 14, 13, 12, 11, 10, 8, 7, 6, 5, 4, 3, 1, 0, 2, 9, 16, 19], [13, 12, 11, 10, 8, 7, 6, 5, 4, 3, 1, 0, 2, 9, 20, 18, 17, 15, 14, 16, 19], [21, 13, 12, 11, 10, 8, 7, 6, 5, 4, 3, 1, 0, 2, 9, 20, 18, 17, 15, 14, 16, 19], [22, 21, 13, 12, 11, 10, 8, 7, 6, 5, 4, 3, 1, 0, 2, 9, 20, 18, 17, 15, 14, 16, 19], [23, 22, 21, 13, 12, 11, 10, 8, 7, 6, 5, 4, 3, 1, 0, 2, 9, 20, 18, 17, 15, 14, 16, 19], [22, 21, 13, 12, 11, 10, 8, 7, 6, 5, 4, 3, 1, 0, 2, 9, 20, 18, 17, 15, 14, 16, 19], [25, 22, 21, 13, 12, 11, 10, 8, 7, 6, 5, 4, 3, 1, 0, 2, 9, 20, 18, 17, 15, 14, 16, 19], [22, 21, 13, 12, 11, 10, 8, 7, 6, 5, 4, 3, 1, 0, 2, 9, 20, 18, 17, 15, 14, 16, 19], [26, 25, 22, 21, 13, 12, 11, 10, 8, 7, 6, 5, 4, 3, 1, 0, 2, 9, 20, 18, 17, 15, 14, 16, 19, 27], [28, 26, 25, 22, 21, 13, 12, 11, 10, 8, 7, 6, 5, 4, 3, 1, 0, 2, 9, 20, 18, 17, 15, 14, 16, 19, 27], [24, 23, 22, 21, 13, 12, 11, 10, 8, 7, 6, 5, 4, 3, 1, 0, 2, 9, 20, 18, 17, 15, 14, 16, 19, 29, 28, 26, 25, 27], [30, 24, 23, 22, 21, 13, 12, 11, 10, 8, 7, 6, 5, 4, 3, 1, 0, 2, 9, 20, 18, 17, 15, 14, 16, 19, 29, 28, 26, 25, 27], [31, 30, 24, 23, 22, 21, 13, 12, 11, 10, 8, 7, 6, 5, 4, 3, 1, 0, 2, 9, 20, 18, 17, 15, 14, 16, 19, 29, 28, 26, 25, 27], [32, 31, 30, 24, 23, 22, 21, 13, 12, 11, 10, 8, 7, 6, 5, 4, 3, 1, 0, 2, 9, 20, 18, 17, 15, 14, 16, 19, 29, 28, 26, 25, 27], [22, 21, 13, 12, 11, 10, 8, 7, 6, 5, 4, 3, 1, 0, 2, 9, 20, 18, 17, 15, 14, 16, 19, 33, 32, 31, 30, 24, 23, 29, 28, 26, 25, 27], [6, 5, 4, 3, 1, 0, 2, 34, 22, 21, 13, 12, 11, 10, 8, 7, 9, 20, 18, 17, 15, 14, 16, 19, 33, 32, 31, 30, 24, 23, 29, 28, 26, 25, 27]] (by decide +kernel) (by decide +kernel) (by decide +kernel) fun K hK => ?_
        simp only [KA, KB, KP, KQ, KM, simprocAttr, KT w, KI, hw.KF, A58, A59, A5a, A5b, A5c, A5d, A5e, A5f, A5g, A5h, KX, Foot.big, A5i, opP, rfoot, refsO, refs, wfoot, A5j, A5k, noisyOk, pairOk, Foot.isQuiet, Foot.apart, Ft.apart, Foot.none, A5l, A5m, A48, A49, A5n, A5o, A5p, A5q, Nat.reduceBEq, htm, t1, t3, t8, g0, hro, hj0, hjl, hrl, hr1, hr2, hr3]
        refine hK _ _ ?_
        clear hK
        clear K
        repeat with_reducible (first | apply E0 | apply E1 | apply E2 | apply E3 | apply E4 | refine E5 (by decide) ?_ | apply E6 | apply E7 | apply E8 | apply E9 | apply Ea | apply Eb | apply Ec | apply Ed)
        refine W_condT (by simp only [KA, KP, KQ, simprocAttr, KT w, KI, hw.KF, htm]) ?_
        repeat with_reducible (first | apply E0 | apply E1 | apply E2 | apply E3 | apply E4 | refine E5 (by decide) ?_ | apply E6 | apply E7 | apply E8 | apply E9 | apply Ea | apply Eb | apply Ec | apply Ed)
        refine W_region fun K hK => ?_
        simp only [KA, KB, KP, KQ, KM, simprocAttr, KT w, KI, hw.KF, htm]
        refine hK _ _ ?_
        clear hK
        clear K
        repeat with_reducible (first | apply E0 | apply E1 | apply E2 | apply E3 | apply E4 | refine E5 (by decide) ?_ | apply E6 | apply E7 | apply E8 | apply E9 | apply Ea | apply Eb | apply Ec | apply Ed)
        refine AtEnd_of rfl ?_
        simp only [KA, KP, KQ, simprocAttr, KT w, KI, hw.KF, htm, RS_some, aresults_nil, aresults_tmp, aresults_cell, one]
        rw [no (bad6 r hrm (fun h => h.elim hr1 fun h => by have := (kp r h).2; omega))]
        exact FZ_bool
      have hr4 : r < (SL.length : Int) := by omega
      have hr0 : 0 ≤ r := by omega
      obtain ⟨s, hsr⟩ := get_of_lt (l := SL) (i := r.toNat) (by omega)
      have hrow : (SL.map RSl.row)[r.toNat]? = some s.row := by rw [List.getElem?_map, hsr]; rfl
      have hr10 := s.row_len
      have hr8 := s.row8
      generalize s.row = SR at *
      by_cases hr5 : s.refs = 0
      · rw [hr5] at hr8
        refine W_regionD [[], [0], [], [1, 0, 2], [3, 1, 0, 2], [4, 3, 1, 0, 2], [5, 4, 3, 1, 0, 2], [6, 5, 4, 3, 1, 0, 2], [7, 6, 5, 4, 3, 1, 0, 2], [6, 5, 4, 3, 1, 0, 2], [8, 7, 6, 5, 4, 3, 1, 0, 2, 9], [10, 8, 7, 6, 5, 4, 3, 1, 0, 2, 9], [11, 10, 8, 7, 6, 5, 4, 3, 1, 0, 2, 9], [12, 11, 10, 8, 7, 6, 5, 4, 3, 1, 0, 2, 9], [13, 12, 11, 10, 8, 7, 6, 5, 4, 3, 1, 0, 2, 9], [14, 13, 12, 11, 10, 8, 7, 6, 5, 4, 3, 1, 0, 2, 9], [13, 12, 11, 10, 8, 7, 6, 5, 4, 3, 1, 0, 2, 9], [15, 14, 13, 12, 11, 10, 8, 7, 6, 5, 4, 3, 1, 0, 2, 9, 16], [17, 15, 14, 13, 12, 11, 10, 8, 7, 6, 5, 4, 3, 1, 0, 2, 9, 16], [13, 12, 11, 10, 8, 7, 6, 5, 4, 3, 1, 0, 2, 9], [18, 17, 15, 14, 13, 12, 11, 10, 8, 7, 6, 5, 4, 3, 1, 0, 2, 9, 16, 19], [13, 12, 11, 10, 8, 7, 6, 5, 4, 3, 1, 0, 2, 9, 20, 18, 17, 15, 14, 16, 19], [21, 13, 12, 11, 10, 8, 7, 6, 5, 4, 3, 1, 0, 2, 9, 20, 18, 17, 15, 14, 16, 19], [22, 21, 13, 12, 11, 10, 8, 7, 6, 5, 4, 3, 1, 0, 2, 9, 20, 18, 17, 15, 14, 16, 19], [23, 22, 21, 13, 12, 11, 10, 8, 7, 6, 5, 4, 3, 1, 0, 2, 9, 20, 18, 17, 15, 14, 16, 19], [22, 21, 13, 12, 11, 10, 8, 7, 6, 5, 4, 3, 1, 0, 2, 9, 20, 18, 17, 15, 14, 16, 19], [25, 22, 21, 13, 12, 11, 10, 8, 7, 6, 5, 4, 3, 1, 0, 2, 9, 20, 18, 17, 15, 14, 16, 19], [22, 21, 13, 12, 11, 10, 8, 7, 6, 5, 4, 3, 1, 0, 2, 9, 20, 18, 17, 15, 14, 16, 19], [26, 25, 22, 21, 13, 12, 11, 10, 8, 7, 6, 5, 4, 3, 1, 0, 2, 9, 20, 18, 17, 15, 14, 16, 19, 27], [28, 26, 25, 22, 21, 13, 12, 11, 10, 8, 7, 6, 5, 4, 3, 1, 0, 2, 9, 20, 18, 17, 15, 14, 16, 19, 27], [24, 23, 22, 21, 13, 12, 11, 10, 8, 7, 6, 5, 4, 3, 1, 0, 2, 9, 20, 18, 17, 15, 14, 16, 19, 29, 28, 26, 25, 27], [30, 24, 23, 22, 21, 13, 12, 11, 10, 8, 7, 6, 5, 4, 3, 1, 0, 2, 9, 20, 18, 17, 15, 14, 16, 19, 29, 28, 26, 25, 27], [31, 30, 24, 23, 22, 21, 13, 12, 11, 10, 8, 7, 6, 5, 4, 3, 1, 0, 2, 9, 20, 18, 17, 15, 14, 16, 19, 29, 28, 26, 25, 27], [32, 31, 30, 24, 23, 22, 21, 13, 12, 11, 10, 8, 7, 6, 5, 4, 3, 1, 0, 2, 9, 20, 18, 17, 15, 14, 16, 19, 29, 28, 26, 25, 27], [22, 21, 13, 12, 11, 10, 8, 7, 6, 5, 4, 3, 1, 0, 2, 9, 20, 18, 17, 15, 14, 16, 19, 33, 32, 31, 30, 24, 23, 29, 28, 26, 25, 27], [6, 5, 4, 3, 1, 0, 2, 34, 22, 21, 13, 12, 11, 10, 8, 7, 9, 20, 18, 17, 15, 14, 16, 19, 33, 32, 31, 30, 24, 23, 29, 28, 26, 25, 27]] (by decide +kernel) (by decide +kernel) (by decide +kernel) fun K hK => ?_
        simp only [KA, KB, KP, KQ, KM, simprocAttr, KT w, KI, hw.KF, A58, A59, A5a, A5b, A5c, A5d, A5e, A5f, A5g, A5h, KX, Foot.big, A5i, opP, rfoot, refsO, refs, wfoot, A5j, A5k, noisyOk, pairOk, Foot.isQuiet, Foot.apart, Ft.apart, Foot.none, A5l, A5m, A48, A49, A5n, A5o, A5p, A5q, Nat.reduceBEq, htm, t1, t3, t8, g0, hro, hj0, hjl, hrl, hr0, hr1, hr2, hr3, hr4, hrow, hr10, hr8, hlen]
        refine hK _ _ ?_
        clear hK
        clear K
        repeat with_reducible (first | apply E0 | apply E1 | apply E2 | apply E3 | apply E4 | refine E5 (by decide) ?_ | apply E6 | apply E7 | apply E8 | apply E9 | apply Ea | apply Eb | apply Ec | apply Ed)
        refine W_condT (by simp only [KA, KP, KQ, simprocAttr, KT w, KI, hw.KF, htm]) ?_
        repeat with_reducible (first | apply E0 | apply E1 | apply E2 | apply E3 | apply E4 | refine E5 (by decide) ?_ | apply E6 | apply E7 | apply E8 | apply E9 | apply Ea | apply Eb | apply Ec | apply Ed)
        refine W_region fun K hK => ?_
        simp only [KA, KB, KP, KQ, KM, simprocAttr, KT w, KI, hw.KF, htm]
        refine hK _ _ ?_
        clear hK
        clear K
        repeat with_reducible (first | apply E0 | apply E1 | apply E2 | apply E3 | apply E4 | refine E5 (by decide) ?_ | apply E6 | apply E7 | apply E8 | apply E9 | apply Ea | apply Eb | apply Ec | apply Ed)
        refine AtEnd_of rfl ?_
        simp only [KA, KP, KQ, simprocAttr, KT w, KI, hw.KF, htm, RS_some, aresults_nil, aresults_tmp, aresults_cell, one]
        rw [no (bad6 r hrm (fun h => h.elim hr1 fun ⟨_, s', h1, h2⟩ => by rw [hsr] at h1; cases h1; exact h2 hr5))]
        exact FZ_bool
      · refine W_regionD [[], [0], [], [1, 0, 2], [3, 1, 0, 2], [4, 3, 1, 0, 2], [5, 4, 3, 1, 0, 2], [6, 5, 4, 3, 1, 0, 2], [7, 6, 5, 4, 3, 1, 0, 2], [6, 5, 4, 3, 1, 0, 2], [8, 7, 6, 5, 4, 3, 1, 0, 2, 9], [10, 8, 7, 6, 5, 4, 3, 1, 0, 2, 9], [11, 10, 8, 7, 6, 5, 4, 3, 1, 0, 2, 9], [12, 11, 10, 8, 7, 6, 5, 4, 3, 1, 0, 2, 9], [13, 12, 11, 10, 8, 7, 6, 5, 4, 3, 1, 0, 2, 9], [14, 13, 12, 11, 10, 8, 7, 6, 5, 4, 3, 1, 0, 2, 9], [13, 12, 11, 10, 8, 7, 6, 5, 4, 3, 1, 0, 2, 9], [15, 14, 13, 12, 11, 10, 8, 7, 6, 5, 4, 3, 1, 0, 2, 9, 16], [17, 15, 14, 13, 12, 11, 10, 8, 7, 6, 5, 4, 3, 1, 0, 2, 9, 16], [13, 12, 11, 10, 8, 7, 6, 5, 4, 3, 1, 0, 2, 9], [18, 17, 15, 14, 13, 12, 11, 10, 8, 7, 6, 5, 4, 3, 1, 0, 2, 9, 16, 19], [13, 12, 11, 10, 8, 7, 6, 5, 4, 3, 1, 0, 2, 9, 20, 18, 17, 15, 14, 16, 19], [21, 13, 12, 11, 10, 8, 7, 6, 5, 4, 3, 1, 0, 2, 9, 20, 18, 17, 15, 14, 16, 19], [22, 21, 13, 12, 11, 10, 8, 7, 6, 5, 4, 3, 1, 0, 2, 9, 20, 18, 17, 15, 14, 16, 19], [23, 22, 21, 13, 12, 11, 10, 8, 7, 6, 5, 4, 3, 1, 0, 2, 9, 20, 18, 17, 15, 14, 16, 19], [22, 21, 13, 12, 11, 10, 8, 7, 6, 5, 4, 3, 1, 0, 2, 9, 20, 18, 17, 15, 14, 16, 19], [25, 22, 21, 13, 12, 11, 10, 8, 7, 6, 5, 4, 3, 1, 0, 2, 9, 20, 18, 17, 15, 14, 16, 19], [22, 21, 13, 12, 11, 10, 8, 7, 6, 5, 4, 3, 1, 0, 2, 9, 20, 18, 17, 15, 14, 16, 19], [26, 25, 22, 21, 13, 12, 11, 10, 8, 7, 6, 5, 4, 3, 1, 0, 2, 9, 20, 18, 17, 15, 14, 16, 19, 27], [28, 26, 25, 22, 21, 13, 12, 11, 10, 8, 7, 6, 5, 4, 3, 1, 0, 2, 9, 20, 18, 17, 15, 14, 16, 19, 27], [24, 23, 22, 21, 13, 12, 11, 10, 8, 7, 6, 5, 4, 3, 1, 0, 2, 9, 20, 18, 17, 15, 14, 16, 19, 29, 28, 26, 25, 27], [30, 24, 23, 22, 21, 13, 12, 11, 10, 8, 7, 6, 5, 4, 3, 1, 0, 2, 9, 20, 18, 17, 15, 14, 16, 19, 29, 28, 26, 25, 27], [31, 30, 24, 23, 22, 21, 13, 12, 11, 10, 8, 7, 6, 5, 4, 3, 1, 0, 2, 9, 20, 18, 17, 15, 14, 16, 19, 29, 28, 26, 25, 27], [32, 31, 30, 24, 23, 22, 21, 13, 12, 11, 10, 8, 7, 6, 5, 4, 3, 1, 0, 2, 9, 20, 18, 17, 15, 14, 16, 19, 29, 28, 26, 25, 27], [22, 21, 13, 12, 11, 10, 8, 7, 6, 5, 4, 3, 1, 0, 2, 9, 20, 18, 17, 15, 14, 16, 19, 33, 32, 31, 30, 24, 23, 29, 28, 26, 25, 27], [6, 5, 4, 3, 1, 0, 2, 34, 22, 21, 13, 12, 11, 10, 8, 7, 9, 20, 18, 17, 15, 14, 16, 19, 33, 32, 31, 30, 24, 23, 29, 28, 26, 25, 27]] (by decide +kernel) (by decide +kernel) (by decide +kernel) fun K hK => ?_
        simp only [KA, KB, KP, KQ, KM, simprocAttr, KT w, KI, hw.KF, A58, A59, A5a, A5b, A5c, A5d, A5e, A5f, A5g, A5h, KX, Foot.big, A5i, opP, rfoot, refsO, refs, wfoot, A5j, A5k, noisyOk, pairOk, Foot.isQuiet, Foot.apart, Ft.apart, Foot.none, A5l, A5m, A48, A49, A5n, A5o, A5p, A5q, Nat.reduceBEq, htm, t1, t3, t8, g0, hro, hj0, hjl, hrl, hr0, hr1, hr2, hr3, hr4, hrow, hr10, hr8, hr5, hlen]
        refine hK _ _ ?_
        clear hK
        clear K
        repeat with_reducible (first | apply E0 | apply E1 | apply E2 | apply E3 | apply E4 | refine E5 (by decide) ?_ | apply E6 | apply E7 | apply E8 | apply E9 | apply Ea | apply Eb | apply Ec | apply Ed)
        refine W_condF (by simp only [KA, KP, KQ, simprocAttr, KT w, KI, hw.KF, htm]) ?_
        repeat with_reducible (first | apply E0 | apply E1 | apply E2 | apply E3 | apply E4 | refine E5 (by decide) ?_ | apply E6 | apply E7 | apply E8 | apply E9 | apply Ea | apply Eb | apply Ec | apply Ed)
        refine W_region fun K hK => ?_
        simp only [KA, KB, KP, KQ, KM, simprocAttr, KT w, KI, hw.KF, htm, t8, e1]
        refine hK _ _ ?_
        clear hK
        clear K
        refine ⟨RT.length - (j + 1), by omega, _, j + 1, rfl, rfl, rfl, by omega, fun x hx => ?_, ?_⟩
        · rw [htk] at hx
          rcases List.mem_append.1 hx with h | h
          · exact hrd x h
          · rw [List.mem_singleton] at h; subst h; exact .inr ⟨by omega, s, hsr, hr5⟩
        · simp only [KA, KP, KQ, simprocAttr, KT w, KI, hw.KF, htm, t1, t3, Int.natCast_add, A3z]
  obtain ⟨s, hsi⟩ := get_of_lt (l := SL) (i := i) (by omega)
  obtain ⟨ok1, ok2, ok3⟩ := hs s (List.mem_of_getElem? hsi)
  have hrow : (SL.map RSl.row)[i]? = some s.row := by rw [List.getElem?_map, hsi]; rfl
  have hi0 : ¬ (i : Int) < 0 := by omega
  have hi1 : (0 : Int) ≤ (i : Int) := by omega
  have e1 : IntKind.i64.wrap ((i : Int) + 1) = (i : Int) + 1 := i64_in _ (by omega)
  have hr10 := s.row_len
  have hr7 := s.row_take7
  have hr77 := s.row7
  have hr8 := s.row8
  have hr9 := s.row9
  have hr6 : s.row[6]? = some (.vec (Node.rows s.node.kids)) := by
    rw [RSl.row, List.getElem?_append_left (by rw [Node.cells_len]; omega), Node.cells_eq]; rfl
  have hr10t : s.row.take 10 = s.row := List.take_of_length_le (by omega)
  have hr10d : s.row.drop 10 = [] := List.drop_eq_nil_of_le (by omega)
  have ncl := Node.cells_len s.node
  have nct := Node.cells_take s.node
  have ncd := Node.cells_drop s.node
  have nrl := Node.rows_len s.node.kids
  have kln := ints_len s.kids
  have h42 := fun (s' : RSl) h h' a b => holds42r hw s s' h h' a b
  have hlf := fun (h : s.node.kids = []) => leafN (w := w) hw h (show fs0.nd.kids = [] from rfl)
  have hz0 : fs0.nd.cells = [.str [], .bool false, .str [], .int .i64 0, .int .i64 0, .int .i64 0, .vec []] := rfl
  have hzn : PC (cfg w) 20 [.agg s.node.cells, .agg [.str [], .bool false, .str [], .int .i64 0, .int .i64 0, .int .i64 0, .nils]] = PC (cfg w) 20 [.agg s.node.cells, .agg [.str [], .bool false, .str [], .int .i64 0, .int .i64 0, .int .i64 0, .nils]] := rfl
  have hlf' : s.node.kids = [] → PC (cfg w) 20 [.agg s.node.cells, .agg [.str [], .bool false, .str [], .int .i64 0, .int .i64 0, .int .i64 0, .nils]] (.bool (decide (s.node = fs0.nd))) := fun h =>
    PC_nrm hw.e20 hw.m20 (args' := [.agg s.node.cells, .agg fs0.nd.cells]) (by simp [nrmA, nrm, Node.nrm_all, nrmL, nrmR, hz0]) (by simp [nrmA, nrm, Node.nrm_all]) (hlf h)
  have hsp : ∀ P : Prop, P → decide P = true := fun P h => decide_eq_true h
  have hsn : ∀ P : Prop, ¬ P → decide P = false := fun P h => decide_eq_false h
  have nrs := s.row_nrm
  have hSR : s.row = s.row := rfl
  refine W_region fun K hK => ?_
  simp only [KA, KB, KP, KQ, KM, simprocAttr, KT w, KI, hw.KF, htm, t3, t4, hil]
  refine hK _ _ ?_
  clear hK
  clear K
  repeat with_reducible (first | apply E0 | apply E1 | apply E2 | apply E3 | apply E4 | refine E5 (by decide) ?_ | apply E6 | apply E7 | apply E8 | apply E9 | apply Ea | apply Eb | apply Ec | apply Ed)
  refine W_condT (by simp only [KA, KP, KQ, simprocAttr, KT w, KI, hw.KF, htm]) ?_
  repeat with_reducible (first | apply E0 | apply E1 | apply E2 | apply E3 | apply E4 | refine E5 (by decide) ?_ | apply E6 | apply E7 | apply E8 | apply E9 | apply Ea | apply Eb | apply Ec | apply Ed)
  refine W_region fun K hK => ?_
  simp only [KA, KB, KP, KQ, KM, simprocAttr, KT w, KI, hw.KF, htm, t1, t4, g0, hrow, hlen, hi0, hil, hr10, hr10t, hr10d, hok, hb, A3p, splice]
  refine hK _ _ ?_
  clear hK
  clear K
  repeat with_reducible (first | apply E0 | apply E1 | apply E2 | apply E3 | apply E4 | refine E5 (by decide) ?_ | apply E6 | apply E7 | apply E8 | apply E9 | apply Ea | apply Eb | apply Ec | apply Ed)
  generalize hSRe : s.row = SR at *
  have gN : ∀ X, (T.push X).get T.n = some X := fun X => St.get_pushe
  have gO : ∀ X, (T.push X).get 0 = T.get 0 := fun X => St.get_pushn (by omega)
  have okN : ∀ X, (T.push X).ok := fun X => St.ok_push hok
  have bN : ∀ X, (T.push X).base = 0 := fun X => by rw [St.pushB]; exact hb
  have nN : ∀ X, (T.push X).n = T.n + 1 := fun X => St.pushN _ _
  generalize hTN : T.n = TN at *
  obtain ⟨bb, hbb⟩ : ∃ b : Bool, b = true ↔ ¬ SlotP s := ⟨decide (¬ SlotP s), by simp⟩
  refine W.mono (Q := fun ex fr S' => ex = .nrm ∧ S' = T.push (.row SR false) ∧ ∃ tm, fr = ⟨tm, [], none, 29⟩ ∧ tm.length = 172 ∧ tget tm 1 = .ptr 0 0 ∧ tget tm 3 = .int .i64 (SL.length : Nat) ∧ tget tm 4 = .int .i64 (i : Nat) ∧ tget tm 5 = .ptr TN 0 ∧ tget tm 67 = .bool bb) ?_ ?_
  · by_cases q1 : s.refs < 0
    · obtain rfl : bb = true := hbb.2 (fun h : SlotP s => by have := h.refs; omega)
      refine W_region fun K hK => ?_
      simp only [KA, KB, KP, KQ, KM, simprocAttr, KT w, KI, hw.KF, htm, gN, hr10, hr8, q1]
      refine hK _ _ ?_
      clear hK
      clear K
      refine ⟨rfl, rfl, _, rfl, ?_⟩
      simp only [KA, KP, KQ, simprocAttr, KT w, KI, hw.KF, htm, t1, t3, t4]
    by_cases q2 : s.node.kids = []
    case neg =>
      have q2' : (s.node.kids.length : Int) > 0 := by have : s.node.kids.length ≠ 0 := fun h => q2 (List.length_eq_zero_iff.1 h); omega
      obtain rfl : bb = true := hbb.2 (fun h : SlotP s => q2 h.leaf)
      refine W_region fun K hK => ?_
      simp only [KA, KB, KP, KQ, KM, simprocAttr, KT w, KI, hw.KF, htm, gN, hr10, hr8, hr6, nrl, q1, q2']
      refine hK _ _ ?_
      clear hK
      clear K
      refine ⟨rfl, rfl, _, rfl, ?_⟩
      simp only [KA, KP, KQ, simprocAttr, KT w, KI, hw.KF, htm, t1, t3, t4]
    have q2' : ¬ (s.node.kids.length : Int) > 0 := by rw [q2]; simp
    have hlf2 := hlf' q2
    by_cases q3 : s.refs = 0
    · have q3g : ¬ s.refs > 0 := by omega
      rw [q3] at hr8
      by_cases q4 : s.kids = []
      case neg =>
        have q4' : (s.kids.length : Int) > 0 := by have : s.kids.length ≠ 0 := fun h => q4 (List.length_eq_zero_iff.1 h); omega
        obtain rfl : bb = true := hbb.2 (fun h : SlotP s => q4 (h.zero q3).1)
        refine W_region fun K hK => ?_
        simp only [KA, KB, KP, KQ, KM, simprocAttr, KT w, KI, hw.KF, htm, gN, hr10, hr8, hr6, hr77, nrl, kln, q2', q4']
        refine hK _ _ ?_
        clear hK
        clear K
        refine ⟨rfl, rfl, _, rfl, ?_⟩
        simp only [KA, KP, KQ, simprocAttr, KT w, KI, hw.KF, htm, t1, t3, t4]
      have q4' : ¬ (s.kids.length : Int) > 0 := by rw [q4]; simp
      by_cases q5 : s.node = fs0.nd
      · rw [hsp _ q5] at hlf2
        obtain rfl : bb = false := bfalse hbb (fun h => h ⟨by omega, q2, fun _ => ⟨q4, q5⟩, fun h => by omega⟩ : ¬ ¬ SlotP s)
        refine W_region fun K hK => ?_
        simp only [KA, KB, KP, KQ, KM, simprocAttr, KT w, KI, hw.KF, htm, gN, hr10, hr7, hr8, hr6, hr77, nrl, kln, ncl, nct, ncd, q2', q4', hlf2]
        refine hK _ _ ?_
        clear hK
        clear K
        refine ⟨rfl, rfl, _, rfl, ?_⟩
        simp only [KA, KP, KQ, simprocAttr, KT w, KI, hw.KF, htm, t1, t3, t4]
      · rw [hsn _ q5] at hlf2
        obtain rfl : bb = true := hbb.2 (fun h : SlotP s => q5 (h.zero q3).2)
        refine W_region fun K hK => ?_
        simp only [KA, KB, KP, KQ, KM, simprocAttr, KT w, KI, hw.KF, htm, gN, hr10, hr7, hr8, hr6, hr77, nrl, kln, ncl, nct, ncd, q2', q4', hlf2]
        refine hK _ _ ?_
        clear hK
        clear K
        refine ⟨rfl, rfl, _, rfl, ?_⟩
        simp only [KA, KP, KQ, simprocAttr, KT w, KI, hw.KF, htm, t1, t3, t4]
    · have q3' : s.refs > 0 := by omega
      by_cases q6 : s.next = -1
      · obtain rfl : bb = false := bfalse hbb (fun h => h ⟨by omega, q2, fun h => absurd h q3, fun _ => q6⟩ : ¬ ¬ SlotP s)
        rw [q6] at hr9
        refine W_region fun K hK => ?_
        simp only [KA, KB, KP, KQ, KM, simprocAttr, KT w, KI, hw.KF, htm, gN, hr10, hr8, hr6, hr9, nrl, q1, q2', q3, q3']
        refine hK _ _ ?_
        clear hK
        clear K
        refine ⟨rfl, rfl, _, rfl, ?_⟩
        simp only [KA, KP, KQ, simprocAttr, KT w, KI, hw.KF, htm, t1, t3, t4]
      · obtain rfl : bb = true := hbb.2 (fun h : SlotP s => q6 (h.next q3'))
        refine W_region fun K hK => ?_
        simp only [KA, KB, KP, KQ, KM, simprocAttr, KT w, KI, hw.KF, htm, gN, hr10, hr8, hr6, hr9, nrl, q1, q2', q3, q3', q6]
        refine hK _ _ ?_
        clear hK
        clear K
        refine ⟨rfl, rfl, _, rfl, ?_⟩
        simp only [KA, KP, KQ, simprocAttr, KT w, KI, hw.KF, htm, t1, t3, t4]
  clear htm t1 t3 t4 tm
  rintro ex fr S' ⟨rfl, rfl, tm, rfl, htm, t1, t3, t4, t5, t67⟩
  repeat with_reducible (first | apply E0 | apply E1 | apply E2 | apply E3 | apply E4 | refine E5 (by decide) ?_ | apply E6 | apply E7 | apply E8 | apply E9 | apply Ea | apply Eb | apply Ec | apply Ed)
  by_cases hS : SlotP s
  case neg =>
    obtain rfl : bb = true := hbb.2 hS
    refine W_condT (by simp only [KA, KP, KQ, simprocAttr, KT w, KI, hw.KF, t67]) ?_
    repeat with_reducible (first | apply E0 | apply E1 | apply E2 | apply E3 | apply E4 | refine E5 (by decide) ?_ | apply E6 | apply E7 | apply E8 | apply E9 | apply Ea | apply Eb | apply Ec | apply Ed)
    refine W_region fun K hK => ?_
    simp only [KA, KB, KP, KQ, KM, simprocAttr, KT w, KI, hw.KF, htm]
    refine hK _ _ ?_
    clear hK
    clear K
    repeat with_reducible (first | apply E0 | apply E1 | apply E2 | apply E3 | apply E4 | refine E5 (by decide) ?_ | apply E6 | apply E7 | apply E8 | apply E9 | apply Ea | apply Eb | apply Ec | apply Ed)
    refine AtEnd_of rfl ?_
    simp only [KA, KP, KQ, simprocAttr, KT w, KI, hw.KF, htm, RS_some, aresults_nil, aresults_tmp, aresults_cell, one]
    rw [no (bad3 i s hsi hS)]
    exact FZ_bool
  obtain rfl : bb = false := bfalse hbb (fun h => h hS)
  refine W_condF (by simp only [KA, KP, KQ, simprocAttr, KT w, KI, hw.KF, t67]) ?_
  repeat with_reducible (first | apply E0 | apply E1 | apply E2 | apply E3 | apply E4 | refine E5 (by decide) ?_ | apply E6 | apply E7 | apply E8 | apply E9 | apply Ea | apply Eb | apply Ec | apply Ed)
  refine W_region fun K hK => ?_
  simp only [KA, KB, KP, KQ, KM, simprocAttr, KT w, KI, hw.KF, htm]
  refine hK _ _ ?_
  clear hK
  clear K
  repeat with_reducible (first | apply E0 | apply E1 | apply E2 | apply E3 | apply E4 | refine E5 (by decide) ?_ | apply E6 | apply E7 | apply E8 | apply E9 | apply Ea | apply Eb | apply Ec | apply Ed)
  have hs1 := hS.refs
  have hs2 := hS.leaf
  have hkl : s.kids.length ≤ 35184372088832 := by omega
  refine W_loop (fun k0 fr T' => ∃ (tm : List AV) (k : Nat), fr = ⟨tm, [], none, 29⟩ ∧ T' = T.push (.row SR false) ∧ k0 = s.kids.length - k ∧ k ≤ s.kids.length ∧ (∀ q ∈ s.kids.take k, KidP SL q) ∧
      tm.length = 172 ∧ tget tm 1 = .ptr 0 0 ∧ tget tm 3 = .int .i64 (SL.length : Nat) ∧ tget tm 4 = .int .i64 (i : Nat) ∧ tget tm 5 = .ptr TN 0 ∧ tget tm 6 = .int .i64 (k : Nat)) s.kids.length
    ⟨_, 0, rfl, rfl, rfl, Nat.zero_le _, by simp, ?_⟩ ?_
  · simp only [KA, KP, KQ, simprocAttr, KT w, KI, hw.KF, htm, t1, t3, t4, t5, Int.ofNat_zero]
  clear htm t1 t3 t4 t5 t67 tm
  rintro k0 fr T' ⟨tm, k, rfl, rfl, rfl, hk, hkd, htm, t1, t3, t4, t5, t6⟩
  repeat with_reducible (first | apply E0 | apply E1 | apply E2 | apply E3 | apply E4 | refine E5 (by decide) ?_ | apply E6 | apply E7 | apply E8 | apply E9 | apply Ea | apply Eb | apply Ec | apply Ed)
  by_cases hkk : (k : Int) < (s.kids.length : Int)
  case neg =>
    have hke : k = s.kids.length := by omega
    rw [hke, List.take_length] at hkd
    refine W_region fun K hK => ?_
    simp only [KA, KB, KP, KQ, KM, simprocAttr, KT w, KI, hw.KF, htm, t5, t6, gN, hr10, hr77, kln, hkk]
    refine hK _ _ ?_
    clear hK
    clear K
    repeat with_reducible (first | apply E0 | apply E1 | apply E2 | apply E3 | apply E4 | refine E5 (by decide) ?_ | apply E6 | apply E7 | apply E8 | apply E9 | apply Ea | apply Eb | apply Ec | apply Ed)
    refine W_condF (by simp only [KA, KP, KQ, simprocAttr, KT w, KI, hw.KF, htm]) ?_
    repeat with_reducible (first | apply E0 | apply E1 | apply E2 | apply E3 | apply E4 | refine E5 (by decide) ?_ | apply E6 | apply E7 | apply E8 | apply E9 | apply Ea | apply Eb | apply Ec | apply Ed)
    refine W_region fun K hK => ?_
    simp only [KA, KB, KP, KQ, KM, simprocAttr, KT w, KI, hw.KF, htm]
    refine hK _ _ ?_
    clear hK
    clear K
    repeat with_reducible (first | apply E0 | apply E1 | apply E2 | apply E3 | apply E4 | refine E5 (by decide) ?_ | apply E6 | apply E7 | apply E8 | apply E9 | apply Ea | apply Eb | apply Ec | apply Ed)
    refine W_loop (fun k0 fr T' => ∃ (tm : List AV) (m : Nat), fr = ⟨tm, [], none, 29⟩ ∧ T' = T.push (.row SR false) ∧ k0 = i - m ∧ m ≤ i ∧ (∀ (j : Nat) (s' : RSl), j < m → SL[j]? = some s' → s.refs > 0 → s'.refs > 0 → ¬ (s.node = s'.node ∧ s.kids = s'.kids)) ∧
        tm.length = 172 ∧ tget tm 1 = .ptr 0 0 ∧ tget tm 3 = .int .i64 (SL.length : Nat) ∧ tget tm 4 = .int .i64 (i : Nat) ∧ tget tm 5 = .ptr TN 0 ∧ tget tm 7 = .int .i64 (m : Nat)) i
      ⟨_, 0, rfl, rfl, rfl, Nat.zero_le _, fun j s' hj => by omega, ?_⟩ ?_
    · simp only [KA, KP, KQ, simprocAttr, KT w, KI, hw.KF, htm, t1, t3, t4, t5, Int.ofNat_zero]
    clear htm t1 t3 t4 t5 t6 tm
    rintro k0 fr T' ⟨tm, m, rfl, rfl, rfl, hm, hap, htm, t1, t3, t4, t5, t7⟩
    repeat with_reducible (first | apply E0 | apply E1 | apply E2 | apply E3 | apply E4 | refine E5 (by decide) ?_ | apply E6 | apply E7 | apply E8 | apply E9 | apply Ea | apply Eb | apply Ec | apply Ed)
    by_cases hmi : (m : Int) < (i : Int)
    case neg =>
      have hme : m = i := by omega
      subst hme
      refine W_region fun K hK => ?_
      simp only [KA, KB, KP, KQ, KM, simprocAttr, KT w, KI, hw.KF, htm, t4, t7, hmi]
      refine hK _ _ ?_
      clear hK
      clear K
      repeat with_reducible (first | apply E0 | apply E1 | apply E2 | apply E3 | apply E4 | refine E5 (by decide) ?_ | apply E6 | apply E7 | apply E8 | apply E9 | apply Ea | apply Eb | apply Ec | apply Ed)
      refine W_condF (by simp only [KA, KP, KQ, simprocAttr, KT w, KI, hw.KF, htm]) ?_
      repeat with_reducible (first | apply E0 | apply E1 | apply E2 | apply E3 | apply E4 | refine E5 (by decide) ?_ | apply E6 | apply E7 | apply E8 | apply E9 | apply Ea | apply Eb | apply Ec | apply Ed)
      refine W_region fun K hK => ?_
      simp only [KA, KB, KP, KQ, KM, simprocAttr, KT w, KI, hw.KF, htm, t4, e1]
      refine hK _ _ ?_
      clear hK
      clear K
      refine ⟨SL.length - (m + 1), by omega, _, m + 1, rfl, okN _, bN _, by rw [nN]; omega, by rw [gO]; exact g0, rfl, by omega, fun j s' hj hs' => ?_, ?_⟩
      · by_cases e : j < m
        · exact hdone j s' e hs'
        · have : j = m := by omega
          subst this
          rw [hsi] at hs'; cases hs'
          exact ⟨hS, hkd, hap⟩
      · simp only [KA, KP, KQ, simprocAttr, KT w, KI, hw.KF, htm, t1, t3, Int.natCast_add, A3z]
    obtain ⟨s', hs'⟩ := get_of_lt (l := SL) (i := m) (by omega)
    have hmd := (hdone m s' (by omega) hs').1
    obtain ⟨ok1', ok2', ok3'⟩ := hs s' (List.mem_of_getElem? hs')
    have hrow' : (SL.map RSl.row)[m]? = some s'.row := by rw [List.getElem?_map, hs']; rfl
    have hh := h42 s' hkl (by omega) hs2 hmd.leaf
    have nrs' := s'.row_nrm
    have b10 := s'.row_len
    have b8 := s'.row8
    have b10t : s'.row.take 10 = s'.row := List.take_of_length_le (by omega)
    have b10d : s'.row.drop 10 = [] := List.drop_eq_nil_of_le (by omega)
    have hm0 : ¬ (m : Int) < 0 := by omega
    have hmS : (m : Int) < (SL.length : Int) := by omega
    have e2 : IntKind.i64.wrap ((m : Int) + 1) = (m : Int) + 1 := i64_in _ (by omega)
    generalize s'.row = SR' at *
    refine W_region fun K hK => ?_
    simp only [KA, KB, KP, KQ, KM, simprocAttr, KT w, KI, hw.KF, htm, t4, t7, hmi]
    refine hK _ _ ?_
    clear hK
    clear K
    repeat with_reducible (first | apply E0 | apply E1 | apply E2 | apply E3 | apply E4 | refine E5 (by decide) ?_ | apply E6 | apply E7 | apply E8 | apply E9 | apply Ea | apply Eb | apply Ec | apply Ed)
    refine W_condT (by simp only [KA, KP, KQ, simprocAttr, KT w, KI, hw.KF, htm]) ?_
    repeat with_reducible (first | apply E0 | apply E1 | apply E2 | apply E3 | apply E4 | refine E5 (by decide) ?_ | apply E6 | apply E7 | apply E8 | apply E9 | apply Ea | apply Eb | apply Ec | apply Ed)
    try clear hbb
    obtain ⟨bb, hbb⟩ : ∃ b : Bool, b = true ↔ (s.refs > 0 ∧ s'.refs > 0 ∧ s.node = s'.node ∧ s.kids = s'.kids) := ⟨decide (s.refs > 0 ∧ s'.refs > 0 ∧ s.node = s'.node ∧ s.kids = s'.kids), by simp⟩
    refine W.mono (Q := fun ex fr S' => ex = .nrm ∧ S' = T.push (.row SR false) ∧ ∃ tm, fr = ⟨tm, [], none, 29⟩ ∧ tm.length = 172 ∧ tget tm 1 = .ptr 0 0 ∧ tget tm 3 = .int .i64 (SL.length : Nat) ∧ tget tm 4 = .int .i64 (i : Nat) ∧ tget tm 5 = .ptr TN 0 ∧ tget tm 7 = .int .i64 (m : Nat) ∧ tget tm 128 = .bool bb) ?_ ?_
    · by_cases ha : s.refs > 0
      · by_cases hb' : s'.refs > 0
        · have hbe : bb = decide (s.node = s'.node ∧ s.kids = s'.kids) := by
            rw [Bool.eq_iff_iff, hbb]; simp [ha, hb']
          rw [← hbe] at hh
          refine W_regionD [[], [0], [1, 0], [2, 1, 0], [3, 2, 1, 0], [4, 3, 2, 1, 0], [3, 2, 1, 0], [5, 4, 3, 2, 1, 0, 6], [7, 5, 4, 3, 2, 1, 0, 6], [8, 7, 5, 4, 3, 2, 1, 0, 6], [9, 8, 7, 5, 4, 3, 2, 1, 0, 6], [3, 2, 1, 0, 10, 9, 8, 7, 5, 4, 6], [11, 3, 2, 1, 0, 10, 9, 8, 7, 5, 4, 6], [12, 11, 3, 2, 1, 0, 10, 9, 8, 7, 5, 4, 6], [12, 11, 3, 2, 1, 0, 10, 9, 8, 7, 5, 4, 6], [14, 12, 11, 3, 2, 1, 0, 10, 9, 8, 7, 5, 4, 6], [12, 11, 3, 2, 1, 0, 10, 9, 8, 7, 5, 4, 6], [15, 14, 12, 11, 3, 2, 1, 0, 10, 9, 8, 7, 5, 4, 6, 16], [17, 15, 14, 12, 11, 3, 2, 1, 0, 10, 9, 8, 7, 5, 4, 6, 16], [13, 12, 11, 3, 2, 1, 0, 10, 9, 8, 7, 5, 4, 6, 18, 17, 15, 14, 16], [12, 11, 3, 2, 1, 0, 10, 9, 8, 7, 5, 4, 6, 19, 13, 18, 17, 15, 14, 16]] (by decide +kernel) (by decide +kernel) (by decide +kernel) fun K hK => ?_
          simp only [KA, KB, KP, KQ, KM, simprocAttr, KT w, KI, hw.KF, A58, A59, A5a, A5b, A5c, A5d, A5e, A5f, A5g, A5h, KX, Foot.big, A5i, opP, rfoot, refsO, refs, wfoot, A5j, A5k, noisyOk, pairOk, Foot.isQuiet, Foot.apart, Ft.apart, Foot.none, A5l, A5m, A48, A49, A5n, A5o, A5p, A5q, Nat.reduceBEq, htm, t1, t4, t5, t7, gN, gO, g0, hm0, hmS, hlen, hrow', hr10, hr8, hr10t, hr10d, b10, b8, b10t, b10d, ha, hb', hh, nrs, nrs']
          refine hK _ _ ?_
          clear hK
          clear K
          refine ⟨rfl, rfl, _, rfl, ?_⟩
          simp only [KA, KP, KQ, simprocAttr, KT w, KI, hw.KF, htm, t1, t3, t4, t5, t7]
        · obtain rfl : bb = false := bfalse hbb (fun h => hb' h.2.1 : ¬ (s.refs > 0 ∧ s'.refs > 0 ∧ s.node = s'.node ∧ s.kids = s'.kids))
          refine W_regionD [[], [0], [1, 0], [2, 1, 0], [3, 2, 1, 0], [4, 3, 2, 1, 0], [3, 2, 1, 0], [5, 4, 3, 2, 1, 0, 6], [7, 5, 4, 3, 2, 1, 0, 6], [8, 7, 5, 4, 3, 2, 1, 0, 6], [9, 8, 7, 5, 4, 3, 2, 1, 0, 6], [3, 2, 1, 0, 10, 9, 8, 7, 5, 4, 6], [11, 3, 2, 1, 0, 10, 9, 8, 7, 5, 4, 6], [12, 11, 3, 2, 1, 0, 10, 9, 8, 7, 5, 4, 6], [12, 11, 3, 2, 1, 0, 10, 9, 8, 7, 5, 4, 6], [14, 12, 11, 3, 2, 1, 0, 10, 9, 8, 7, 5, 4, 6], [12, 11, 3, 2, 1, 0, 10, 9, 8, 7, 5, 4, 6], [15, 14, 12, 11, 3, 2, 1, 0, 10, 9, 8, 7, 5, 4, 6, 16], [17, 15, 14, 12, 11, 3, 2, 1, 0, 10, 9, 8, 7, 5, 4, 6, 16], [13, 12, 11, 3, 2, 1, 0, 10, 9, 8, 7, 5, 4, 6, 18, 17, 15, 14, 16], [12, 11, 3, 2, 1, 0, 10, 9, 8, 7, 5, 4, 6, 19, 13, 18, 17, 15, 14, 16]] (by decide +kernel) (by decide +kernel) (by decide +kernel) fun K hK => ?_
          simp only [KA, KB, KP, KQ, KM, simprocAttr, KT w, KI, hw.KF, A58, A59, A5a, A5b, A5c, A5d, A5e, A5f, A5g, A5h, KX, Foot.big, A5i, opP, rfoot, refsO, refs, wfoot, A5j, A5k, noisyOk, pairOk, Foot.isQuiet, Foot.apart, Ft.apart, Foot.none, A5l, A5m, A48, A49, A5n, A5o, A5p, A5q, Nat.reduceBEq, htm, t1, t4, t5, t7, gN, gO, g0, hm0, hmS, hlen, hrow', hr10, hr8, b10, b8, ha, hb']
          refine hK _ _ ?_
          clear hK
          clear K
          refine ⟨rfl, rfl, _, rfl, ?_⟩
          simp only [KA, KP, KQ, simprocAttr, KT w, KI, hw.KF, htm, t1, t3, t4, t5, t7]
      · obtain rfl : bb = false := bfalse hbb (fun h => ha h.1 : ¬ (s.refs > 0 ∧ s'.refs > 0 ∧ s.node = s'.node ∧ s.kids = s'.kids))
        refine W_regionD [[], [0], [1, 0], [2, 1, 0], [3, 2, 1, 0], [4, 3, 2, 1, 0], [3, 2, 1, 0], [5, 4, 3, 2, 1, 0, 6], [7, 5, 4, 3, 2, 1, 0, 6], [8, 7, 5, 4, 3, 2, 1, 0, 6], [9, 8, 7, 5, 4, 3, 2, 1, 0, 6], [3, 2, 1, 0, 10, 9, 8, 7, 5, 4, 6], [11, 3, 2, 1, 0, 10, 9, 8, 7, 5, 4, 6], [12, 11, 3, 2, 1, 0, 10, 9, 8, 7, 5, 4, 6], [12, 11, 3, 2, 1, 0, 10, 9, 8, 7, 5, 4, 6], [14, 12, 11, 3, 2, 1, 0, 10, 9, 8, 7, 5, 4, 6], [12, 11, 3, 2, 1, 0, 10, 9, 8, 7, 5, 4, 6], [15, 14, 12, 11, 3, 2, 1, 0, 10, 9, 8, 7, 5, 4, 6, 16], [17, 15, 14, 12, 11, 3, 2, 1, 0, 10, 9, 8, 7, 5, 4, 6, 16], [13, 12, 11, 3, 2, 1, 0, 10, 9, 8, 7, 5, 4, 6, 18, 17, 15, 14, 16], [12, 11, 3, 2, 1, 0, 10, 9, 8, 7, 5, 4, 6, 19, 13, 18, 17, 15, 14, 16]] (by decide +kernel) (by decide +kernel) (by decide +kernel) fun K hK => ?_
        simp only [KA, KB, KP, KQ, KM, simprocAttr, KT w, KI, hw.KF, A58, A59, A5a, A5b, A5c, A5d, A5e, A5f, A5g, A5h, KX, Foot.big, A5i, opP, rfoot, refsO, refs, wfoot, A5j, A5k, noisyOk, pairOk, Foot.isQuiet, Foot.apart, Ft.apart, Foot.none, A5l, A5m, A48, A49, A5n, A5o, A5p, A5q, Nat.reduceBEq, htm, t1, t4, t5, t7, gN, gO, g0, hm0, hmS, hlen, hrow', hr10, hr8, b10, b8, ha]
        refine hK _ _ ?_
        clear hK
        clear K
        refine ⟨rfl, rfl, _, rfl, ?_⟩
        simp only [KA, KP, KQ, simprocAttr, KT w, KI, hw.KF, htm, t1, t3, t4, t5, t7]
    clear htm t1 t3 t4 t5 t7 tm
    rintro ex fr S' ⟨rfl, rfl, tm, rfl, htm, t1, t3, t4, t5, t7, t128⟩
    repeat with_reducible (first | apply E0 | apply E1 | apply E2 | apply E3 | apply E4 | refine E5 (by decide) ?_ | apply E6 | apply E7 | apply E8 | apply E9 | apply Ea | apply Eb | apply Ec | apply Ed)
    by_cases hbd : s.refs > 0 ∧ s'.refs > 0 ∧ s.node = s'.node ∧ s.kids = s'.kids
    · obtain rfl : bb = true := hbb.2 hbd
      refine W_condT (by simp only [KA, KP, KQ, simprocAttr, KT w, KI, hw.KF, t128]) ?_
      repeat with_reducible (first | apply E0 | apply E1 | apply E2 | apply E3 | apply E4 | refine E5 (by decide) ?_ | apply E6 | apply E7 | apply E8 | apply E9 | apply Ea | apply Eb | apply Ec | apply Ed)
      refine W_region fun K hK => ?_
      simp only [KA, KB, KP, KQ, KM, simprocAttr, KT w, KI, hw.KF, htm]
      refine hK _ _ ?_
      clear hK
      clear K
      repeat with_reducible (first | apply E0 | apply E1 | apply E2 | apply E3 | apply E4 | refine E5 (by decide) ?_ | apply E6 | apply E7 | apply E8 | apply E9 | apply Ea | apply Eb | apply Ec | apply Ed)
      refine AtEnd_of rfl ?_
      simp only [KA, KP, KQ, simprocAttr, KT w, KI, hw.KF, htm, RS_some, aresults_nil, aresults_tmp, aresults_cell, one]
      rw [no (bad5 i m s s' hsi hs' (by omega) hbd.1 hbd.2.1 hbd.2.2)]
      exact FZ_bool
    obtain rfl : bb = false := bfalse hbb hbd
    refine W_condF (by simp only [KA, KP, KQ, simprocAttr, KT w, KI, hw.KF, t128]) ?_
    repeat with_reducible (first | apply E0 | apply E1 | apply E2 | apply E3 | apply E4 | refine E5 (by decide) ?_ | apply E6 | apply E7 | apply E8 | apply E9 | apply Ea | apply Eb | apply Ec | apply Ed)
    refine W_region fun K hK => ?_
    simp only [KA, KB, KP, KQ, KM, simprocAttr, KT w, KI, hw.KF, htm, t7, e2]
    refine hK _ _ ?_
    clear hK
    clear K
    refine ⟨i - (m + 1), by omega, _, m + 1, rfl, rfl, rfl, by omega, fun j s2 hj hs2 => ?_, ?_⟩
    · by_cases e : j < m
      · exact hap j s2 e hs2
      · have : j = m := by omega
        subst this
        rw [hs'] at hs2; cases hs2
        exact fun a b c => hbd ⟨a, b, c⟩
    · simp only [KA, KP, KQ, simprocAttr, KT w, KI, hw.KF, htm, t1, t3, t4, t5, Int.natCast_add, A3z]
  obtain ⟨q, hq⟩ := get_of_lt (l := s.kids) (i := k) (by omega)
  have hqm := List.mem_of_getElem? hq
  have hkq := ints_get' hq
  have hk0 : ¬ (k : Int) < 0 := by omega
  have e2 : IntKind.i64.wrap ((k : Int) + 1) = (k : Int) + 1 := i64_in _ (by omega)
  have htk : s.kids.take (k + 1) = s.kids.take k ++ [q] := by rw [List.take_add_one, hq]; rfl
  refine W_region fun K hK => ?_
  simp only [KA, KB, KP, KQ, KM, simprocAttr, KT w, KI, hw.KF, htm, t5, t6, gN, hr10, hr77, kln, hkk]
  refine hK _ _ ?_
  clear hK
  clear K
  repeat with_reducible (first | apply E0 | apply E1 | apply E2 | apply E3 | apply E4 | refine E5 (by decide) ?_ | apply E6 | apply E7 | apply E8 | apply E9 | apply Ea | apply Eb | apply Ec | apply Ed)
  refine W_condT (by simp only [KA, KP, KQ, simprocAttr, KT w, KI, hw.KF, htm]) ?_
  repeat with_reducible (first | apply E0 | apply E1 | apply E2 | apply E3 | apply E4 | refine E5 (by decide) ?_ | apply E6 | apply E7 | apply E8 | apply E9 | apply Ea | apply Eb | apply Ec | apply Ed)
  try clear hbb
  obtain ⟨bb, hbb⟩ : ∃ b : Bool, b = true ↔ ¬ KidP SL q := ⟨decide (¬ KidP SL q), by simp⟩
  refine W.mono (Q := fun ex fr S' => ex = .nrm ∧ S' = T.push (.row SR false) ∧ ∃ tm, fr = ⟨tm, [], none, 29⟩ ∧ tm.length = 172 ∧ tget tm 1 = .ptr 0 0 ∧ tget tm 3 = .int .i64 (SL.length : Nat) ∧ tget tm 4 = .int .i64 (i : Nat) ∧ tget tm 5 = .ptr TN 0 ∧ tget tm 6 = .int .i64 (k : Nat) ∧ tget tm 102 = .bool bb) ?_ ?_
  · by_cases q1 : q < 0
    · obtain rfl : bb = true := hbb.2 (fun h => by have := (kp q h).1; omega)
      refine W_regionD [[], [0], [], [1, 0, 2], [3, 1, 0, 2], [4, 3, 1, 0, 2], [5, 4, 3, 1, 0, 2], [6, 5, 4, 3, 1, 0, 2], [7, 6, 5, 4, 3, 1, 0, 2], [6, 5, 4, 3, 1, 0, 2], [8, 7, 6, 5, 4, 3, 1, 0, 2, 9], [10, 8, 7, 6, 5, 4, 3, 1, 0, 2, 9], [6, 5, 4, 3, 1, 0, 2], [11, 10, 8, 7, 6, 5, 4, 3, 1, 0, 2, 9, 12], [6, 5, 4, 3, 1, 0, 2, 13, 11, 10, 8, 7, 9, 12], [14, 6, 5, 4, 3, 1, 0, 2, 13, 11, 10, 8, 7, 9, 12], [15, 14, 6, 5, 4, 3, 1, 0, 2, 13, 11, 10, 8, 7, 9, 12], [16, 15, 14, 6, 5, 4, 3, 1, 0, 2, 13, 11, 10, 8, 7, 9, 12], [15, 14, 6, 5, 4, 3, 1, 0, 2, 13, 11, 10, 8, 7, 9, 12], [18, 15, 14, 6, 5, 4, 3, 1, 0, 2, 13, 11, 10, 8, 7, 9, 12], [15, 14, 6, 5, 4, 3, 1, 0, 2, 13, 11, 10, 8, 7, 9, 12], [19, 18, 15, 14, 6, 5, 4, 3, 1, 0, 2, 13, 11, 10, 8, 7, 9, 12, 20], [21, 19, 18, 15, 14, 6, 5, 4, 3, 1, 0, 2, 13, 11, 10, 8, 7, 9, 12, 20], [17, 16, 15, 14, 6, 5, 4, 3, 1, 0, 2, 13, 11, 10, 8, 7, 9, 12, 22, 21, 19, 18, 20], [23, 17, 16, 15, 14, 6, 5, 4, 3, 1, 0, 2, 13, 11, 10, 8, 7, 9, 12, 22, 21, 19, 18, 20], [24, 23, 17, 16, 15, 14, 6, 5, 4, 3, 1, 0, 2, 13, 11, 10, 8, 7, 9, 12, 22, 21, 19, 18, 20], [25, 24, 23, 17, 16, 15, 14, 6, 5, 4, 3, 1, 0, 2, 13, 11, 10, 8, 7, 9, 12, 22, 21, 19, 18, 20], [15, 14, 6, 5, 4, 3, 1, 0, 2, 13, 11, 10, 8, 7, 9, 12, 26, 25, 24, 23, 17, 16, 22, 21, 19, 18, 20]] (by decide +kernel) (by decide +kernel) (by decide +kernel) fun K hK => ?_
      simp only [KA, KB, KP, KQ, KM, simprocAttr, KT w, KI, hw.KF, A58, A59, A5a, A5b, A5c, A5d, A5e, A5f, A5g, A5h, KX, Foot.big, A5i, opP, rfoot, refsO, refs, wfoot, A5j, A5k, noisyOk, pairOk, Foot.isQuiet, Foot.apart, Ft.apart, Foot.none, A5l, A5m, A48, A49, A5n, A5o, A5p, A5q, Nat.reduceBEq, htm, t1, t3, t5, t6, gN, gO, g0, hr10, hr77, kln, hk0, hkk, hkq, q1]
      refine hK _ _ ?_
      clear hK
      clear K
      refine ⟨rfl, rfl, _, rfl, ?_⟩
      simp only [KA, KP, KQ, simprocAttr, KT w, KI, hw.KF, htm, t1, t3, t4, t5, t6]
    by_cases q2 : q ≥ (SL.length : Int)
    · obtain rfl : bb = true := hbb.2 (fun h => by have := (kp q h).2; omega)
      refine W_regionD [[], [0], [], [1, 0, 2], [3, 1, 0, 2], [4, 3, 1, 0, 2], [5, 4, 3, 1, 0, 2], [6, 5, 4, 3, 1, 0, 2], [7, 6, 5, 4, 3, 1, 0, 2], [6, 5, 4, 3, 1, 0, 2], [8, 7, 6, 5, 4, 3, 1, 0, 2, 9], [10, 8, 7, 6, 5, 4, 3, 1, 0, 2, 9], [6, 5, 4, 3, 1, 0, 2], [11, 10, 8, 7, 6, 5, 4, 3, 1, 0, 2, 9, 12], [6, 5, 4, 3, 1, 0, 2, 13, 11, 10, 8, 7, 9, 12], [14, 6, 5, 4, 3, 1, 0, 2, 13, 11, 10, 8, 7, 9, 12], [15, 14, 6, 5, 4, 3, 1, 0, 2, 13, 11, 10, 8, 7, 9, 12], [16, 15, 14, 6, 5, 4, 3, 1, 0, 2, 13, 11, 10, 8, 7, 9, 12], [15, 14, 6, 5, 4, 3, 1, 0, 2, 13, 11, 10, 8, 7, 9, 12], [18, 15, 14, 6, 5, 4, 3, 1, 0, 2, 13, 11, 10, 8, 7, 9, 12], [15, 14, 6, 5, 4, 3, 1, 0, 2, 13, 11, 10, 8, 7, 9, 12], [19, 18, 15, 14, 6, 5, 4, 3, 1, 0, 2, 13, 11, 10, 8, 7, 9, 12, 20], [21, 19, 18, 15, 14, 6, 5, 4, 3, 1, 0, 2, 13, 11, 10, 8, 7, 9, 12, 20], [17, 16, 15, 14, 6, 5, 4, 3, 1, 0, 2, 13, 11, 10, 8, 7, 9, 12, 22, 21, 19, 18, 20], [23, 17, 16, 15, 14, 6, 5, 4, 3, 1, 0, 2, 13, 11, 10, 8, 7, 9, 12, 22, 21, 19, 18, 20], [24, 23, 17, 16, 15, 14, 6, 5, 4, 3, 1, 0, 2, 13, 11, 10, 8, 7, 9, 12, 22, 21, 19, 18, 20], [25, 24, 23, 17, 16, 15, 14, 6, 5, 4, 3, 1, 0, 2, 13, 11, 10, 8, 7, 9, 12, 22, 21, 19, 18, 20], [15, 14, 6, 5, 4, 3, 1, 0, 2, 13, 11, 10, 8, 7, 9, 12, 26, 25, 24, 23, 17, 16, 22, 21, 19, 18, 20]] (by decide +kernel) (by decide +kernel) (by decide +kernel) fun K hK => ?_
      simp only [KA, KB, KP, KQ, KM, simprocAttr, KT w, KI, hw.KF, A58, A59, A5a, A5b, A5c, A5d, A5e, A5f, A5g, A5h, KX, Foot.big, A5i, opP, rfoot, refsO, refs, wfoot, A5j, A5k, noisyOk, pairOk, Foot.isQuiet, Foot.apart, Ft.apart, Foot.none, A5l, A5m, A48, A49, A5n, A5o, A5p, A5q, Nat.reduceBEq, htm, t1, t3, t5, t6, gN, gO, g0, hr10, hr77, kln, hk0, hkk, hkq, q1, q2]
      refine hK _ _ ?_
      clear hK
      clear K
      refine ⟨rfl, rfl, _, rfl, ?_⟩
      simp only [KA, KP, KQ, simprocAttr, KT w, KI, hw.KF, htm, t1, t3, t4, t5, t6]
    have q3 : q < (SL.length : Int) := by omega
    have q0 : 0 ≤ q := by omega
    obtain ⟨s', hs'⟩ := get_of_lt (l := SL) (i := q.toNat) (by omega)
    have hrow' : (SL.map RSl.row)[q.toNat]? = some s'.row := by rw [List.getElem?_map, hs']; rfl
    have b10 := s'.row_len
    have b8 := s'.row8
    generalize s'.row = SR' at *
    by_cases q4 : s'.refs = 0
    · obtain rfl : bb = true := hbb.2 (fun ⟨_, s2, h1, h2⟩ => by rw [hs'] at h1; cases h1; exact h2 q4)
      rw [q4] at b8
      refine W_regionD [[], [0], [], [1, 0, 2], [3, 1, 0, 2], [4, 3, 1, 0, 2], [5, 4, 3, 1, 0, 2], [6, 5, 4, 3, 1, 0, 2], [7, 6, 5, 4, 3, 1, 0, 2], [6, 5, 4, 3, 1, 0, 2], [8, 7, 6, 5, 4, 3, 1, 0, 2, 9], [10, 8, 7, 6, 5, 4, 3, 1, 0, 2, 9], [6, 5, 4, 3, 1, 0, 2], [11, 10, 8, 7, 6, 5, 4, 3, 1, 0, 2, 9, 12], [6, 5, 4, 3, 1, 0, 2, 13, 11, 10, 8, 7, 9, 12], [14, 6, 5, 4, 3, 1, 0, 2, 13, 11, 10, 8, 7, 9, 12], [15, 14, 6, 5, 4, 3, 1, 0, 2, 13, 11, 10, 8, 7, 9, 12], [16, 15, 14, 6, 5, 4, 3, 1, 0, 2, 13, 11, 10, 8, 7, 9, 12], [15, 14, 6, 5, 4, 3, 1, 0, 2, 13, 11, 10, 8, 7, 9, 12], [18, 15, 14, 6, 5, 4, 3, 1, 0, 2, 13, 11, 10, 8, 7, 9, 12], [15, 14, 6, 5, 4, 3, 1, 0, 2, 13, 11, 10, 8, 7, 9, 12], [19, 18, 15, 14, 6, 5, 4, 3, 1, 0, 2, 13, 11, 10, 8, 7, 9, 12, 20], [21, 19, 18, 15, 14, 6, 5, 4, 3, 1, 0, 2, 13, 11, 10, 8, 7, 9, 12, 20], [17, 16, 15, 14, 6, 5, 4, 3, 1, 0, 2, 13, 11, 10, 8, 7, 9, 12, 22, 21, 19, 18, 20], [23, 17, 16, 15, 14, 6, 5, 4, 3, 1, 0, 2, 13, 11, 10, 8, 7, 9, 12, 22, 21, 19, 18, 20], [24, 23, 17, 16, 15, 14, 6, 5, 4, 3, 1, 0, 2, 13, 11, 10, 8, 7, 9, 12, 22, 21, 19, 18, 20], [25, 24, 23, 17, 16, 15, 14, 6, 5, 4, 3, 1, 0, 2, 13, 11, 10, 8, 7, 9, 12, 22, 21, 19, 18, 20], [15, 14, 6, 5, 4, 3, 1, 0, 2, 13, 11, 10, 8, 7, 9, 12, 26, 25, 24, 23, 17, 16, 22, 21, 19, 18, 20]] (by decide +kernel) (by decide +kernel) (by decide +kernel) fun K hK => ?_
      simp only [KA, KB, KP, KQ, KM, simprocAttr, KT w, KI, hw.KF, A58, A59, A5a, A5b, A5c, A5d, A5e, A5f, A5g, A5h, KX, Foot.big, A5i, opP, rfoot, refsO, refs, wfoot, A5j, A5k, noisyOk, pairOk, Foot.isQuiet, Foot.apart, Ft.apart, Foot.none, A5l, A5m, A48, A49, A5n, A5o, A5p, A5q, Nat.reduceBEq, htm, t1, t3, t5, t6, gN, gO, g0, hr10, hr77, kln, hk0, hkk, hkq, q0, q1, q2, q3, hrow', b10, b8, hlen]
      refine hK _ _ ?_
      clear hK
      clear K
      refine ⟨rfl, rfl, _, rfl, ?_⟩
      simp only [KA, KP, KQ, simprocAttr, KT w, KI, hw.KF, htm, t1, t3, t4, t5, t6]
    · obtain rfl : bb = false := bfalse hbb (fun h => h ⟨q0, s', hs', q4⟩ : ¬ ¬ KidP SL q)
      refine W_regionD [[], [0], [], [1, 0, 2], [3, 1, 0, 2], [4, 3, 1, 0, 2], [5, 4, 3, 1, 0, 2], [6, 5, 4, 3, 1, 0, 2], [7, 6, 5, 4, 3, 1, 0, 2], [6, 5, 4, 3, 1, 0, 2], [8, 7, 6, 5, 4, 3, 1, 0, 2, 9], [10, 8, 7, 6, 5, 4, 3, 1, 0, 2, 9], [6, 5, 4, 3, 1, 0, 2], [11, 10, 8, 7, 6, 5, 4, 3, 1, 0, 2, 9, 12], [6, 5, 4, 3, 1, 0, 2, 13, 11, 10, 8, 7, 9, 12], [14, 6, 5, 4, 3, 1, 0, 2, 13, 11, 10, 8, 7, 9, 12], [15, 14, 6, 5, 4, 3, 1, 0, 2, 13, 11, 10, 8, 7, 9, 12], [16, 15, 14, 6, 5, 4, 3, 1, 0, 2, 13, 11, 10, 8, 7, 9, 12], [15, 14, 6, 5, 4, 3, 1, 0, 2, 13, 11, 10, 8, 7, 9, 12], [18, 15, 14, 6, 5, 4, 3, 1, 0, 2, 13, 11, 10, 8, 7, 9, 12], [15, 14, 6, 5, 4, 3, 1, 0, 2, 13, 11, 10, 8, 7, 9, 12], [19, 18, 15, 14, 6, 5, 4, 3, 1, 0, 2, 13, 11, 10, 8, 7, 9, 12, 20], [21, 19, 18, 15, 14, 6, 5, 4, 3, 1, 0, 2, 13, 11, 10, 8, 7, 9, 12, 20], [17, 16, 15, 14, 6, 5, 4, 3, 1, 0, 2, 13, 11, 10, 8, 7, 9, 12, 22, 21, 19, 18, 20], [23, 17, 16, 15, 14, 6, 5, 4, 3, 1, 0, 2, 13, 11, 10, 8, 7, 9, 12, 22, 21, 19, 18, 20], [24, 23, 17, 16, 15, 14, 6, 5, 4, 3, 1, 0, 2, 13, 11, 10, 8, 7, 9, 12, 22, 21, 19, 18, 20], [25, 24, 23, 17, 16, 15, 14, 6, 5, 4, 3, 1, 0, 2, 13, 11, 10, 8, 7, 9, 12, 22, 21, 19, 18, 20], [15, 14, 6, 5, 4, 3, 1, 0, 2, 13, 11, 10, 8, 7, 9, 12, 26, 25, 24, 23, 17, 16, 22, 21, 19, 18, 20]] (by decide +kernel) (by decide +kernel) (by decide +kernel) fun K hK => ?_
      simp only [KA, KB, KP, KQ, KM, simprocAttr, KT w, KI, hw.KF, A58, A59, A5a, A5b, A5c, A5d, A5e, A5f, A5g, A5h, KX, Foot.big, A5i, opP, rfoot, refsO, refs, wfoot, A5j, A5k, noisyOk, pairOk, Foot.isQuiet, Foot.apart, Ft.apart, Foot.none, A5l, A5m, A48, A49, A5n, A5o, A5p, A5q, Nat.reduceBEq, htm, t1, t3, t5, t6, gN, gO, g0, hr10, hr77, kln, hk0, hkk, hkq, q0, q1, q2, q3, hrow', b10, b8, q4, hlen]
      refine hK _ _ ?_
      clear hK
      clear K
      refine ⟨rfl, rfl, _, rfl, ?_⟩
      simp only [KA, KP, KQ, simprocAttr, KT w, KI, hw.KF, htm, t1, t3, t4, t5, t6]
  clear htm t1 t3 t4 t5 t6 tm
  rintro ex fr S' ⟨rfl, rfl, tm, rfl, htm, t1, t3, t4, t5, t6, t102⟩
  repeat with_reducible (first | apply E0 | apply E1 | apply E2 | apply E3 | apply E4 | refine E5 (by decide) ?_ | apply E6 | apply E7 | apply E8 | apply E9 | apply Ea | apply Eb | apply Ec | apply Ed)
  by_cases hK : KidP SL q
  case neg =>
    obtain rfl : bb = true := hbb.2 hK
    refine W_condT (by simp only [KA, KP, KQ, simprocAttr, KT w, KI, hw.KF, t102]) ?_
    repeat with_reducible (first | apply E0 | apply E1 | apply E2 | apply E3 | apply E4 | refine E5 (by decide) ?_ | apply E6 | apply E7 | apply E8 | apply E9 | apply Ea | apply Eb | apply Ec | apply Ed)
    refine W_region fun K hK => ?_
    simp only [KA, KB, KP, KQ, KM, simprocAttr, KT w, KI, hw.KF, htm]
    refine hK _ _ ?_
    clear hK
    clear K
    repeat with_reducible (first | apply E0 | apply E1 | apply E2 | apply E3 | apply E4 | refine E5 (by decide) ?_ | apply E6 | apply E7 | apply E8 | apply E9 | apply Ea | apply Eb | apply Ec | apply Ed)
    refine AtEnd_of rfl ?_
    simp only [KA, KP, KQ, simprocAttr, KT w, KI, hw.KF, htm, RS_some, aresults_nil, aresults_tmp, aresults_cell, one]
    rw [no (bad4 i s q hsi hqm hK)]
    exact FZ_bool
  obtain rfl : bb = false := bfalse hbb (fun h => h hK)
  refine W_condF (by simp only [KA, KP, KQ, simprocAttr, KT w, KI, hw.KF, t102]) ?_
  repeat with_reducible (first | apply E0 | apply E1 | apply E2 | apply E3 | apply E4 | refine E5 (by decide) ?_ | apply E6 | apply E7 | apply E8 | apply E9 | apply Ea | apply Eb | apply Ec | apply Ed)
  refine W_region fun K hK => ?_
  simp only [KA, KB, KP, KQ, KM, simprocAttr, KT w, KI, hw.KF, htm, t6, e2]
  refine hK _ _ ?_
  clear hK
  clear K
  refine ⟨s.kids.length - (k + 1), by omega, _, k + 1, rfl, rfl, rfl, by omega, fun x hx => ?_, ?_⟩
  · rw [htk] at hx
    rcases List.mem_append.1 hx with h | h
    · exact hkd x h
    · rw [List.mem_singleton] at h; subst h; exact hK
  · simp only [KA, KP, KQ, simprocAttr, KT w, KI, hw.KF, htm, t1, t3, t4, t5, Int.natCast_add, A3z]
end Go.Am.R
