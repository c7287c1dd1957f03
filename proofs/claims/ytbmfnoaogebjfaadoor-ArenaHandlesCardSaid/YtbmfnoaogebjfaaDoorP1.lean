/- AN ARENA PLAINLY: counting. -/
import Derived.Test.YtbmfnoaogebjfaaDoorP0
set_option linter.unusedSimpArgs false
set_option linter.unusedVariables false
namespace Go.Am.R

theorem map_modify {α β : Type} (g : α → β) (f : α → α) (h : ∀ a, g (f a) = g a) : ∀ (S : List α) (i : Nat), (S.modify i f).map g = S.map g
  | [], i => by simp
  | a :: S, 0 => by simp [h]
  | a :: S, i + 1 => by simp [map_modify g f h S i]

theorem cnt_modify (f : Sl → Sl) (h : ∀ s, (f s).kids = s.kids) (S : List Sl) (i j : Nat) : cnt (S.modify i f) j = cnt S j := by
  unfold cnt
  rw [map_modify _ f (fun a => by rw [h])]
theorem cnt_set : ∀ (S : List Sl) (i j : Nat) (s s' : Sl), S[i]? = some s → cnt (S.set i s') j + s.kids.count j = cnt S j + s'.kids.count j
  | [], i, j, s, s', h => by simp at h
  | a :: S, 0, j, s, s', h => by
    simp at h; subst h
    simp only [cnt, List.set_cons_zero, List.map_cons, List.sum_cons]
    omega
  | a :: S, i + 1, j, s, s', h => by
    have ih := cnt_set S i j s s' (by simpa using h)
    simp only [cnt, List.set_cons_succ, List.map_cons, List.sum_cons] at ih ⊢
    omega
theorem cnt_snoc (S : List Sl) (s : Sl) (j : Nat) : cnt (S ++ [s]) j = cnt S j + s.kids.count j := by
  simp [cnt]
theorem cnt_pos {S : List Sl} {i j : Nat} {s : Sl} (h : S[i]? = some s) (hj : j ∈ s.kids) : 1 ≤ cnt S j := by
  have h1 : 1 ≤ s.kids.count j := List.one_le_count_iff.2 hj
  have h2 := cnt_set S i j s ⟨s.fs, [], s.refs, s.next⟩ h
  simp at h2
  omega
theorem cnt_zero {S : List Sl} {j : Nat} (h : ∀ (i : Nat) (s : Sl), S[i]? = some s → j ∉ s.kids) : cnt S j = 0 := by
  unfold cnt
  induction S with
  | nil => rfl
  | cons a S ih =>
    simp only [List.map_cons, List.sum_cons]
    rw [ih (fun i s hs => h (i + 1) s (by simpa using hs)), List.count_eq_zero.2 (h 0 a rfl)]

theorem cnt_refS (S : List Sl) (i j : Nat) : cnt (refS S i) j = cnt S j := cnt_modify (fun s => { s with refs := max s.refs 0 + 1 }) (fun s => rfl) S i j
theorem cnt_decS (S : List Sl) (i j : Nat) : cnt (decS S i) j = cnt S j := cnt_modify (fun s => { s with refs := s.refs - 1 }) (fun s => rfl) S i j
theorem refS_get (S : List Sl) (i j : Nat) : (refS S i)[j]? = (S[j]?).map fun s => if i = j then { s with refs := max s.refs 0 + 1 } else s := by
  unfold refS
  rw [List.getElem?_modify]
  rfl
theorem decS_get (S : List Sl) (i j : Nat) : (decS S i)[j]? = (S[j]?).map fun s => if i = j then { s with refs := s.refs - 1 } else s := by
  unfold decS
  rw [List.getElem?_modify]
  rfl
theorem refL_get (l : List Nat) : ∀ (S : List Sl) (j : Nat), (l.foldl refS S)[j]? = (S[j]?).map fun s => if j ∈ l then { s with refs := max s.refs 0 + (l.count j : Nat) } else s := by
  induction l with
  | nil => intro S j; simp
  | cons i l ih =>
    intro S j
    rw [List.foldl_cons, ih, refS_get]
    cases hS : S[j]? with
    | none => rfl
    | some s =>
      simp only [Option.map_some, Option.some.injEq, List.mem_cons]
      by_cases hij : i = j
      · subst hij
        by_cases hl : i ∈ l
        · simp only [hl, or_true, ↓reduceIte, List.count_cons_self]
          congr 1
          push_cast
          omega
        · have : l.count i = 0 := List.count_eq_zero.2 hl
          simp only [hl, or_false, ↓reduceIte, List.count_cons_self, this]
          congr 1
      · have hji : ¬ j = i := fun h => hij h.symm
        have hc : (i :: l).count j = l.count j := List.count_cons_of_ne hij
        simp only [hij, hji, ↓reduceIte, false_or, hc]
theorem refL_cnt (l : List Nat) : ∀ (S : List Sl) (j : Nat), cnt (l.foldl refS S) j = cnt S j := by
  induction l with
  | nil => intro S j; rfl
  | cons i l ih =>
    intro S j
    rw [List.foldl_cons, ih]
    exact cnt_refS S i j
theorem refL_len (l : List Nat) : ∀ (S : List Sl), (l.foldl refS S).length = S.length := by
  induction l with
  | nil => intro S; rfl
  | cons i l ih => intro S; rw [List.foldl_cons, ih]; simp [refS]

/-! ### How many are used -/
theorem used_map (S : List Sl) : used S = (S.map fun s => decide (s.refs ≠ 0)).countP id := by
  unfold used
  rw [List.countP_map]
  rfl
theorem used_congr {S S' : List Sl} (h : ∀ j : Nat, (S'[j]?).map (fun s : Sl => decide (s.refs ≠ 0)) = (S[j]?).map fun s : Sl => decide (s.refs ≠ 0)) : used S' = used S := by
  rw [used_map, used_map]
  congr 1
  apply List.ext_getElem?
  intro j
  rw [List.getElem?_map, List.getElem?_map, h]
theorem used_set : ∀ (S : List Sl) (i : Nat) (s s' : Sl), S[i]? = some s → used (S.set i s') + (if s.refs ≠ 0 then 1 else 0) = used S + (if s'.refs ≠ 0 then 1 else 0)
  | [], i, s, s', h => by simp at h
  | a :: S, 0, s, s', h => by
    simp at h; subst h
    simp only [used, List.set_cons_zero, List.countP_cons, decide_eq_true_eq]
    omega
  | a :: S, i + 1, s, s', h => by
    have ih := used_set S i s s' (by simpa using h)
    simp only [used, List.set_cons_succ, List.countP_cons] at ih ⊢
    omega
theorem used_snoc (S : List Sl) (s : Sl) : used (S ++ [s]) = used S + (if s.refs ≠ 0 then 1 else 0) := by
  simp [used, List.countP_append, List.countP_cons]
theorem used_le (S : List Sl) : used S ≤ S.length := List.countP_le_length
theorem used_all {S : List Sl} (h : ∀ (i : Nat) (s : Sl), S[i]? = some s → s.refs ≠ 0) : used S = S.length := by
  unfold used
  rw [List.countP_eq_length]
  intro s hs
  obtain ⟨i, hi⟩ := List.mem_iff_getElem?.1 hs
  simpa using h i s hi

/-! ### Slots and what they refer to -/
theorem isL_mem {S : List Sl} : ∀ (ts : List Tr) (l : List Nat), IsL S l ts → ∀ j ∈ l, ∃ t ∈ ts, Is S j t
  | [], [], _, j, hj => by cases hj
  | [], i :: l, h, _, _ => by simp [IsL] at h
  | t :: ts, [], h, _, _ => by simp [IsL] at h
  | t :: ts, i :: l, h, j, hj => by
    rw [IsL] at h
    rcases List.mem_cons.1 hj with rfl | hj
    · exact ⟨t, List.mem_cons_self, h.1⟩
    · obtain ⟨u, hu, h2⟩ := isL_mem ts l h.2 j hj
      exact ⟨u, List.mem_cons_of_mem _ hu, h2⟩
theorem isL_used {S : List Sl} {ts : List Tr} {l : List Nat} (h : IsL S l ts) {j : Nat} (hj : j ∈ l) : ∃ s, S[j]? = some s ∧ s.refs ≠ 0 := by
  obtain ⟨t, _, ht⟩ := isL_mem ts l h j hj
  exact ht.used
theorem Inv.kid {A : Ar} {p q : List Nat} (h : Inv A p q) {i j : Nat} {s : Sl} (hs : A.slots[i]? = some s) (hj : j ∈ s.kids) : ∃ s', A.slots[j]? = some s' ∧ s'.refs ≠ 0 := by
  by_cases hr : s.refs = 0
  · have := h.zero i s hs hr
    rw [this] at hj; simp [zs] at hj
  · obtain ⟨t, ht⟩ := h.tree i s hs hr
    cases t with
    | mk fs ts =>
      rw [Is] at ht
      obtain ⟨s', a1, a2, a3, a4⟩ := ht
      rw [hs] at a1; cases a1
      exact isL_used a4 hj
theorem Inv.noref {A : Ar} {p q : List Nat} (h : Inv A p q) {j : Nat} (hj : ∀ s, A.slots[j]? = some s → s.refs = 0) : cnt A.slots j = 0 ∧ rcnt A.roots j = 0 := by
  constructor
  · refine cnt_zero fun i s hs hm => ?_
    obtain ⟨s', h1, h2⟩ := h.kid hs hm
    exact h2 (hj s' h1)
  · refine List.count_eq_zero.2 fun hm => ?_
    obtain ⟨s', h1, h2⟩ := h.root j hm
    exact h2 (hj s' h1)

theorem Chain.congr {S S' : List Sl} {o : Option Nat} {l : List Nat} (h : Chain S o l) (hc : ∀ j ∈ l, S'[j]? = S[j]?) : Chain S' o l := by
  induction h with
  | nil => exact .nil
  | cons h1 h2 ih => exact .cons (by rw [hc _ List.mem_cons_self]; exact h1) (ih fun j hj => hc j (List.mem_cons_of_mem _ hj))

theorem look_some {S : List Sl} {K : Key} {i : Nat} (h : look S K = some i) : ∃ s, S[i]? = some s ∧ s.refs ≠ 0 ∧ s.key = K := by
  unfold look at h
  rw [List.findIdx?_eq_some_iff_getElem] at h
  obtain ⟨hi, hp, _⟩ := h
  simp only [Bool.and_eq_true, decide_eq_true_eq] at hp
  exact ⟨_, List.getElem?_eq_getElem hi, hp.1, hp.2⟩
theorem look_none {S : List Sl} {K : Key} (h : look S K = none) : ∀ (i : Nat) (s : Sl), S[i]? = some s → s.refs ≠ 0 → s.key ≠ K := by
  unfold look at h
  rw [List.findIdx?_eq_none_iff] at h
  intro i s hs hr hk
  have := h s (List.mem_of_getElem? hs)
  simp [hr, hk] at this
end Go.Am.R
