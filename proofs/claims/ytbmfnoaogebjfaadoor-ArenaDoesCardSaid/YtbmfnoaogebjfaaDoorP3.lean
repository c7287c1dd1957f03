/- AN ARENA PLAINLY: releasing. -/
import Derived.Test.YtbmfnoaogebjfaaDoorPa
set_option linter.unusedSimpArgs false
set_option linter.unusedVariables false
namespace Go.Am.R

theorem rcnt_snoc (r : List (Option Nat)) (o : Option Nat) (j : Nat) : rcnt (r ++ [o]) j = rcnt r j + (if o = some j then 1 else 0) := by
  simp [rcnt, List.count_append, List.count_cons]
theorem rcnt_set : ∀ (r : List (Option Nat)) (h i j : Nat), r[h]? = some (some i) → rcnt (r.set h none) j + (if i = j then 1 else 0) = rcnt r j
  | [], h, i, j, e => by simp at e
  | a :: r, 0, i, j, e => by
    simp at e; subst e
    simp only [rcnt, List.set_cons_zero, List.count_cons]
    by_cases hij : i = j <;> simp [hij]
  | a :: r, h + 1, i, j, e => by
    have ih := rcnt_set r h i j (by simpa using e)
    simp only [rcnt, List.set_cons_succ, List.count_cons] at ih ⊢
    omega

/-- A tree is taken in for good. -/
theorem root_ok {A : Ar} {i : Nat} (h : Inv A [i] []) (hi : ∃ s, A.slots[i]? = some s ∧ s.refs ≠ 0) : Inv ⟨refS A.slots i, A.free, A.roots ++ [some i]⟩ [] [] ∧ Le A.slots (refS A.slots i) := by
  obtain ⟨si, hsi, hri⟩ := hi
  have gj := refS_get A.slots i
  have hc : ∀ j, cnt (refS A.slots i) j = cnt A.slots j := fun j => cnt_refS _ _ _
  have back : ∀ (j : Nat) (s' : Sl), (refS A.slots i)[j]? = some s' → ∃ s, A.slots[j]? = some s ∧ s'.fs = s.fs ∧ s'.kids = s.kids ∧ s'.next = s.next ∧ (s'.refs = if i = j then max s.refs 0 + 1 else s.refs) := fun j s' hs => by
    rw [gj, Option.map_eq_some_iff] at hs
    obtain ⟨s, h1, rfl⟩ := hs
    refine ⟨s, h1, ?_⟩
    split <;> simp
  have bu : ∀ (j : Nat) (s' : Sl), (refS A.slots i)[j]? = some s' → s'.refs ≠ 0 → ∃ s, A.slots[j]? = some s ∧ s'.fs = s.fs ∧ s'.kids = s.kids ∧ s'.next = s.next ∧ s.refs ≠ 0 := fun j s' hs hr => by
    obtain ⟨s, h1, h2, h3, h4, h5⟩ := back j s' hs
    refine ⟨s, h1, h2, h3, h4, ?_⟩
    by_cases hij : i = j
    · subst hij; rw [hsi] at h1; cases h1; exact hri
    · rw [if_neg hij] at h5; rw [← h5]; exact hr
  have hle : Le A.slots (refS A.slots i) := fun j s hs hr => by
    refine ⟨_, by rw [gj, hs]; rfl, ?_, ?_, ?_⟩
    · split
      · simp only; omega
      · exact hr
    · split <;> rfl
    · split <;> rfl
  refine ⟨⟨?_, ?_, ?_, ?_, ?_, ?_, ?_, ?_, by simp, ?_⟩, hle⟩
  · intro a b s s' ha hb hra hrb hkey
    obtain ⟨u, h1, h2, h3, _, h5⟩ := bu a s ha hra
    obtain ⟨v, k1, k2, k3, _, k5⟩ := bu b s' hb hrb
    refine h.apart a b u v h1 k1 h5 k5 ?_
    simp only [Sl.key] at hkey ⊢
    rw [← h2, ← h3, ← k2, ← k3]; exact hkey
  · intro j s hs hr
    obtain ⟨u, h1, h2, h3, _, h5⟩ := bu j s hs hr
    obtain ⟨t, ht⟩ := h.tree j u h1 h5
    exact ⟨t, Is.mono hle t j ht⟩
  · intro j s hs hr
    obtain ⟨u, h1, h2, h3, _, h5⟩ := back j s hs
    obtain ⟨u', q1, _, _, _, q5⟩ := bu j s hs hr
    rw [h1] at q1; cases q1
    have := h.refs j u h1 q5
    simp only [hc, rcnt_snoc, List.count_nil, Nat.add_zero, Option.some.injEq] at this ⊢
    by_cases hij : i = j
    · rw [if_pos hij] at h5 ⊢
      push_cast at this ⊢
      omega
    · rw [if_neg hij] at h5 ⊢
      rw [h5]
      push_cast at this ⊢
      omega
  · intro j s hs hr
    exfalso
    obtain ⟨u, h1, h2, h3, _, h5⟩ := back j s hs
    by_cases hij : i = j
    · rw [if_pos hij] at h5; omega
    · rw [if_neg hij] at h5
      have := (h.neg j u h1 (by omega)).2
      simp at this
      exact hij this.symm
  · intro j s hs hr
    have hs' := hs
    rw [gj, Option.map_eq_some_iff] at hs'
    obtain ⟨u, h1, h2⟩ := hs'
    by_cases hij : i = j
    · rw [if_pos hij] at h2; subst h2; simp only at hr; omega
    · rw [if_neg hij] at h2; subst h2; exact h.zero j u h1 hr
  · intro j s hs hr
    obtain ⟨u, h1, h2, h3, h4, h5⟩ := bu j s hs hr
    rw [h4]; exact h.next j u h1 h5
  · obtain ⟨l, c1, c2, c3⟩ := h.free
    refine ⟨l, c1.congr fun j hj => ?_, c2, fun j => ?_⟩
    · obtain ⟨u, h1, h2⟩ := (c3 j).1 hj
      have hij : ¬ i = j := fun e => by subst e; rw [hsi] at h1; cases h1; exact hri h2
      rw [gj, h1]; simp [hij]
    · rw [c3]
      constructor
      · rintro ⟨u, h1, h2⟩
        have hij : ¬ i = j := fun e => by subst e; rw [hsi] at h1; cases h1; exact hri h2
        exact ⟨u, by rw [gj, h1]; simp [hij], h2⟩
      · rintro ⟨s, h1, h2⟩
        obtain ⟨u, k1, _, _, _, k5⟩ := back j s h1
        by_cases hij : i = j
        · rw [if_pos hij] at k5; omega
        · rw [if_neg hij] at k5; exact ⟨u, k1, by omega⟩
  · intro j hj
    rcases List.mem_append.1 hj with hj | hj
    · obtain ⟨s, h1, h2⟩ := h.root j hj
      obtain ⟨s', k1, k2, _⟩ := hle j s h1 h2
      exact ⟨s', k1, k2⟩
    · simp at hj; subst hj
      obtain ⟨s', k1, k2, _⟩ := hle j si hsi hri
      exact ⟨s', k1, k2⟩
  · simp only [refS, List.length_modify]; exact h.len

/-- A handle is released: its reference is to be taken off. -/
theorem unroot_ok {A : Ar} {h i : Nat} (hA : Inv A [] []) (hr : A.roots[h]? = some (some i)) : Inv ⟨A.slots, A.free, A.roots.set h none⟩ [] [i] := by
  have hm : some i ∈ A.roots := List.mem_of_getElem? hr
  refine ⟨hA.apart, hA.tree, ?_, hA.neg, hA.zero, hA.next, hA.free, ?_, ?_, hA.len⟩
  · intro j s hs hsr
    have h1 := hA.refs j s hs hsr
    have h2 := rcnt_set A.roots h i j hr
    simp only [List.count_nil, Nat.add_zero, List.count_cons, beq_iff_eq, Nat.zero_add] at h1 ⊢
    rw [h1, ← h2]
    push_cast
    omega
  · intro j hj
    refine hA.root j ?_
    obtain ⟨m, hm⟩ := List.mem_iff_getElem?.1 hj
    simp only at hm
    by_cases e : h = m
    · subst e
      rw [List.getElem?_set_self (List.getElem?_eq_some_iff.1 hr).1] at hm
      cases hm
    · rw [List.getElem?_set_ne e] at hm
      exact List.mem_of_getElem? hm
  · intro j hj
    simp at hj; subst hj
    exact hA.root j hm

theorem LessL.append {A B C : Ar} {l m : List Nat} (h : LessL A l B) (k : LessL B m C) : LessL A (l ++ m) C := by
  induction h with
  | nil => exact k
  | keep hs hr h ih => exact .keep hs hr (ih k)
  | gone hs hr hk h ih1 ih2 => exact .gone hs hr hk (ih2 k)
theorem LessL.split {A C : Ar} {r : List Nat} (h : LessL A r C) : ∀ l m, r = l ++ m → ∃ B, LessL A l B ∧ LessL B m C := by
  induction h with
  | nil A =>
    intro l m e
    obtain ⟨rfl, rfl⟩ := List.append_eq_nil_iff.1 e.symm
    exact ⟨A, .nil A, .nil A⟩
  | @keep A i r C s hs hr h ih =>
    intro l m e
    cases l with
    | nil => exact ⟨A, .nil A, by rw [← (show i :: r = m from e)]; exact .keep hs hr h⟩
    | cons a l =>
      simp at e
      obtain ⟨rfl, rfl⟩ := e
      obtain ⟨B, h1, h2⟩ := ih l m rfl
      exact ⟨B, .keep hs hr h1, h2⟩
  | @gone A i r B C s hs hr hk h ih1 ih2 =>
    intro l m e
    cases l with
    | nil => exact ⟨A, .nil A, by rw [← (show i :: r = m from e)]; exact .gone hs hr hk h⟩
    | cons a l =>
      simp at e
      obtain ⟨rfl, rfl⟩ := e
      obtain ⟨D, h1, h2⟩ := ih2 l m rfl
      exact ⟨D, .gone hs hr hk h1, h2⟩

def sumr (S : List Sl) : Nat := (S.map fun s => s.refs.toNat).sum
theorem sumr_set : ∀ (S : List Sl) (i : Nat) (s s' : Sl), S[i]? = some s → sumr (S.set i s') + s.refs.toNat = sumr S + s'.refs.toNat
  | [], i, s, s', h => by simp at h
  | a :: S, 0, s, s', h => by
    simp at h; subst h
    simp only [sumr, List.set_cons_zero, List.map_cons, List.sum_cons]
    omega
  | a :: S, i + 1, s, s', h => by
    have ih := sumr_set S i s s' (by simpa using h)
    simp only [sumr, List.set_cons_succ, List.map_cons, List.sum_cons] at ih ⊢
    omega
theorem dec_set {S : List Sl} {i : Nat} {s : Sl} (h : S[i]? = some s) : decS S i = S.set i { s with refs := s.refs - 1 } := by
  unfold decS
  apply List.ext_getElem?
  intro j
  rw [List.getElem?_modify]
  by_cases hij : i = j
  · subst hij
    rw [List.getElem?_set_self (List.getElem?_eq_some_iff.1 h).1, h]; simp
  · rw [List.getElem?_set_ne hij]; simp [hij]

mutual
theorem Is.without {S S' : List Sl} {i : Nat} (h0 : cnt S i = 0) (hS : ∀ j, j ≠ i → S'[j]? = S[j]?) : ∀ (t : Tr) (j : Nat), j ≠ i → Is S j t → Is S' j t
  | .mk fs ts, j, hj, h => by
    rw [Is] at h ⊢
    obtain ⟨s, a1, a2, a3, a4⟩ := h
    refine ⟨s, by rw [hS j hj]; exact a1, a2, a3, IsL.without h0 hS ts s.kids (fun hm => ?_) a4⟩
    have := cnt_pos a1 hm
    omega
theorem IsL.without {S S' : List Sl} {i : Nat} (h0 : cnt S i = 0) (hS : ∀ j, j ≠ i → S'[j]? = S[j]?) : ∀ (ts : List Tr) (l : List Nat), i ∉ l → IsL S l ts → IsL S' l ts
  | [], [], _, _ => by rw [IsL]; trivial
  | [], i :: l, _, h => by simp [IsL] at h
  | t :: ts, [], _, h => by simp [IsL] at h
  | t :: ts, a :: l, hm, h => by
    rw [IsL] at h ⊢
    simp only [List.mem_cons, not_or] at hm
    exact ⟨Is.without h0 hS t a (Ne.symm hm.1) h.1, IsL.without h0 hS ts l hm.2 h.2⟩
end

theorem less_ok : ∀ (N : Nat) (A : Ar) (q : List Nat), sumr A.slots ≤ N → Inv A [] q → ∃ C, LessL A q C ∧ Inv C [] [] ∧ C.roots = A.roots ∧ Le C.slots A.slots
  | N, A, [], _, h => ⟨A, .nil A, h, rfl, Le.refl _⟩
  | N, A, i :: r, hN, h => by
    obtain ⟨s, hs, hr⟩ := h.more i List.mem_cons_self
    have href := h.refs i s hs hr
    have hnn : ¬ s.refs < 0 := fun hn => by have := (h.neg i s hs hn).2; cases this
    simp only [List.count_cons_self] at href
    have hge : 1 ≤ s.refs := by omega
    have hlt := (List.getElem?_eq_some_iff.1 hs).1
    by_cases h1 : 1 < s.refs
    · have hd := dec_set hs
      have hsum := sumr_set A.slots i s { s with refs := s.refs - 1 } hs
      have gi : (decS A.slots i)[i]? = some { s with refs := s.refs - 1 } := by rw [hd, List.getElem?_set_self hlt]
      have gj : ∀ j, j ≠ i → (decS A.slots i)[j]? = A.slots[j]? := fun j hj => by rw [hd, List.getElem?_set_ne (Ne.symm hj)]
      have bu : ∀ (j : Nat) (s' : Sl), (decS A.slots i)[j]? = some s' → ∃ u, A.slots[j]? = some u ∧ s'.fs = u.fs ∧ s'.kids = u.kids ∧ s'.next = u.next ∧ (s'.refs = 0 ↔ u.refs = 0) ∧ (j ≠ i → s' = u) := fun j s' hs' => by
        by_cases hj : j = i
        · subst hj
          rw [gi] at hs'; cases hs'
          exact ⟨s, hs, rfl, rfl, rfl, (by simp only; omega), fun h => absurd rfl h⟩
        · rw [gj j hj] at hs'
          exact ⟨s', hs', rfl, rfl, rfl, Iff.rfl, fun _ => rfl⟩
      have hle : Le A.slots (decS A.slots i) := fun j u hu hur => by
        by_cases hj : j = i
        · subst hj
          rw [hs] at hu; cases hu
          exact ⟨_, gi, by simp only; omega, rfl, rfl⟩
        · exact ⟨u, by rw [gj j hj]; exact hu, hur, rfl, rfl⟩
      have hle2 : Le (decS A.slots i) A.slots := fun j u hu hur => by
        obtain ⟨v, k1, k2, k3, k4, k5, k6⟩ := bu j u hu
        exact ⟨v, k1, fun e => hur (k5.2 e), k2.symm, k3.symm⟩
      have hI : Inv { A with slots := decS A.slots i } [] r := by
        refine ⟨?_, ?_, ?_, ?_, ?_, ?_, ?_, ?_, ?_, ?_⟩
        · intro a b x y ha hb hra hrb hkey
          obtain ⟨u, a1, a2, a3, a4, a5, _⟩ := bu a x ha
          obtain ⟨v, b1, b2, b3, b4, b5, _⟩ := bu b y hb
          refine h.apart a b u v a1 b1 (fun e => hra (a5.2 e)) (fun e => hrb (b5.2 e)) ?_
          simp only [Sl.key] at hkey ⊢
          rw [← a2, ← a3, ← b2, ← b3]; exact hkey
        · intro j x hx hxr
          obtain ⟨u, a1, a2, a3, a4, a5, _⟩ := bu j x hx
          obtain ⟨t, ht⟩ := h.tree j u a1 (fun e => hxr (a5.2 e))
          exact ⟨t, Is.mono hle t j ht⟩
        · intro j x hx hxr
          have hc : cnt (decS A.slots i) j = cnt A.slots j := cnt_decS _ _ _
          simp only [hc]
          by_cases hj : j = i
          · subst hj
            rw [gi] at hx; cases hx
            simp only
            omega
          · rw [gj j hj] at hx
            have := h.refs j x hx hxr
            rw [List.count_cons_of_ne (Ne.symm hj)] at this
            exact this
        · intro j x hx hxr
          exfalso
          by_cases hj : j = i
          · subst hj
            rw [gi] at hx; cases hx; simp only at hxr; omega
          · rw [gj j hj] at hx
            have := (h.neg j x hx hxr).2; cases this
        · intro j x hx hxr
          have hj : j ≠ i := fun e => by subst e; rw [gi] at hx; cases hx; simp only at hxr; omega
          rw [gj j hj] at hx
          exact h.zero j x hx hxr
        · intro j x hx hxr
          obtain ⟨u, a1, a2, a3, a4, a5, _⟩ := bu j x hx
          rw [a4]; exact h.next j u a1 (fun e => hxr (a5.2 e))
        · obtain ⟨l, c1, c2, c3⟩ := h.free
          have hil : ∀ j ∈ l, j ≠ i := fun j hj e => by
            obtain ⟨u, k1, k2⟩ := (c3 j).1 hj
            rw [e, hs] at k1; cases k1; exact hr k2
          refine ⟨l, c1.congr fun j hj => gj j (hil j hj), c2, fun j => ?_⟩
          rw [c3]
          constructor
          · rintro ⟨u, k1, k2⟩
            have hj : j ≠ i := fun e => by subst e; rw [hs] at k1; cases k1; exact hr k2
            exact ⟨u, by simp only [gj j hj]; exact k1, k2⟩
          · rintro ⟨x, k1, k2⟩
            obtain ⟨u, a1, a2, a3, a4, a5, _⟩ := bu j x k1
            exact ⟨u, a1, a5.1 k2⟩
        · intro j hj
          obtain ⟨u, k1, k2⟩ := h.root j hj
          obtain ⟨v, m1, m2, _⟩ := hle j u k1 k2
          exact ⟨v, m1, m2⟩
        · intro j hj
          obtain ⟨u, k1, k2⟩ := h.more j (List.mem_cons_of_mem _ hj)
          obtain ⟨v, m1, m2, _⟩ := hle j u k1 k2
          exact ⟨v, m1, m2⟩
        · simp only [decS, List.length_modify]; exact h.len
      rw [← hd] at hsum
      simp only at hsum
      cases N with
      | zero => exfalso; omega
      | succ N =>
        obtain ⟨C, c1, c2, c3, c4⟩ := less_ok N _ r (by simp only; omega) hI
        exact ⟨C, .keep hs h1 c1, c2, c3, c4.trans hle2⟩
    · have hr1 : s.refs = 1 := by omega
      have hz : cnt A.slots i = 0 ∧ rcnt A.roots i = 0 ∧ r.count i = 0 := by omega
      have gi : (A.slots.set i (zs A.free))[i]? = some (zs A.free) := List.getElem?_set_self hlt
      have gj : ∀ j, j ≠ i → (A.slots.set i (zs A.free))[j]? = A.slots[j]? := fun j hj => List.getElem?_set_ne (Ne.symm hj)
      have hsum := sumr_set A.slots i s (zs A.free) hs
      have hle2 : Le (A.slots.set i (zs A.free)) A.slots := fun j u hu hur => by
        have hj : j ≠ i := fun e => by subst e; rw [gi] at hu; cases hu; exact hur rfl
        rw [gj j hj] at hu
        exact ⟨u, hu, hur, rfl, rfl⟩
      have hI : Inv (gone A i) [] (s.kids ++ r) := by
        refine ⟨?_, ?_, ?_, ?_, ?_, ?_, ?_, ?_, ?_, ?_⟩
        · intro a b x y ha hb hra hrb hkey
          have hai : a ≠ i := fun e => by subst e; simp only [gone, gi] at ha; cases ha; exact hra rfl
          have hbi : b ≠ i := fun e => by subst e; simp only [gone, gi] at hb; cases hb; exact hrb rfl
          simp only [gone, gj a hai] at ha
          simp only [gone, gj b hbi] at hb
          exact h.apart a b x y ha hb hra hrb hkey
        · intro j x hx hxr
          have hj : j ≠ i := fun e => by subst e; simp only [gone, gi] at hx; cases hx; exact hxr rfl
          simp only [gone, gj j hj] at hx
          obtain ⟨t, ht⟩ := h.tree j x hx hxr
          exact ⟨t, Is.without hz.1 gj t j hj ht⟩
        · intro j x hx hxr
          have hj : j ≠ i := fun e => by subst e; simp only [gone, gi] at hx; cases hx; exact hxr rfl
          simp only [gone, gj j hj] at hx
          have h2 := h.refs j x hx hxr
          have hc := cnt_set A.slots i j s (zs A.free) hs
          rw [List.count_cons_of_ne (Ne.symm hj)] at h2
          simp only [gone, List.count_append]
          simp only [zs, List.count_nil, Nat.add_zero] at hc
          rw [h2]
          simp only [zs]
          push_cast
          omega
        · intro j x hx hxr
          have hj : j ≠ i := fun e => by subst e; simp only [gone, gi] at hx; cases hx; simp [zs] at hxr
          simp only [gone, gj j hj] at hx
          exact h.neg j x hx hxr
        · intro j x hx hxr
          by_cases hj : j = i
          · subst hj; simp only [gone, gi] at hx; cases hx; rfl
          · simp only [gone, gj j hj] at hx
            exact h.zero j x hx hxr
        · intro j x hx hxr
          have hj : j ≠ i := fun e => by subst e; simp only [gone, gi] at hx; cases hx; exact absurd rfl hxr
          simp only [gone, gj j hj] at hx
          exact h.next j x hx hxr
        · obtain ⟨l, c1, c2, c3⟩ := h.free
          have hil : ∀ j ∈ l, j ≠ i := fun j hj e => by
            obtain ⟨u, k1, k2⟩ := (c3 j).1 hj
            rw [e, hs] at k1; cases k1; exact hr k2
          refine ⟨i :: l, .cons (s := zs A.free) gi (c1.congr fun j hj => gj j (hil j hj)), List.nodup_cons.2 ⟨fun hm => hil i hm rfl, c2⟩, fun j => ?_⟩
          rw [List.mem_cons, c3]
          constructor
          · rintro (rfl | ⟨u, k1, k2⟩)
            · exact ⟨_, gi, rfl⟩
            · have hj : j ≠ i := fun e => by subst e; rw [hs] at k1; cases k1; exact hr k2
              exact ⟨u, by simp only [gone, gj j hj]; exact k1, k2⟩
          · rintro ⟨x, k1, k2⟩
            by_cases hj : j = i
            · exact .inl hj
            · simp only [gone, gj j hj] at k1
              exact .inr ⟨x, k1, k2⟩
        · intro j hj
          have hj' : j ≠ i := fun e => by
            subst e
            have := List.count_eq_zero.1 hz.2.1
            exact this hj
          obtain ⟨u, k1, k2⟩ := h.root j hj
          exact ⟨u, by simp only [gone, gj j hj']; exact k1, k2⟩
        · intro j hj
          have hj' : j ≠ i := fun e => by
            subst e
            rcases List.mem_append.1 hj with hm | hm
            · have := cnt_pos hs hm; omega
            · exact List.count_eq_zero.1 hz.2.2 hm
          have hu : ∃ u, A.slots[j]? = some u ∧ u.refs ≠ 0 := by
            rcases List.mem_append.1 hj with hm | hm
            · exact h.kid hs hm
            · exact h.more j (List.mem_cons_of_mem _ hm)
          obtain ⟨u, k1, k2⟩ := hu
          exact ⟨u, by simp only [gone, gj j hj']; exact k1, k2⟩
        · simp only [gone, List.length_set]; exact h.len
      have hz0 : (zs A.free).refs.toNat = 0 := rfl
      rw [hz0, hr1] at hsum
      cases N with
      | zero => exfalso; simp at hsum; omega
      | succ N =>
        obtain ⟨C, c1, c2, c3, c4⟩ := less_ok N (gone A i) (s.kids ++ r) (by simp only [gone]; simp at hsum; omega) hI
        obtain ⟨B, d1, d2⟩ := c1.split _ _ rfl
        exact ⟨C, .gone hs hr1 d1 d2, c2, c3, c4.trans hle2⟩
end Go.Am.R
