/- AN ARENA PLAINLY: how many slots are live. -/
import Derived.Test.YtbmfnoaogebjfaaDoorP3
set_option linter.unusedSimpArgs false
set_option linter.unusedVariables false
namespace Go.Am.R

mutual
def Sub (t : Tr) : Tr → Prop
  | .mk fs ts => t = .mk fs ts ∨ SubL t ts
def SubL (t : Tr) : List Tr → Prop
  | [] => False
  | u :: us => Sub t u ∨ SubL t us
end
theorem Sub.refl (t : Tr) : Sub t t := by cases t; rw [Sub]; exact .inl rfl
theorem SubL_of {t u : Tr} (h : Sub t u) : ∀ {us : List Tr}, u ∈ us → SubL t us
  | v :: us, hm => by
    rw [SubL]
    rcases List.mem_cons.1 hm with rfl | hm
    · exact .inl h
    · exact .inr (SubL_of h hm)
mutual
theorem Sub.trans {a b : Tr} (h : Sub a b) : ∀ (c : Tr), Sub b c → Sub a c
  | .mk fs ts, k => by
    rw [Sub] at k
    rcases k with rfl | k
    · exact h
    · rw [Sub]; exact .inr (SubL.trans h ts k)
theorem SubL.trans {a b : Tr} (h : Sub a b) : ∀ (cs : List Tr), SubL b cs → SubL a cs
  | [], k => by simp [SubL] at k
  | c :: cs, k => by
    rw [SubL] at k ⊢
    rcases k with k | k
    · exact .inl (Sub.trans h c k)
    · exact .inr (SubL.trans h cs k)
end
mutual
theorem Is.sub {S : List Sl} {t : Tr} : ∀ (T : Tr) (i : Nat), Is S i T → Sub t T → ∃ j, Is S j t
  | .mk fs ts, i, h, k => by
    rw [Sub] at k
    rcases k with rfl | k
    · exact ⟨i, h⟩
    · rw [Is] at h
      obtain ⟨s, _, _, _, a4⟩ := h
      exact IsL.sub ts s.kids a4 k
theorem IsL.sub {S : List Sl} {t : Tr} : ∀ (ts : List Tr) (l : List Nat), IsL S l ts → SubL t ts → ∃ j, Is S j t
  | [], l, h, k => by simp [SubL] at k
  | u :: us, [], h, k => by simp [IsL] at h
  | u :: us, i :: l, h, k => by
    rw [IsL] at h
    rw [SubL] at k
    rcases k with k | k
    · exact Is.sub u i h.1 k
    · exact IsL.sub us l h.2 k
end
theorem size_mem {t : Tr} : ∀ {ts : List Tr}, t ∈ ts → t.size ≤ sizeL ts
  | u :: us, h => by
    rw [sizeL]
    rcases List.mem_cons.1 h with rfl | h
    · omega
    · have := size_mem h; omega
theorem bound (S : List Sl) : ∃ M, ∀ (i : Nat) (t : Tr), Is S i t → t.size ≤ M := by
  have key : ∀ n : Nat, ∃ M, ∀ (i : Nat) (t : Tr), i < n → Is S i t → t.size ≤ M := by
    intro n
    induction n with
    | zero => exact ⟨0, fun i t h => by omega⟩
    | succ n ih =>
      obtain ⟨M, hM⟩ := ih
      by_cases h : ∃ t, Is S n t
      · obtain ⟨t, ht⟩ := h
        refine ⟨M + t.size, fun i u hi hu => ?_⟩
        by_cases e : i = n
        · subst e
          rw [Is.uniq u i t hu ht]; omega
        · have := hM i u (by omega) hu; omega
      · refine ⟨M, fun i u hi hu => ?_⟩
        by_cases e : i = n
        · subst e; exact absurd ⟨u, hu⟩ h
        · exact hM i u (by omega) hu
  obtain ⟨M, hM⟩ := key S.length
  refine ⟨M, fun i t h => hM i t ?_ h⟩
  obtain ⟨s, h1, _⟩ := h.used
  exact (List.getElem?_eq_some_iff.1 h1).1

theorem cnt_ex {S : List Sl} {j : Nat} (h : 1 ≤ cnt S j) : ∃ (i : Nat) (s : Sl), S[i]? = some s ∧ j ∈ s.kids := by
  induction S with
  | nil => simp [cnt] at h
  | cons a S ih =>
    simp only [cnt, List.map_cons, List.sum_cons] at h ih
    by_cases hm : j ∈ a.kids
    · exact ⟨0, a, rfl, hm⟩
    · rw [List.count_eq_zero.2 hm] at h
      obtain ⟨i, s, h1, h2⟩ := ih (by omega)
      exact ⟨i + 1, s, by simpa using h1, h2⟩

/-- Whatever is used is within a root's tree. -/
theorem reach {A : Ar} (h : Inv A [] []) {i : Nat} {t : Tr} (ht : Is A.slots i t) : ∃ r T, some r ∈ A.roots ∧ Is A.slots r T ∧ Sub t T := by
  obtain ⟨M, hM⟩ := bound A.slots
  have key : ∀ (N i : Nat) (t : Tr), Is A.slots i t → M - t.size ≤ N → ∃ r T, some r ∈ A.roots ∧ Is A.slots r T ∧ Sub t T := by
    intro N
    induction N with
    | zero =>
      intro i t ht hN
      obtain ⟨s, hs, hr⟩ := ht.used
      have href := h.refs i s hs hr
      have hnn : ¬ s.refs < 0 := fun hn => by have := (h.neg i s hs hn).2; cases this
      simp only [List.count_nil, Nat.add_zero] at href
      by_cases hrc : 1 ≤ rcnt A.roots i
      · exact ⟨i, t, List.one_le_count_iff.1 hrc, ht, Sub.refl t⟩
      · obtain ⟨j, u, hu, hm⟩ := cnt_ex (S := A.slots) (j := i) (by omega)
        have hur : u.refs ≠ 0 := fun e => by have := h.zero j u hu e; rw [this] at hm; simp [zs] at hm
        obtain ⟨T, hT⟩ := h.tree j u hu hur
        have hb := hM j T hT
        cases T with
        | mk fs ts =>
          have hT' := hT
          rw [Is] at hT
          obtain ⟨v, a1, a2, a3, a4⟩ := hT
          rw [hu] at a1; cases a1
          obtain ⟨x, hx, hix⟩ := isL_mem ts _ a4 i hm
          have := size_mem hx
          rw [Is.uniq x i t hix ht] at this
          rw [Tr.size] at hb
          omega
    | succ N ih =>
      intro i t ht hN
      obtain ⟨s, hs, hr⟩ := ht.used
      have href := h.refs i s hs hr
      have hnn : ¬ s.refs < 0 := fun hn => by have := (h.neg i s hs hn).2; cases this
      simp only [List.count_nil, Nat.add_zero] at href
      by_cases hrc : 1 ≤ rcnt A.roots i
      · exact ⟨i, t, List.one_le_count_iff.1 hrc, ht, Sub.refl t⟩
      · obtain ⟨j, u, hu, hm⟩ := cnt_ex (S := A.slots) (j := i) (by omega)
        have hur : u.refs ≠ 0 := fun e => by have := h.zero j u hu e; rw [this] at hm; simp [zs] at hm
        obtain ⟨T, hT⟩ := h.tree j u hu hur
        have hb := hM j T hT
        cases T with
        | mk fs ts =>
          have hT' := hT
          rw [Is] at hT
          obtain ⟨v, a1, a2, a3, a4⟩ := hT
          rw [hu] at a1; cases a1
          obtain ⟨x, hx, hix⟩ := isL_mem ts _ a4 i hm
          have hsz := size_mem hx
          have hxt := Is.uniq x i t hix ht
          subst hxt
          rw [Tr.size] at hb
          obtain ⟨r, R, b1, b2, b3⟩ := ih j (.mk fs ts) hT' (by rw [Tr.size]; omega)
          exact ⟨r, R, b1, b2, Sub.trans (by rw [Sub]; exact .inr (SubL_of (Sub.refl x) hx)) R b3⟩
  exact key _ i t ht (Nat.le_refl _)

/-- All trees that used slots have, once each. -/
theorem trees {S : List Sl} (hd : Apart S) (ht : ∀ (i : Nat) (s : Sl), S[i]? = some s → s.refs ≠ 0 → ∃ t, Is S i t) : ∃ L : List Tr, L.length = used S ∧ L.Nodup ∧ ∀ t, t ∈ L ↔ ∃ i, Is S i t := by
  have key : ∀ n : Nat, n ≤ S.length → ∃ L : List Tr, L.length = used (S.take n) ∧ L.Nodup ∧ ∀ t, t ∈ L ↔ ∃ i, i < n ∧ Is S i t := by
    intro n
    induction n with
    | zero => intro _; exact ⟨[], rfl, List.nodup_nil, fun t => ⟨fun h => (by cases h), fun ⟨i, h, _⟩ => (by omega)⟩⟩
    | succ n ih =>
      intro hn
      obtain ⟨L, h1, h2, h3⟩ := ih (by omega)
      have hg : S[n]? = some S[n] := List.getElem?_eq_getElem (by omega)
      have htk : S.take (n + 1) = S.take n ++ [S[n]] := by rw [List.take_add_one, hg]; rfl
      by_cases hr : S[n].refs = 0
      · refine ⟨L, by rw [htk, used_snoc, h1]; simp [hr], h2, fun t => ?_⟩
        rw [h3]
        constructor
        · rintro ⟨i, hi, h⟩; exact ⟨i, by omega, h⟩
        · rintro ⟨i, hi, h⟩
          refine ⟨i, ?_, h⟩
          by_cases e : i = n
          · subst e
            obtain ⟨s, a1, a2⟩ := h.used
            rw [hg] at a1; cases a1
            exact absurd hr a2
          · omega
      · obtain ⟨t, hT⟩ := ht n _ hg hr
        refine ⟨t :: L, by rw [htk, used_snoc, List.length_cons, h1]; simp [hr], List.nodup_cons.2 ⟨fun hm => ?_, h2⟩, fun u => ?_⟩
        · obtain ⟨i, hi, h⟩ := (h3 t).1 hm
          have := Is.inj hd t i n h hT
          omega
        · rw [List.mem_cons, h3]
          constructor
          · rintro (rfl | ⟨i, hi, h⟩)
            · exact ⟨n, by omega, hT⟩
            · exact ⟨i, by omega, h⟩
          · rintro ⟨i, hi, h⟩
            by_cases e : i = n
            · subst e; exact .inl (Is.uniq u i t h hT)
            · exact .inr ⟨i, by omega, h⟩
  obtain ⟨L, h1, h2, h3⟩ := key S.length (Nat.le_refl _)
  refine ⟨L, by rw [h1, List.take_length], h2, fun t => ?_⟩
  rw [h3]
  constructor
  · rintro ⟨i, _, h⟩; exact ⟨i, h⟩
  · rintro ⟨i, h⟩
    obtain ⟨s, a1, _⟩ := h.used
    exact ⟨i, (List.getElem?_eq_some_iff.1 a1).1, h⟩

theorem nodup_len {α : Type} : ∀ (L M : List α), L.Nodup → (∀ x ∈ L, x ∈ M) → L.length ≤ M.length
  | [], M, _, _ => Nat.zero_le _
  | a :: L, M, hn, h => by
    obtain ⟨M1, M2, rfl⟩ := List.append_of_mem (h a List.mem_cons_self)
    have hn' := List.nodup_cons.1 hn
    have := nodup_len L (M1 ++ M2) hn'.2 fun x hx => by
      have hxm := h x (List.mem_cons_of_mem _ hx)
      simp only [List.mem_append, List.mem_cons] at hxm ⊢
      rcases hxm with h1 | rfl | h2
      · exact .inl h1
      · exact absurd hx hn'.1
      · exact .inr h2
    simp only [List.length_append, List.length_cons] at this ⊢
    omega

/-- A root's tree. -/
def RT (A : Ar) (T : Tr) : Prop := ∃ r, some r ∈ A.roots ∧ Is A.slots r T

/-- How many slots are live hangs on the roots' trees alone. -/
theorem live_eq {A B : Ar} (hA : Inv A [] []) (hB : Inv B [] []) (h : ∀ T, RT A T ↔ RT B T) : used A.slots = used B.slots := by
  have half : ∀ {A B : Ar}, Inv A [] [] → Inv B [] [] → (∀ T, RT A T → RT B T) → used A.slots ≤ used B.slots := by
    intro A B hA hB h
    obtain ⟨L, a1, a2, a3⟩ := trees hA.apart hA.tree
    obtain ⟨M, b1, b2, b3⟩ := trees hB.apart hB.tree
    rw [← a1, ← b1]
    refine nodup_len L M a2 fun t ht => ?_
    obtain ⟨i, hi⟩ := (a3 t).1 ht
    obtain ⟨r, T, c1, c2, c3⟩ := reach hA hi
    obtain ⟨r', d1, d2⟩ := h T ⟨r, c1, c2⟩
    exact (b3 t).2 (Is.sub T r' d2 c3)
  exact Nat.le_antisymm (half hA hB fun T => (h T).1) (half hB hA fun T => (h T).2)

theorem inv0 : Inv ar0 [] [] :=
  ⟨fun i j s s' h => by simp [ar0] at h, fun i s h => by simp [ar0] at h, fun i s h => by simp [ar0] at h, fun i s h => by simp [ar0] at h, fun i s h => by simp [ar0] at h, fun i s h => by simp [ar0] at h,
    ⟨[], .nil, List.nodup_nil, fun i => by simp [ar0]⟩, fun i h => (by simp [ar0] at h), fun i h => (by cases h), by simp [ar0]⟩

/-- Taking in. -/
def addA (A : Ar) (n : Node) : Option (Ar × Nat) :=
  match lay n 0 A with
  | none => none
  | some (i, B) => some (⟨refS B.slots i, B.free, B.roots ++ [some i]⟩, B.roots.length)
theorem add_ok {A : Ar} {n : Node} (h : Inv A [] []) (hU : used A.slots + nn n ≤ 4096) : ∃ i B C, lay n 0 A = some (i, B) ∧ B.roots = A.roots ∧ C = ⟨refS B.slots i, B.free, B.roots ++ [some i]⟩ ∧ addA A n = some (C, A.roots.length) ∧ Inv C [] [] ∧ C.roots = A.roots ++ [some i] ∧ Is C.slots i (nt n 0) ∧ Le A.slots C.slots ∧ used C.slots ≤ used A.slots + nn n := by
  obtain ⟨i, B, h1, h2, h3, h4, h5, h6⟩ := lay_ok n 0 A [] h hU
  obtain ⟨k1, k2⟩ := root_ok h2 h4.used
  refine ⟨i, B, _, h1, h5, rfl, by rw [addA, h1]; simp only [h5], k1, by simp only [h5], Is.mono k2 _ _ h4, h3.trans k2, ?_⟩
  have : used (refS B.slots i) = used B.slots := by
    obtain ⟨s, hs, hr⟩ := h4.used
    refine used_congr fun j => ?_
    rw [refS_get]
    cases hj : B.slots[j]? with
    | none => rfl
    | some v =>
      simp only [Option.map_some, Option.some.injEq]
      by_cases e : i = j
      · subst e
        rw [hs] at hj; cases hj
        simp only [↓reduceIte, decide_eq_decide]
        constructor <;> intro _ <;> omega
      · simp [e]
  simp only [this]
  exact h6

theorem rt_add {A C : Ar} {i : Nat} {t : Tr} (hA : Inv A [] []) (hr : C.roots = A.roots ++ [some i]) (hi : Is C.slots i t) (hle : Le A.slots C.slots) (T : Tr) : RT C T ↔ RT A T ∨ T = t := by
  constructor
  · rintro ⟨r, h1, h2⟩
    rw [hr, List.mem_append] at h1
    rcases h1 with h1 | h1
    · obtain ⟨s, a1, a2⟩ := hA.root r h1
      obtain ⟨u, hu⟩ := hA.tree r s a1 a2
      have := Is.uniq T r u h2 (Is.mono hle u r hu)
      subst this
      exact .inl ⟨r, h1, hu⟩
    · simp at h1; subst h1
      exact .inr (Is.uniq T r t h2 hi)
  · rintro (⟨r, h1, h2⟩ | rfl)
    · exact ⟨r, by rw [hr]; exact List.mem_append_left _ h1, Is.mono hle T r h2⟩
    · exact ⟨i, by rw [hr]; simp, hi⟩

/-- Releasing. -/
theorem drop_ok {A : Ar} {h i : Nat} (hA : Inv A [] []) (hr : A.roots[h]? = some (some i)) :
    ∃ C, LessL ⟨A.slots, A.free, A.roots.set h none⟩ [i] C ∧ Inv C [] [] ∧ C.roots = A.roots.set h none ∧ Le C.slots A.slots ∧ ∀ r T, some r ∈ C.roots → Is A.slots r T → Is C.slots r T := by
  obtain ⟨C, c1, c2, c3, c4⟩ := less_ok _ _ [i] (Nat.le_refl _) (unroot_ok hA hr)
  refine ⟨C, c1, c2, c3, c4, fun r T hm hT => ?_⟩
  obtain ⟨s, a1, a2⟩ := c2.root r hm
  obtain ⟨t, ht⟩ := c2.tree r s a1 a2
  have := Is.uniq t r T (Is.mono c4 t r ht) hT
  subst this
  exact ht

/-- The order in which trees are taken in. -/
theorem order_plain (m n x : Node) (hm : nn m ≤ 200) (hn : nn n ≤ 200) (hx : nn x ≤ 200) :
    ∃ A1 A B1 B C D i, addA ar0 m = some (A1, 0) ∧ addA A1 n = some (A, 1) ∧ addA ar0 n = some (B1, 0) ∧ addA B1 m = some (B, 1) ∧ addA A x = some (C, 2) ∧ C.roots[2]? = some (some i) ∧
      LessL ⟨C.slots, C.free, C.roots.set 2 none⟩ [i] D ∧ used A.slots = used B.slots ∧ used D.slots = used A.slots ∧ Inv A1 [] [] ∧ Inv A [] [] ∧ Inv B1 [] [] ∧ Inv B [] [] ∧ Inv C [] [] ∧ Inv D [] [] := by
  have u0 : used ar0.slots = 0 := rfl
  obtain ⟨i1, L1, A1, -, -, -, a1, a2, a3, a4, a5, a6⟩ := add_ok (n := m) inv0 (by omega)
  obtain ⟨i2, L2, A, -, -, -, b1, b2, b3, b4, b5, b6⟩ := add_ok (n := n) a2 (by omega)
  obtain ⟨i3, L3, B1, -, -, -, c1, c2, c3, c4, c5, c6⟩ := add_ok (n := n) inv0 (by omega)
  obtain ⟨i4, L4, B, -, -, -, d1, d2, d3, d4, d5, d6⟩ := add_ok (n := m) c2 (by omega)
  obtain ⟨i5, L5, C, -, -, -, e1, e2, e3, e4, e5, e6⟩ := add_ok (n := x) b2 (by omega)
  have r1 : A1.roots = [some i1] := a3
  have r2 : A.roots = [some i1, some i2] := by rw [b3, r1]; rfl
  have r3 : B1.roots = [some i3] := c3
  have r4 : B.roots = [some i3, some i4] := by rw [d3, r3]; rfl
  have r5 : C.roots = [some i1, some i2, some i5] := by rw [e3, r2]; rfl
  have hC2 : C.roots[2]? = some (some i5) := by rw [r5]; rfl
  obtain ⟨D, f1, f2, f3, f4, f5⟩ := drop_ok e2 hC2
  have r6 : D.roots = [some i1, some i2, none] := by rw [f3, r5]; rfl
  have n0 : ∀ T, ¬ RT ar0 T := fun T ⟨r, h, _⟩ => by simp [ar0] at h
  refine ⟨A1, A, B1, B, C, D, i5, a1, by rw [b1, r1]; rfl, c1, by rw [d1, r3]; rfl, by rw [e1, r2]; rfl, hC2, f1, ?_, ?_, a2, b2, c2, d2, e2, f2⟩
  · refine live_eq b2 d2 fun T => ?_
    rw [rt_add a2 b3 b4 b5, rt_add inv0 a3 a4 a5, rt_add c2 d3 d4 d5, rt_add inv0 c3 c4 c5]
    have := n0 T
    constructor
    · rintro ((h | h) | h)
      · exact absurd h this
      · exact .inr h
      · exact .inl (.inr h)
    · rintro ((h | h) | h)
      · exact absurd h this
      · exact .inr h
      · exact .inl (.inr h)
  · refine live_eq f2 b2 fun T => ?_
    constructor
    · rintro ⟨r, h1, h2⟩
      have h1' : some r ∈ A.roots := by rw [r2]; rw [r6] at h1; simpa using h1
      obtain ⟨s, p1, p2⟩ := b2.root r h1'
      obtain ⟨t, ht⟩ := b2.tree r s p1 p2
      have := Is.uniq t r T (Is.mono e5 t r ht) (Is.mono f4 T r h2)
      subst this
      exact ⟨r, h1', ht⟩
    · rintro ⟨r, h1, h2⟩
      have h1' : some r ∈ D.roots := by rw [r6]; rw [r2] at h1; simpa using h1
      exact ⟨r, h1', f5 r T h1' (Is.mono e5 T r h2)⟩
end Go.Am.R
