/- THE SLOTS WITHIN ONE, PLAINLY. -/
import Derived.Test.YtbmfnoaogebjfaaDoorV10
set_option linter.unusedSimpArgs false
set_option linter.unusedVariables false
namespace Go.Am.R
open Go.Proofs

/-- From one slot to another one. -/
inductive Rch (S : List Sl) : Nat → Nat → Prop
  | refl (i : Nat) : Rch S i i
  | step {i k j : Nat} {s : Sl} (hs : S[i]? = some s) (hk : k ∈ s.kids) (h : Rch S k j) : Rch S i j
theorem Rch.trans {S : List Sl} {i j k : Nat} (h : Rch S i j) (h2 : Rch S j k) : Rch S i k := by
  induction h with
  | refl => exact h2
  | step hs hk h ih => exact .step hs hk (ih h2)
/-- What is known of the slots that were met. -/
structure Met (S : List Sl) (V : List Nat) (i : Nat) (V' : List Nat) : Prop where
  nd : V'.Nodup
  sub : ∀ j ∈ V, j ∈ V'
  me : i ∈ V'
  rch : ∀ j ∈ V', j ∈ V ∨ Rch S i j
  cl : ∀ j ∈ V', j ∉ V → ∀ s, S[j]? = some s → ∀ k ∈ s.kids, k ∈ V'
/-- .. in the middle of a slot's kids. -/
structure Mid (S : List Sl) (V : List Nat) (i : Nat) (s : Sl) (n : Nat) (V' : List Nat) : Prop where
  nd : V'.Nodup
  sub : ∀ j ∈ V, j ∈ V'
  me : i ∈ V'
  kids : ∀ k ∈ s.kids.take n, k ∈ V'
  rch : ∀ j ∈ V', j ∈ V ∨ Rch S i j
  cl : ∀ j ∈ V', j ∉ V → j ≠ i → ∀ s, S[j]? = some s → ∀ k ∈ s.kids, k ∈ V'
theorem Met.refl {S : List Sl} {V : List Nat} {i : Nat} (hn : V.Nodup) (hi : i ∈ V) : Met S V i V :=
  ⟨hn, fun j h => h, hi, fun j h => .inl h, fun j h hn => absurd h hn⟩
theorem Mid.start {S : List Sl} {V : List Nat} {i : Nat} {s : Sl} (hn : V.Nodup) (hi : i ∉ V) : Mid S V i s 0 (V ++ [i]) := by
  refine ⟨?_, fun j h => List.mem_append_left _ h, by simp, by simp, fun j h => ?_, fun j h hn hne => ?_⟩
  · rw [List.nodup_append]
    exact ⟨hn, by simp, fun a ha b hb => by rw [List.mem_singleton] at hb; subst hb; intro e; subst e; exact hi ha⟩
  · rcases List.mem_append.1 h with h | h
    · exact .inl h
    · rw [List.mem_singleton] at h; subst h; exact .inr (.refl _)
  · rcases List.mem_append.1 h with h | h
    · exact absurd h hn
    · rw [List.mem_singleton] at h; exact absurd h hne
theorem Mid.next {S : List Sl} {V : List Nat} {i : Nat} {s : Sl} {n k : Nat} {V' V2 : List Nat} (h : Mid S V i s n V') (hs : S[i]? = some s) (hk : s.kids[n]? = some k) (h2 : Met S V' k V2) : Mid S V i s (n + 1) V2 := by
  refine ⟨h2.nd, fun j hj => h2.sub j (h.sub j hj), h2.sub i h.me, fun x hx => ?_, fun j hj => ?_, fun j hj hn hne => ?_⟩
  · rw [List.take_add_one, hk] at hx
    rcases List.mem_append.1 hx with hx | hx
    · exact h2.sub x (h.kids x hx)
    · simp at hx; subst hx; exact h2.me
  · rcases h2.rch j hj with h3 | h3
    · exact h.rch j h3
    · exact .inr (.step hs (List.mem_of_getElem? hk) h3)
  · by_cases hv : j ∈ V'
    · intro s' hs' x hx
      exact h2.sub x (h.cl j hv hn hne s' hs' x hx)
    · exact h2.cl j hj hv
theorem Mid.fin {S : List Sl} {V : List Nat} {i : Nat} {s : Sl} {V' : List Nat} (h : Mid S V i s s.kids.length V') (hs : S[i]? = some s) : Met S V i V' := by
  refine ⟨h.nd, h.sub, h.me, h.rch, fun j hj hn s' hs' x hx => ?_⟩
  by_cases e : j = i
  · subst e
    rw [hs] at hs'; cases hs'
    exact h.kids x (by rw [List.take_length]; exact hx)
  · exact h.cl j hj hn e s' hs' x hx
theorem Met.all {S : List Sl} {i : Nat} {V : List Nat} (h : Met S [] i V) (j : Nat) : j ∈ V ↔ Rch S i j := by
  refine ⟨fun hj => (h.rch j hj).elim (fun h => by cases h) id, fun hr => ?_⟩
  have : ∀ {a b : Nat}, Rch S a b → a ∈ V → b ∈ V := by
    intro a b hr
    induction hr with
    | refl => exact id
    | step hs hk _ ih => intro ha; exact ih (h.cl _ ha (by simp) _ hs _ hk)
  exact this hr h.me

/-- The map's entries. -/
def ve (V : List Nat) : List (AV × AV × Nat) := V.zipIdx.map fun x => (.int .i64 (x.1 : Int), .bool true, x.2)
theorem ve_snoc (V : List Nat) (i : Nat) : ve V ++ [(.int .i64 (i : Int), .bool true, V.length)] = ve (V ++ [i]) := by
  simp [ve, List.zipIdx_append]
theorem ve_find (i : Nat) : ∀ (V : List Nat) (o n : Nat), (i ∈ V → ∃ k, findKey (.int .i64 (i : Int)) ((V.zipIdx o).map fun x => (.int .i64 (x.1 : Int), .bool true, x.2)) n = some (some (k, .bool true))) ∧ (i ∉ V → findKey (.int .i64 (i : Int)) ((V.zipIdx o).map fun x => (.int .i64 (x.1 : Int), .bool true, x.2)) n = some none)
  | [], o, n => ⟨fun h => by simp at h, fun _ => rfl⟩
  | q :: V, o, n => by
    obtain ⟨h1, h2⟩ := ve_find i V (o + 1) (n + 1)
    have hk : keyEq (.int .i64 (i : Int)) (.int .i64 (q : Int)) = some (decide (i = q)) := by
      have : ((i : Int) == (q : Int)) = decide (i = q) := by
        by_cases h : i = q
        · subst h; simp
        · rw [decide_eq_false h, beq_eq_false_iff_ne]; omega
      simp only [keyEq, leafEq, ↓reduceIte, this]
    rw [List.zipIdx_cons, List.map_cons, findKey, hk]
    simp only [Option.bind_some]
    by_cases e : i = q
    · subst e
      exact ⟨fun _ => ⟨n, by simp⟩, fun h => absurd (by simp) h⟩
    · simp only [decide_eq_false e, Bool.false_eq_true, if_false]
      refine ⟨fun h => h1 ?_, fun h => h2 fun hh => h (by simp [hh])⟩
      rcases List.mem_cons.1 h with h | h
      · exact absurd h e
      · exact h
theorem ve_yes {V : List Nat} {i : Nat} (h : i ∈ V) : ∃ k, findKey (.int .i64 (i : Int)) (ve V) 0 = some (some (k, .bool true)) := (ve_find i V 0 0).1 h
theorem ve_no {V : List Nat} {i : Nat} (h : i ∉ V) : findKey (.int .i64 (i : Int)) (ve V) 0 = some none := (ve_find i V 0 0).2 h
end Go.Am.R
