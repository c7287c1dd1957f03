/- THE LAW ArenaOrder. -/
import Derived.Test.YtbmfnoaogebjfaaDoorTz
set_option linter.unusedSimpArgs false
set_option linter.unusedVariables false
set_option maxRecDepth 20000
namespace Go.Am.R
open Go.Proofs Go.IntWalk

variable {w : Ways}

theorem addR_of {A C : Ar} {n : Node} {h : Nat} (hA : addA A n = some (C, h)) (hr : A.roots.length < 4096) : addR A n = (C, (h : Int), 0) := by
  unfold addA at hA
  unfold addR
  rw [if_neg (by omega)]
  split at hA
  · cases hA
  · rename_i i B hl
    cases hA
    rw [hl]
theorem add_rb {A C : Ar} {n : Node} {h : Nat} {c : Int} (h0 : 0 ≤ c) (hRB : RB c A.slots) (hA : addA A n = some (C, h)) : RB (c + nn n) C.slots := by
  unfold addA at hA
  split at hA
  · cases hA
  · rename_i i B hl
    cases hA
    have := lay_rb n 0 A c i B h0 hRB hl
    have hn : 1 ≤ nn n := by cases n; rw [nn]; omega
    have h2 := RB.refL (by omega) this [i]
    simp only [List.foldl_cons, List.foldl_nil, List.length_cons, List.length_nil] at h2
    exact h2.mono (by omega)
theorem kl_refL {S : List Sl} (h : KL' S) (l : List Nat) : KL' (l.foldl refS S) := fun j t ht => by
  rw [refL_get, Option.map_eq_some_iff] at ht
  obtain ⟨u, hu, rfl⟩ := ht
  have := h j u hu
  split <;> simpa using this
theorem kl_set {S : List Sl} (h : KL' S) {s : Sl} (hs : s.kids.length ≤ 1000000000000) (i : Nat) : KL' (S.set i s) := fun j t ht => by
  by_cases e : i = j
  · subst e
    by_cases hl : i < S.length
    · rw [List.getElem?_set_self hl] at ht; cases ht; exact hs
    · rw [List.getElem?_eq_none (by simp; omega)] at ht; cases ht
  · rw [List.getElem?_set_ne e] at ht; exact h j t ht
theorem place_kl {A B : Ar} {K : Key} {i : Nat} (h : KL' A.slots) (hK : K.2.length ≤ 1000000000000) (hp : place A K = some (i, B)) : KL' B.slots := by
  unfold place at hp
  split at hp
  · cases hp; exact h
  · split at hp
    · cases hp
    · rename_i j C hr
      cases hp
      unfold room at hr
      split at hr
      · cases hr; exact kl_refL (kl_set h hK _) _
      · split at hr
        · cases hr
          refine kl_refL (kl_set (fun j t ht => ?_) hK _) _
          by_cases hl : j < A.slots.length
          · rw [List.getElem?_append_left hl] at ht; exact h j t ht
          · rw [List.getElem?_append_right (by omega)] at ht
            have : j - A.slots.length = 0 := by
              have := (List.getElem?_eq_some_iff.1 ht).1
              simp at this; omega
            rw [this] at ht; simp at ht; subst ht; simp [zs]
        · cases hr
mutual
theorem lay_kl : ∀ (n : Node) (base : Int) (A : Ar) (i : Nat) (B : Ar), nn n ≤ 1000000000000 → KL' A.slots → lay n base A = some (i, B) → KL' B.slots
  | .mk k nm f a b d ks, base, A, i, B, h0, h, hl => by
    rw [lay] at hl
    rw [nn] at h0
    cases h1 : layL ks a A with
    | none => rw [h1] at hl; cases hl
    | some q =>
      obtain ⟨l, C⟩ := q
      rw [h1] at hl
      obtain ⟨k1, k2⟩ := layL_kl ks a A l C (by omega) h h1
      have := len_nnL ks
      exact place_kl k1 (by simp only; omega) hl
theorem layL_kl : ∀ (ks : List Node) (base : Int) (A : Ar) (l : List Nat) (B : Ar), nnL ks ≤ 1000000000000 → KL' A.slots → layL ks base A = some (l, B) → KL' B.slots ∧ l.length = ks.length
  | [], base, A, l, B, h0, h, hl => by rw [layL] at hl; cases hl; exact ⟨h, rfl⟩
  | x :: xs, base, A, l, B, h0, h, hl => by
    rw [layL] at hl
    rw [nnL] at h0
    cases h1 : lay x base A with
    | none => rw [h1] at hl; cases hl
    | some q =>
      obtain ⟨i, C⟩ := q
      rw [h1] at hl
      simp only at hl
      cases h2 : layL xs base C with
      | none => rw [h2] at hl; cases hl
      | some r =>
        obtain ⟨m, D⟩ := r
        rw [h2] at hl; cases hl
        obtain ⟨k2, k3⟩ := layL_kl xs base C m B (by omega) (lay_kl x base A i C (by omega) h h1) h2
        exact ⟨k2, by simp [k3]⟩
end
theorem add_kl {A C : Ar} {n : Node} {h : Nat} (hn : nn n ≤ 1000000000000) (hk : KL' A.slots) (hA : addA A n = some (C, h)) : KL' C.slots := by
  unfold addA at hA
  split at hA
  · cases hA
  · rename_i i B hl
    cases hA
    have := kl_refL (lay_kl n 0 A i B hn hk hl) [i]
    simpa using this
theorem add_roots {A C : Ar} {n : Node} {h : Nat} (hA : addA A n = some (C, h)) (hI : Inv A [] []) : C.roots.length = A.roots.length + 1 := by
  unfold addA at hA
  split at hA
  · cases hA
  · rename_i i B hl
    cases hA
    rcases lay_or n 0 A [] hI with ⟨h0, -⟩ | ⟨j, D, h1, -, -, -, h5, -⟩
    · rw [h0] at hl; cases hl
    · rw [h1] at hl; cases hl
      simp [h5]
theorem nonneg {A : Ar} (h : Inv A [] []) : ∀ s ∈ A.slots, 0 ≤ s.refs := fun s hs => by
  obtain ⟨i, hi⟩ := List.mem_iff_getElem?.1 hs
  by_cases hn : s.refs < 0
  · have := (h.neg i s hi hn).2; cases this
  · omega
end Go.Am.R
