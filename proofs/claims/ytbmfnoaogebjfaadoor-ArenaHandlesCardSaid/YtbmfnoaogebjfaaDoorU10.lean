/- HANDLES STAY, PLAINLY. -/
import Derived.Test.YtbmfnoaogebjfaaDoorU9
import Derived.Test.YtbmfnoaogebjfaaDoorT14
set_option linter.unusedSimpArgs false
set_option linter.unusedVariables false
namespace Go.Am.R

theorem less_rb {A C : Ar} {r : List Nat} (h : LessL A r C) : ∀ {c : Int}, 0 ≤ c → RB c A.slots → RB c C.slots := by
  induction h with
  | nil A => intro c h0 h; exact h
  | @keep A i r C s hs h1 hr ih =>
    intro c h0 hRB
    refine ih h0 ?_
    simp only [dec_set hs]
    exact hRB.set (by have := hRB i s hs; simp only; omega) i
  | @gone A i r B C s hs h1 hk hr ihk ihr =>
    intro c h0 hRB
    exact ihr h0 (ihk h0 (hRB.set (by simpa [zs] using h0) i))
theorem less_used {A C : Ar} {r : List Nat} (h : LessL A r C) : used C.slots ≤ used A.slots := by
  induction h with
  | nil A => exact Nat.le_refl _
  | @keep A i r C s hs h1 hr ih =>
    refine Nat.le_trans ih ?_
    simp only [dec_set hs]
    have := used_set A.slots i s { s with refs := s.refs - 1 } hs
    rw [if_pos (by omega), if_pos (by simp only; omega)] at this
    omega
  | @gone A i r B C s hs h1 hk hr ihk ihr =>
    refine Nat.le_trans ihr (Nat.le_trans ihk ?_)
    have := used_set A.slots i s (zs A.free) hs
    rw [if_pos (by omega), if_neg (by simp [zs])] at this
    show used (A.slots.set i (zs A.free)) ≤ _
    omega
mutual
theorem size_nt : ∀ (n : Node) (b : Int), (nt n b).size = nn n
  | .mk k nm f a b' d ks, b => by rw [nt, Tr.size, nn, sizeL_nt ks a]
theorem sizeL_nt : ∀ (ks : List Node) (b : Int), sizeL (ntL ks b) = nnL ks
  | [], _ => by rw [ntL, sizeL, nnL]
  | x :: xs, b => by rw [ntL, sizeL, nnL, size_nt x b, sizeL_nt xs b]
end

/-- Trees that were taken in, which were released, and what the arena holds. -/
structure HS (A : Ar) (tr : List Node) (gn : List Bool) : Prop where
  inv : Inv A [] []
  rb : RB (100 * (tr.length : Int)) A.slots
  kl : KL' A.slots
  us : used A.slots ≤ 100 * tr.length
  rl : A.roots.length = tr.length
  gl : gn.length = tr.length
  le : tr.length ≤ 20
  nok : ∀ n ∈ tr, n.ok ∧ nn n ≤ 100
  dead : ∀ h : Nat, gn[h]? = some true → A.roots[h]? = some none
  live : ∀ (h : Nat) (n : Node), gn[h]? = some false → tr[h]? = some n → ∃ i, A.roots[h]? = some (some i) ∧ Is A.slots i (nt n 0)

theorem HS.init : HS ar0 [] [] :=
  ⟨inv0, fun i s h => by simp [ar0] at h, fun i s h => by simp [ar0] at h, by simp [ar0, used], rfl, rfl, by simp, by simp, by simp, by simp⟩
theorem HS.add {A : Ar} {tr : List Node} {gn : List Bool} (h : HS A tr gn) {n : Node} (hn : n.ok) (h100 : nn n ≤ 100) (hlt : tr.length < 20) :
    ∃ C, addR A n = (C, ((tr.length : Nat) : Int), 0) ∧ HS C (tr ++ [n]) (gn ++ [false]) := by
  have hus := h.us
  have hrl := h.rl
  have hgl := h.gl
  obtain ⟨i, B, C, -, -, -, a1, a2, a3, a4, a5, a6⟩ := add_ok (n := n) h.inv (by omega)
  refine ⟨C, by rw [addR_of a1 (by omega), hrl], a2, ?_, add_kl (by omega) h.kl a1, by simp only [List.length_append, List.length_cons, List.length_nil]; omega, by rw [a3]; simp [hrl], by simp [hgl], by simp; omega, fun m hm => ?_, fun j hj => ?_, fun j m hj hm => ?_⟩
  · refine (add_rb (by omega) h.rb a1).mono ?_
    simp only [List.length_append, List.length_cons, List.length_nil]
    omega
  · rcases List.mem_append.1 hm with hm | hm
    · exact h.nok m hm
    · rw [List.mem_singleton] at hm; subst hm; exact ⟨hn, h100⟩
  · rw [a3]
    by_cases hjl : j < gn.length
    · rw [List.getElem?_append_left hjl] at hj
      rw [List.getElem?_append_left (by omega)]
      exact h.dead j hj
    · rw [List.getElem?_append_right (by omega)] at hj
      have : j - gn.length = 0 := by
        have := (List.getElem?_eq_some_iff.1 hj).1
        simp at this; omega
      rw [this] at hj; simp at hj
  · by_cases hjl : j < gn.length
    · rw [List.getElem?_append_left hjl] at hj
      rw [List.getElem?_append_left (by omega)] at hm
      obtain ⟨q, h1, h2⟩ := h.live j m hj hm
      exact ⟨q, by rw [a3, List.getElem?_append_left (by omega)]; exact h1, Is.mono a5 _ _ h2⟩
    · have hjm := (List.getElem?_eq_some_iff.1 hm).1
      simp at hjm
      have hje : j = tr.length := by omega
      subst hje
      rw [List.getElem?_append_right (by omega)] at hm
      simp at hm; subst hm
      exact ⟨i, by rw [a3, ← hrl]; simp, a4⟩
theorem HS.drop {A : Ar} {tr : List Node} {gn : List Bool} (h : HS A tr gn) {k : Nat} (hk : gn[k]? = some false) :
    ∃ i C, A.roots[k]? = some (some i) ∧ LessL ⟨A.slots, A.free, A.roots.set k none⟩ [i] C ∧ HS C tr (gn.set k true) := by
  have hkl := (List.getElem?_eq_some_iff.1 hk).1
  have hgl := h.gl
  have hrl := h.rl
  obtain ⟨n, hn⟩ : ∃ n, tr[k]? = some n := ⟨_, List.getElem?_eq_getElem (by omega)⟩
  obtain ⟨i, h1, h2⟩ := h.live k n hk hn
  obtain ⟨C, c1, c2, c3, c4, c5⟩ := drop_ok h.inv h1
  refine ⟨i, C, h1, c1, c2, less_rb c1 (by omega) h.rb, fun j s hs => ?_, Nat.le_trans (less_used c1) h.us, by rw [c3]; simp [hrl], by simp [hgl], h.le, h.nok, fun j hj => ?_, fun j m hj hm => ?_⟩
  · exact (less_kb c1 (h.inv.kb h.kl) j s hs).1
  · rw [c3]
    rw [List.getElem?_set] at hj ⊢
    by_cases e : k = j
    · subst e
      rw [if_pos rfl, if_pos (by omega)]
    · rw [if_neg e] at hj ⊢
      exact h.dead j hj
  · rw [List.getElem?_set] at hj
    by_cases e : k = j
    · subst e
      rw [if_pos rfl, if_pos (by omega)] at hj
      cases hj
    · rw [if_neg e] at hj
      obtain ⟨q, q1, q2⟩ := h.live j m hj hm
      have hr : C.roots[j]? = some (some q) := by rw [c3, List.getElem?_set, if_neg e]; exact q1
      exact ⟨q, hr, c5 q _ (List.mem_of_getElem? hr) q2⟩
theorem HS.sz {A : Ar} {tr : List Node} {gn : List Bool} (h : HS A tr gn) : ∀ r, some r ∈ A.roots → szOf A.slots r ≤ 5000 := fun r hr => by
  obtain ⟨k, hk⟩ := List.mem_iff_getElem?.1 hr
  have hkl := (List.getElem?_eq_some_iff.1 hk).1
  have hgl := h.gl
  have hrl := h.rl
  obtain ⟨g, hg⟩ : ∃ g, gn[k]? = some g := ⟨_, List.getElem?_eq_getElem (by omega)⟩
  obtain ⟨n, hn⟩ : ∃ n, tr[k]? = some n := ⟨_, List.getElem?_eq_getElem (by omega)⟩
  cases g with
  | true => rw [h.dead k hg] at hk; cases hk
  | false =>
    obtain ⟨i, h1, h2⟩ := h.live k n hg hn
    rw [hk] at h1; cases h1
    rw [szOf_is h2, size_nt]
    have := (h.nok n (List.mem_of_getElem? hn)).2
    omega
theorem HS.none {A : Ar} {tr : List Node} {gn : List Bool} (h : HS A tr gn) (hg : ∀ j, j < gn.length → gn[j]? = some true) : used A.slots = 0 := by
  rw [used, List.countP_eq_zero]
  intro s hs hs0
  obtain ⟨i, hi⟩ := List.mem_iff_getElem?.1 hs
  obtain ⟨t, ht⟩ := h.inv.tree i s hi (by simpa using hs0)
  obtain ⟨r, T, h1, _, _⟩ := reach h.inv ht
  obtain ⟨k, hk⟩ := List.mem_iff_getElem?.1 h1
  have hkl := (List.getElem?_eq_some_iff.1 hk).1
  have hgl := h.gl
  have hrl := h.rl
  rw [h.dead k (hg k (by omega))] at hk
  cases hk
end Go.Am.R
