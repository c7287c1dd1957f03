/- SIZES, PLAINLY. -/
import Derived.Test.YtbmfnoaogebjfaaDoorU3
set_option linter.unusedSimpArgs false
set_option linter.unusedVariables false
namespace Go.Am.R
open Classical

/-- How many nodes a slot's tree has, up to 5001. -/
noncomputable def szOf (S : List Sl) (i : Nat) : Nat := if h : ∃ t, Is S i t then min 5001 h.choose.size else 1
theorem szOf_is {S : List Sl} {i : Nat} {t : Tr} (h : Is S i t) : szOf S i = min 5001 t.size := by
  have hex : ∃ t, Is S i t := ⟨t, h⟩
  rw [szOf, dif_pos hex, Is.uniq _ _ _ hex.choose_spec h]
theorem size_pos (t : Tr) : 0 < t.size := by cases t; rw [Tr.size]; omega
theorem szOf_pos (S : List Sl) (i : Nat) : 0 < szOf S i := by
  rw [szOf]
  split
  · rename_i h; have := size_pos h.choose; omega
  · omega
theorem szOf_zero {S : List Sl} {i : Nat} {s : Sl} (h : S[i]? = some s) (h0 : s.refs = 0) : szOf S i = 1 := by
  rw [szOf, dif_neg]
  rintro ⟨t, ht⟩
  obtain ⟨s', h1, h2⟩ := ht.used
  rw [h] at h1; cases h1; exact h2 h0
def sg (out : List Nat) (l : List Nat) : Nat := (l.map fun q => out.getD q 0).sum
theorem sg_snoc (out l : List Nat) (q : Nat) : sg out (l ++ [q]) = sg out l + out.getD q 0 := by simp [sg]
theorem isL_sum {S : List Sl} : ∀ (ts : List Tr) (l : List Nat), IsL S l ts → min 5001 (1 + (l.map (szOf S)).sum) = min 5001 (sizeL ts + 1)
  | [], [], _ => by simp [sizeL]
  | [], i :: l, h => by simp [IsL] at h
  | t :: ts, [], h => by simp [IsL] at h
  | t :: ts, i :: l, h => by
    rw [IsL] at h
    have h1 := isL_sum ts l h.2
    rw [List.map_cons, List.sum_cons, szOf_is h.1, sizeL]
    omega
theorem sz_step {A : Ar} (hA : Inv A [] []) {i : Nat} {s : Sl} (hs : A.slots[i]? = some s) : min 5001 (1 + (s.kids.map (szOf A.slots)).sum) = szOf A.slots i := by
  by_cases h0 : s.refs = 0
  · rw [szOf_zero hs h0]
    have := hA.zero i s hs h0
    rw [this]; simp [zs]
  · obtain ⟨t, ht⟩ := hA.tree i s hs h0
    rw [szOf_is ht]
    obtain ⟨fs, ts⟩ := t
    rw [Is] at ht
    obtain ⟨s', h1, _, _, h4⟩ := ht
    rw [hs] at h1; cases h1
    rw [isL_sum ts _ h4, Tr.size]
/-- What is known so far. -/
def Zok (S : List Sl) (out : List Nat) : Prop := out.length = S.length ∧ ∀ (i v : Nat), out[i]? = some v → v = 0 ∨ v = szOf S i
theorem Zok.sum {S : List Sl} {out : List Nat} (h : Zok S out) {l : List Nat} (hl : ∀ q ∈ l, 0 < out.getD q 0) : sg out l = (l.map (szOf S)).sum := by
  rw [sg]
  congr 1
  refine List.map_congr_left fun q hq => ?_
  have h1 := hl q hq
  cases h2 : out[q]? with
  | none => simp [List.getD, h2] at h1
  | some v =>
    have h3 : out.getD q 0 = v := by simp [List.getD, h2]
    rcases h.2 q v h2 with h4 | h4
    · omega
    · rw [h3]; exact h4
def zeros (out : List Nat) : Nat := out.count 0
theorem zeros_set {out : List Nat} {i n : Nat} (h : out[i]? = some 0) (hn : 0 < n) : zeros (out.set i n) + 1 = zeros out := by
  induction out generalizing i with
  | nil => simp at h
  | cons x xs ih =>
    cases i with
    | zero => simp at h; subst h; have : ¬ n = 0 := by omega
              simp [zeros, List.count_cons, this]
    | succ i =>
      have := ih (i := i) (by simpa using h)
      simp only [zeros, List.set_cons_succ, List.count_cons] at this ⊢
      omega
theorem Zok.set {S : List Sl} {out : List Nat} (h : Zok S out) {i n : Nat} (hn : n = szOf S i) : Zok S (out.set i n) := by
  refine ⟨by simp [h.1], fun j v hj => ?_⟩
  rw [List.getElem?_set] at hj
  split at hj
  · rename_i e
    subst e
    split at hj
    · cases hj; exact .inr hn
    · cases hj
  · exact h.2 j v hj
/-- Nothing is left to be found. -/
def Fix (S : List Sl) (out : List Nat) (i : Nat) : Prop := ∀ (q : Nat) (s : Sl), q < i → S[q]? = some s → out[q]? = some 0 → ∃ r ∈ s.kids, out.getD r 0 = 0
mutual
theorem Fix.pos {S : List Sl} {out : List Nat} (h : Zok S out) (hf : Fix S out S.length) : ∀ (t : Tr) (q : Nat), Is S q t → 0 < out.getD q 0
  | .mk fs ts, q, ht => by
    rw [Is] at ht
    obtain ⟨s, h1, h2, h3, h4⟩ := ht
    have hq := (List.getElem?_eq_some_iff.1 h1).1
    by_cases h0 : out.getD q 0 = 0
    · have hq0 : out[q]? = some 0 := by
        have : q < out.length := by rw [h.1]; exact hq
        rw [List.getElem?_eq_getElem this]
        simp [List.getD, List.getElem?_eq_getElem this] at h0
        rw [h0]
      obtain ⟨r, hr, hr0⟩ := hf q s hq h1 hq0
      have := Fix.posL h hf ts s.kids h4 r hr
      omega
    · omega
theorem Fix.posL {S : List Sl} {out : List Nat} (h : Zok S out) (hf : Fix S out S.length) : ∀ (ts : List Tr) (l : List Nat), IsL S l ts → ∀ r ∈ l, 0 < out.getD r 0
  | [], [], _, r, hr => by simp at hr
  | [], i :: l, h, _, _ => by simp [IsL] at h
  | t :: ts, [], h, _, _ => by simp [IsL] at h
  | t :: ts, i :: l, hh, r, hr => by
    rw [IsL] at hh
    rcases List.mem_cons.1 hr with rfl | hr
    · exact Fix.pos h hf t r hh.1
    · exact Fix.posL h hf ts l hh.2 r hr
end
noncomputable def szL (S : List Sl) : List Nat := (List.range S.length).map (szOf S)
theorem fix_all {A : Ar} (hA : Inv A [] []) {out : List Nat} (h : Zok A.slots out) (hf : Fix A.slots out A.slots.length) : out = szL A.slots := by
  refine List.ext_getElem? fun i => ?_
  by_cases hi : i < A.slots.length
  · have hio : i < out.length := by rw [h.1]; exact hi
    obtain ⟨s, hs⟩ : ∃ s, A.slots[i]? = some s := ⟨_, List.getElem?_eq_getElem hi⟩
    rw [List.getElem?_eq_getElem hio]
    have hR : (szL A.slots)[i]? = some (szOf A.slots i) := by simp [szL, hi]
    rw [hR]
    rcases h.2 i _ (List.getElem?_eq_getElem hio) with h0 | h0
    · exfalso
      by_cases hr : s.refs = 0
      · obtain ⟨r, hr1, _⟩ := hf i s hi hs (by rw [List.getElem?_eq_getElem hio, h0])
        have := hA.zero i s hs hr
        rw [this] at hr1; simp [zs] at hr1
      · obtain ⟨t, ht⟩ := hA.tree i s hs hr
        have := Fix.pos h hf t i ht
        simp [List.getD, List.getElem?_eq_getElem hio] at this
        omega
    · rw [h0]
  · rw [List.getElem?_eq_none (by rw [h.1]; omega), List.getElem?_eq_none (by simp [szL]; omega)]
end Go.Am.R
