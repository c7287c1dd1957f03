/- SIZES, PLAINLY, ON ANY ARENA. -/
import Derived.Test.YtbmfnoaogebjfaaDoorV5
set_option linter.unusedSimpArgs false
set_option linter.unusedVariables false
namespace Go.Am.R
open Classical

/-- A slot that came in, as a slot. -/
def RSl.sl (s : RSl) : Sl := ⟨fsOf s.node, s.kids.map Int.toNat, s.refs, if s.next = -1 then none else some s.next.toNat⟩
def RAr.sl (A : RAr) : List Sl := A.slots.map RSl.sl
theorem sl_get {A : RAr} {i : Nat} {t : Sl} (h : A.sl[i]? = some t) : ∃ s, A.slots[i]? = some s ∧ t = s.sl := by
  simp only [RAr.sl, List.getElem?_map, Option.map_eq_some_iff] at h
  obtain ⟨s, h1, h2⟩ := h
  exact ⟨s, h1, h2.symm⟩
theorem get_sl {A : RAr} {i : Nat} {s : RSl} (h : A.slots[i]? = some s) : A.sl[i]? = some s.sl := by simp [RAr.sl, h]
structure PS (S : List Sl) : Prop where
  zero : ∀ (i : Nat) (s : Sl), S[i]? = some s → s.refs = 0 → s.kids = []
  kid : ∀ (i : Nat) (s : Sl) (q : Nat), S[i]? = some s → q ∈ s.kids → ∃ s', S[q]? = some s' ∧ s'.refs ≠ 0
theorem PlainP.ps {A : RAr} (h : PlainP A) : PS A.sl := by
  refine ⟨fun i t ht h0 => ?_, fun i t q ht hq => ?_⟩
  · obtain ⟨s, h1, rfl⟩ := sl_get ht
    have := ((h.slot i s h1).1.zero h0).1
    simp [RSl.sl, this]
  · obtain ⟨s, h1, rfl⟩ := sl_get ht
    simp only [RSl.sl, List.mem_map] at hq
    obtain ⟨k, hk, rfl⟩ := hq
    obtain ⟨h2, s', h3, h4⟩ := (h.slot i s h1).2.1 k hk
    exact ⟨s'.sl, get_sl h3, h4⟩

/-- How many nodes a slot's tree has, up to 5001; 0: it has none. -/
noncomputable def szG (S : List Sl) (i : Nat) : Nat := if h : ∃ t, Is S i t then min 5001 h.choose.size else if ∃ s, S[i]? = some s ∧ s.refs = 0 then 1 else 0
theorem szG_is {S : List Sl} {i : Nat} {t : Tr} (h : Is S i t) : szG S i = min 5001 t.size := by
  have hex : ∃ t, Is S i t := ⟨t, h⟩
  rw [szG, dif_pos hex, Is.uniq _ _ _ hex.choose_spec h]
theorem size_pos (t : Tr) : 0 < t.size := by cases t; rw [Tr.size]; omega
theorem szG_le (S : List Sl) (i : Nat) : szG S i ≤ 5001 := by rw [szG]; split <;> (try split) <;> omega
theorem szG_zero {S : List Sl} {i : Nat} {s : Sl} (h : S[i]? = some s) (h0 : s.refs = 0) : szG S i = 1 := by
  rw [szG, dif_neg, if_pos ⟨s, h, h0⟩]
  rintro ⟨t, ht⟩
  obtain ⟨s', h1, h2⟩ := ht.used
  rw [h] at h1; cases h1; exact h2 h0
theorem szG_tree {S : List Sl} {i : Nat} {s : Sl} (h : S[i]? = some s) (h0 : s.refs ≠ 0) (hp : 0 < szG S i) : ∃ t, Is S i t := by
  rw [szG] at hp
  split at hp
  · assumption
  · split at hp
    · rename_i h1
      obtain ⟨s', h2, h3⟩ := h1
      rw [h] at h2; cases h2; exact absurd h3 h0
    · omega
def sg (out : List Nat) (l : List Nat) : Nat := (l.map fun q => out.getD q 0).sum
theorem sg_snoc (out l : List Nat) (q : Nat) : sg out (l ++ [q]) = sg out l + out.getD q 0 := by simp [sg]
theorem isL_sum {S : List Sl} : ∀ (ts : List Tr) (l : List Nat), IsL S l ts → min 5001 (1 + (l.map (szG S)).sum) = min 5001 (sizeL ts + 1)
  | [], [], _ => by simp [sizeL]
  | [], i :: l, h => by simp [IsL] at h
  | t :: ts, [], h => by simp [IsL] at h
  | t :: ts, i :: l, h => by
    rw [IsL] at h
    have h1 := isL_sum ts l h.2
    rw [List.map_cons, List.sum_cons, szG_is h.1, sizeL]
    omega
theorem trees_of {S : List Sl} : ∀ (l : List Nat), (∀ q ∈ l, ∃ t, Is S q t) → ∃ ts, IsL S l ts
  | [], _ => ⟨[], by rw [IsL]; trivial⟩
  | q :: l, h => by
    obtain ⟨t, ht⟩ := h q (by simp)
    obtain ⟨ts, hts⟩ := trees_of l fun x hx => h x (by simp [hx])
    exact ⟨t :: ts, by rw [IsL]; exact ⟨ht, hts⟩⟩
theorem sz_step {S : List Sl} (hS : PS S) {i : Nat} {s : Sl} (hs : S[i]? = some s) (hk : ∀ q ∈ s.kids, 0 < szG S q) : min 5001 (1 + (s.kids.map (szG S)).sum) = szG S i ∧ 0 < szG S i := by
  by_cases h0 : s.refs = 0
  · rw [szG_zero hs h0, hS.zero i s hs h0]; simp
  · obtain ⟨ts, hts⟩ := trees_of s.kids fun q hq => by
      obtain ⟨s', h1, h2⟩ := hS.kid i s q hs hq
      exact szG_tree h1 h2 (hk q hq)
    have hi : Is S i (.mk s.fs ts) := by rw [Is]; exact ⟨s, hs, h0, rfl, hts⟩
    rw [szG_is hi, isL_sum ts _ hts, Tr.size]
    omega
/-- What is known so far. -/
def Zok (S : List Sl) (out : List Nat) : Prop := out.length = S.length ∧ ∀ (i v : Nat), out[i]? = some v → v = 0 ∨ v = szG S i
theorem Zok.sum {S : List Sl} {out : List Nat} (h : Zok S out) {l : List Nat} (hl : ∀ q ∈ l, 0 < out.getD q 0) : sg out l = (l.map (szG S)).sum := by
  rw [sg]
  congr 1
  refine List.map_congr_left fun q hq => ?_
  have h1 := hl q hq
  cases h2 : out[q]? with
  | none => simp [List.getD, h2] at h1
  | some v =>
    have h3 : out.getD q 0 = v := by simp [List.getD, h2]
    rcases h.2 q v h2 with h4 | h4
    · omega
    · rw [h3]; exact h4
def zeros (out : List Nat) : Nat := out.count 0
theorem zeros_set {out : List Nat} {i n : Nat} (h : out[i]? = some 0) (hn : 0 < n) : zeros (out.set i n) + 1 = zeros out := by
  induction out generalizing i with
  | nil => simp at h
  | cons x xs ih =>
    cases i with
    | zero => simp at h; subst h; have : ¬ n = 0 := by omega
              simp [zeros, List.count_cons, this]
    | succ i =>
      have := ih (i := i) (by simpa using h)
      simp only [zeros, List.set_cons_succ, List.count_cons] at this ⊢
      omega
theorem Zok.set {S : List Sl} {out : List Nat} (h : Zok S out) {i n : Nat} (hn : n = szG S i) : Zok S (out.set i n) := by
  refine ⟨by simp [h.1], fun j v hj => ?_⟩
  rw [List.getElem?_set] at hj
  split at hj
  · rename_i e
    subst e
    split at hj
    · cases hj; exact .inr hn
    · cases hj
  · exact h.2 j v hj
/-- Nothing is left to be found. -/
def Fix (S : List Sl) (out : List Nat) (i : Nat) : Prop := ∀ (q : Nat) (s : Sl), q < i → S[q]? = some s → out[q]? = some 0 → ∃ r ∈ s.kids, out.getD r 0 = 0
mutual
theorem Fix.pos {S : List Sl} {out : List Nat} (h : Zok S out) (hf : Fix S out S.length) : ∀ (t : Tr) (q : Nat), Is S q t → 0 < out.getD q 0
  | .mk fs ts, q, ht => by
    rw [Is] at ht
    obtain ⟨s, h1, h2, h3, h4⟩ := ht
    have hq := (List.getElem?_eq_some_iff.1 h1).1
    by_cases h0 : out.getD q 0 = 0
    · have hq0 : out[q]? = some 0 := by
        have : q < out.length := by rw [h.1]; exact hq
        rw [List.getElem?_eq_getElem this]
        simp [List.getD, List.getElem?_eq_getElem this] at h0
        rw [h0]
      obtain ⟨r, hr, hr0⟩ := hf q s hq h1 hq0
      have := Fix.posL h hf ts s.kids h4 r hr
      omega
    · omega
theorem Fix.posL {S : List Sl} {out : List Nat} (h : Zok S out) (hf : Fix S out S.length) : ∀ (ts : List Tr) (l : List Nat), IsL S l ts → ∀ r ∈ l, 0 < out.getD r 0
  | [], [], _, r, hr => by simp at hr
  | [], i :: l, h, _, _ => by simp [IsL] at h
  | t :: ts, [], h, _, _ => by simp [IsL] at h
  | t :: ts, i :: l, hh, r, hr => by
    rw [IsL] at hh
    rcases List.mem_cons.1 hr with rfl | hr
    · exact Fix.pos h hf t r hh.1
    · exact Fix.posL h hf ts l hh.2 r hr
end
noncomputable def szL (S : List Sl) : List Nat := (List.range S.length).map (szG S)
theorem fix_all {S : List Sl} (hS : PS S) {out : List Nat} (h : Zok S out) (hf : Fix S out S.length) : out = szL S := by
  refine List.ext_getElem? fun i => ?_
  by_cases hi : i < S.length
  · have hio : i < out.length := by rw [h.1]; exact hi
    obtain ⟨s, hs⟩ : ∃ s, S[i]? = some s := ⟨_, List.getElem?_eq_getElem hi⟩
    rw [List.getElem?_eq_getElem hio]
    have hR : (szL S)[i]? = some (szG S i) := by simp [szL, hi]
    rw [hR]
    rcases h.2 i _ (List.getElem?_eq_getElem hio) with h0 | h0
    · rw [h0]
      congr 1
      by_cases hr : s.refs = 0
      · obtain ⟨r, hr1, _⟩ := hf i s hi hs (by rw [List.getElem?_eq_getElem hio, h0])
        rw [hS.zero i s hs hr] at hr1; simp at hr1
      · refine Decidable.byContradiction fun hne => ?_
        obtain ⟨t, ht⟩ := szG_tree hs hr (by omega)
        have := Fix.pos h hf t i ht
        simp [List.getD, List.getElem?_eq_getElem hio] at this
        omega
    · rw [h0]
  · rw [List.getElem?_eq_none (by rw [h.1]; omega), List.getElem?_eq_none (by simp [szL]; omega)]
end Go.Am.R
