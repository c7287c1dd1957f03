/- THE FREE SLOTS' ROW, PLAINLY, ON ANY ARENA. -/
import Derived.Test.YtbmfnoaogebjfaaDoorV3
set_option linter.unusedSimpArgs false
set_option linter.unusedVariables false
namespace Go.Am.R

/-- The row of free slots, as it comes in. -/
inductive RChain (S : List RSl) : Int → List Nat → Prop
  | nil : RChain S (-1) []
  | cons {i : Nat} {s : RSl} {l : List Nat} (h : S[i]? = some s) (h0 : ¬ s.refs > 0) (hc : RChain S s.next l) : RChain S (i : Int) (i :: l)
def rzc (S : List RSl) : Nat := S.countP fun s => decide (s.refs = 0)
def FreeP (A : RAr) : Prop := ∃ l, RChain A.slots A.free l ∧ l.Nodup ∧ rzc A.slots = l.length
theorem RChain.lt {S : List RSl} {o : Int} {l : List Nat} (h : RChain S o l) : ∀ i ∈ l, i < S.length := by
  induction h with
  | nil => simp
  | cons h h0 hc ih =>
    intro j hj
    rcases List.mem_cons.1 hj with rfl | hj
    · exact (List.getElem?_eq_some_iff.1 h).1
    · exact ih j hj
/-- A way along the row. -/
inductive RPath (S : List RSl) : Int → List Nat → Int → Prop
  | nil (o : Int) : RPath S o [] o
  | snoc {o : Int} {l : List Nat} {i : Nat} {s : RSl} (h : RPath S o l (i : Int)) (hs : S[i]? = some s) (h0 : ¬ s.refs > 0) : RPath S o (l ++ [i]) s.next
theorem RChain.path {S : List RSl} {o e : Int} {p : List Nat} (hp : RPath S o p e) : ∀ {l : List Nat}, RChain S o l → ∃ r, l = p ++ r ∧ RChain S e r := by
  induction hp with
  | nil => intro l h; exact ⟨l, rfl, h⟩
  | @snoc p i s hp hs h0 ih =>
    intro l h
    obtain ⟨r, rfl, hr⟩ := ih h
    generalize he : (i : Int) = e at hr
    cases hr with
    | nil => omega
    | @cons i' s' l' h1 h2 h3 =>
      have : i' = i := by omega
      subst this
      rw [hs] at h1; cases h1
      exact ⟨l', by simp, h3⟩
theorem RPath.chain {S : List RSl} {o e : Int} {p : List Nat} (hp : RPath S o p e) : ∀ {r : List Nat}, RChain S e r → RChain S o (p ++ r) := by
  induction hp with
  | nil => intro r h; exact h
  | @snoc p i s hp hs h0 ih =>
    intro r h
    have := ih (.cons hs h0 h)
    simpa using this
theorem RPath.lt {S : List RSl} {o e : Int} {p : List Nat} (hp : RPath S o p e) : ∀ i ∈ p, i < S.length := by
  induction hp with
  | nil => simp
  | snoc hp hs h0 ih =>
    intro j hj
    rcases List.mem_append.1 hj with h | h
    · exact ih j h
    · rw [List.mem_singleton] at h; subst h; exact (List.getElem?_eq_some_iff.1 hs).1
theorem RPath.len {S : List RSl} {o e : Int} {p : List Nat} (hp : RPath S o p e) (hn : p.Nodup) : p.length ≤ S.length := by
  have := nodup_len p (List.range S.length) hn fun x hx => by simpa using hp.lt x hx
  simpa using this
/-- Where it goes wrong. -/
theorem free_bad {A : RAr} {p : List Nat} {e : Int} (hp : RPath A.slots A.free p e) (he : e ≠ -1) (hbad : e < 0 ∨ (A.slots.length : Int) ≤ e ∨ e.toNat ∈ p ∨ ∃ s, A.slots[e.toNat]? = some s ∧ s.refs > 0) : ¬ FreeP A := by
  rintro ⟨l, hc, hn, _⟩
  obtain ⟨r, rfl, hr⟩ := hc.path hp
  cases hr with
  | nil => exact he rfl
  | @cons i s l' h1 h2 h3 =>
    have hi := (List.getElem?_eq_some_iff.1 h1).1
    rcases hbad with h | h | h | ⟨s', h, h'⟩
    · omega
    · omega
    · rw [Int.toNat_natCast] at h
      rw [List.nodup_append] at hn
      exact hn.2.2 i h i (by simp) rfl
    · rw [Int.toNat_natCast, h1] at h; cases h; exact h2 h'
theorem free_end {A : RAr} {p : List Nat} (hp : RPath A.slots A.free p (-1)) (hn : p.Nodup) : FreeP A ↔ rzc A.slots = p.length := by
  refine ⟨fun ⟨l, hc, _, hz⟩ => ?_, fun h => ⟨p, by simpa using hp.chain .nil, hn, h⟩⟩
  obtain ⟨r, rfl, hr⟩ := hc.path hp
  generalize he : (-1 : Int) = e at hr
  cases hr with
  | nil => simpa using hz
  | cons h1 h2 h3 => omega
theorem rzc_take {S : List RSl} {j : Nat} {s : RSl} (h : S[j]? = some s) : rzc (S.take (j + 1)) = rzc (S.take j) + (if s.refs = 0 then 1 else 0) := by
  rw [rzc, rzc, List.take_add_one, h, Option.toList, List.countP_append]
  simp [List.countP_cons]
def fl (pre : List Nat) (n : Nat) : Rows := (List.range n).map fun i => [.bool (decide (i ∈ pre))]
theorem fl_len (pre : List Nat) (n : Nat) : (fl pre n).length = n := by simp [fl]
theorem fl_get (pre : List Nat) {n i : Nat} (h : i < n) : (fl pre n)[i]? = some [.bool (decide (i ∈ pre))] := by simp [fl, h]
theorem fl_nil (n : Nat) : List.replicate n [AV.bool false] = fl [] n := by
  simp only [fl]
  refine List.ext_getElem? fun i => ?_
  by_cases h : i < n
  · simp [h]
  · simp [List.getElem?_eq_none, h]
theorem fl_set (pre : List Nat) {n i : Nat} (h : i < n) : (fl pre n).set i [.bool true] = fl (pre ++ [i]) n := by
  refine List.ext_getElem? fun j => ?_
  by_cases hj : j < n
  · rw [fl_get _ hj, List.getElem?_set]
    by_cases e : i = j
    · subst e; simp [fl_len, h]
    · have : j ≠ i := fun h => e h.symm
      simp [e, fl_get _ hj, this]
  · rw [List.getElem?_eq_none (by simp [fl_len]; omega), List.getElem?_eq_none (by simp [fl_len]; omega)]
end Go.Am.R
