/- WHAT A RUN OBEYS. -/
import Derived.Test.YtjdhcjhalkjamaaDoorV1
set_option linter.unusedVariables false
set_option linter.unusedSimpArgs false
namespace Go.Am.V

theorem hits_lt {s : List UInt8} {n : Nat} {i : Ins} (h : hits s n i = true) : n < s.length := by
  unfold hits at h
  split at h
  · rename_i b hb
    exact (List.getElem?_eq_some_iff.1 hb).1
  · cases h

/-- What is looked at grows. -/
theorem ru_seen (p : List Ins) (s : List UInt8) (first : Int) : ∀ (k n : Nat) (now : Int) (seen pc : Nat), (seen : Int) ≤ (ru p s first k n now seen pc).2.2
  | 0, n, now, seen, pc => Int.le_refl _
  | k + 1, n, now, seen, pc => by
    unfold ru
    split
    · exact Int.le_refl _
    · rename_i i hi
      split
      · split
        · exact Int.le_trans (by omega) (ru_seen p s first k _ _ _ _)
        · exact Int.le_trans (by omega) (ru_seen p s first k _ _ _ _)
      · split
        · split <;> exact ru_seen p s first k _ _ _ _
        · split
          · exact ru_seen p s first k _ _ _ _
          · split
            · exact ru_seen p s first k _ _ _ _
            · split
              · exact ru_seen p s first k _ _ _ _
              · split
                · exact Int.le_refl _
                · split
                  · split <;> exact Int.le_refl _
                  · exact ru_seen p s first k _ _ _ _

theorem ru_looked {p : List Ins} {s : List UInt8} {first : Int} {k n : Nat} {now : Int} {seen pc : Nat} {i : Ins} (hi : p[pc]? = some i) (h1 : i.op = 1) : ((n + 1 : Nat) : Int) ≤ (ru p s first (k + 1) n now seen pc).2.2 := by
  rw [ru, hi]
  simp only [h1, if_true]
  split
  · exact Int.le_trans (by omega) (ru_seen p s first k _ _ _ _)
  · exact Int.le_trans (by omega) (ru_seen p s first k _ _ _ _)

/-- Behind what was looked at nothing plays a part. -/
theorem ru_cut (p : List Ins) (s other : List UInt8) (first : Int) (m : Nat) (hm : m ≤ s.length) : ∀ (k n : Nat) (now : Int) (seen pc : Nat), (ru p s first k n now seen pc).2.2 ≤ (m : Int) → ru p (s.take m ++ other) first k n now seen pc = ru p s first k n now seen pc
  | 0, n, now, seen, pc, h => rfl
  | k + 1, n, now, seen, pc, h => by
    cases hi : p[pc]? with
    | none => simp [ru, hi]
    | some i =>
      have hsame : i.op = 1 → hits (s.take m ++ other) n i = hits s n i := fun h1 => by
        have := ru_looked (s := s) (first := first) (k := k) (n := n) (now := now) (seen := seen) hi h1
        have hn : n < m := by omega
        unfold hits
        rw [List.getElem?_append_left (by rw [List.length_take]; omega), List.getElem?_take_of_lt hn]
      rw [ru, hi] at h
      simp only at h
      rw [ru, ru, hi]
      simp only
      split
      · rename_i h1
        rw [hsame h1]
        rw [if_pos h1] at h
        split
        · rename_i h2
          rw [if_pos h2] at h
          exact ru_cut p s other first m hm k _ _ _ _ h
        · rename_i h2
          rw [if_neg h2] at h
          exact ru_cut p s other first m hm k _ _ _ _ h
      · rename_i h1
        rw [if_neg h1] at h
        split
        · rename_i h2
          rw [if_pos h2] at h
          split
          · rename_i h3
            rw [if_pos h3] at h
            exact ru_cut p s other first m hm k _ _ _ _ h
          · rename_i h3
            rw [if_neg h3] at h
            exact ru_cut p s other first m hm k _ _ _ _ h
        · rename_i h2
          rw [if_neg h2] at h
          split
          · rename_i h3
            rw [if_pos h3] at h
            exact ru_cut p s other first m hm k _ _ _ _ h
          · rename_i h3
            rw [if_neg h3] at h
            split
            · rename_i h4
              rw [if_pos h4] at h
              exact ru_cut p s other first m hm k _ _ _ _ h
            · rename_i h4
              rw [if_neg h4] at h
              split
              · rename_i h5
                rw [if_pos h5] at h
                exact ru_cut p s other first m hm k _ _ _ _ h
              · rename_i h5
                rw [if_neg h5] at h
                split
                · rfl
                · rename_i h6
                  rw [if_neg h6] at h
                  split
                  · rfl
                  · rename_i h7
                    rw [if_neg h7] at h
                    exact ru_cut p s other first m hm k _ _ _ _ h

/-- What comes of a run. -/
def Fine (s : List UInt8) (r : Int × Int × Int) : Prop := (r.1 = -1 ∨ (1 ≤ r.1 ∧ r.1 ≤ s.length ∧ r.1 ≤ r.2.2)) ∧ (0 ≤ r.2.2 ∧ r.2.2 ≤ s.length + 1) ∧ 0 ≤ r.2.1 ∧ r.2.1 ≤ 255

theorem ru_fine (p : List Ins) (hp : ∀ i ∈ p, 0 ≤ i.x ∧ i.x ≤ 255) (s : List UInt8) (first : Int) (hf : 0 ≤ first ∧ first ≤ 255) : ∀ (k n : Nat) (now : Int) (seen pc : Nat), n ≤ seen → n ≤ s.length → seen ≤ s.length + 1 → 0 ≤ now → now ≤ 255 → Fine s (ru p s first k n now seen pc)
  | 0, n, now, seen, pc, h1, h2, h3, h4, h5 => ⟨.inl rfl, ⟨by show (0 : Int) ≤ (seen : Int); omega, by show (seen : Int) ≤ _; omega⟩, hf⟩
  | k + 1, n, now, seen, pc, h1, h2, h3, h4, h5 => by
    have hend : Fine s (-1, first, (seen : Int)) := ⟨.inl rfl, ⟨by show (0 : Int) ≤ (seen : Int); omega, by show (seen : Int) ≤ _; omega⟩, hf⟩
    unfold ru
    split
    · exact hend
    · rename_i i hi
      have hx := hp i (List.mem_of_getElem? hi)
      split
      · split
        · rename_i hh
          have := hits_lt hh
          exact ru_fine p hp s first hf k _ _ _ _ (by omega) (by omega) (by omega) h4 h5
        · exact ru_fine p hp s first hf k _ _ _ _ (by omega) (by omega) (by omega) h4 h5
      · split
        · split <;> exact ru_fine p hp s first hf k _ _ _ _ h1 h2 h3 h4 h5
        · split
          · exact ru_fine p hp s first hf k _ _ _ _ h1 h2 h3 hx.1 hx.2
          · split
            · have a1 := Int.tmod_nonneg 256 (show 0 ≤ now + i.x by omega)
              have a2 := Int.tmod_lt_of_pos (now + i.x) (b := 256) (by omega)
              exact ru_fine p hp s first hf k _ _ _ _ h1 h2 h3 a1 (by omega)
            · split
              · exact ru_fine p hp s first hf k _ _ _ _ h1 h2 h3 h4 h5
              · split
                · exact hend
                · split
                  · split
                    · exact hend
                    · exact ⟨.inr ⟨by show (1 : Int) ≤ (n : Int); omega, by show (n : Int) ≤ _; omega, by show (n : Int) ≤ (seen : Int); omega⟩, ⟨by show (0 : Int) ≤ (seen : Int); omega, by show (seen : Int) ≤ _; omega⟩, h4, h5⟩
                  · exact ru_fine p hp s first hf k _ _ _ _ h1 h2 h3 h4 h5

/-- Without operations on states. -/
theorem ru_still (p : List Ins) (hp : ∀ i ∈ p, i.op ≠ 3 ∧ i.op ≠ 4) (s : List UInt8) (first : Int) : ∀ (k n seen pc : Nat), (ru p s first k n first seen pc).2.1 = first
  | 0, n, seen, pc => rfl
  | k + 1, n, seen, pc => by
    unfold ru
    split
    · rfl
    · rename_i i hi
      have hx := hp i (List.mem_of_getElem? hi)
      split
      · split <;> exact ru_still p hp s first k _ _ _
      · split
        · split <;> exact ru_still p hp s first k _ _ _
        · rw [if_neg hx.1, if_neg hx.2]
          split
          · exact ru_still p hp s first k _ _ _
          · split
            · rfl
            · split
              · split <;> rfl
              · exact ru_still p hp s first k _ _ _

theorem st8_st8 (state : Int) : st8 (st8 state) = st8 state := by
  have h := st8_range state
  generalize st8 state = x at h
  unfold st8
  have : IntKind.u64.wrap x = x := by
    simp only [IntKind.wrap, IntKind.signed, IntKind.bits]
    simp
    omega
  rw [this]
  exact Int.tmod_eq_of_lt h.1 (by omega)

theorem runV_st8 (p : List Ins) (s : List UInt8) (at' state : Int) : runV p s at' (st8 state) = runV p s at' state := by
  unfold runV
  rw [st8_st8]

theorem runV_ahead (p : List Ins) (a s : List UInt8) (state : Int) : runV p (a ++ s) (a.length : Int) state = runV p s 0 state := by
  unfold runV
  rw [if_neg (by simp <;> omega), if_neg (by first | omega | (simp <;> omega))]
  simp

theorem runV_fine {p : List Ins} (hf : fitV p = true) (s : List UInt8) (state : Int) : Fine s (runV p s 0 state) := by
  unfold runV
  rw [if_neg (by omega)]
  have h8 := st8_range state
  exact ru_fine p (fun i hi => by
    obtain ⟨k, hk⟩ := List.getElem?_of_mem hi
    exact (fit1_facts (fitV_get hf hk)).2.1) s (st8 state) h8 10000 0 (st8 state) 0 0 (by omega) (by omega) (by omega) h8.1 h8.2

theorem runV_cut (p : List Ins) (s other : List UInt8) (state : Int) (h : (runV p s 0 state).2.2 ≤ (s.length : Int)) (h0 : 0 ≤ (runV p s 0 state).2.2) : runV p (s.take (runV p s 0 state).2.2.toNat ++ other) 0 state = runV p s 0 state := by
  have e : ∀ s' : List UInt8, runV p s' 0 state = ru p s' (st8 state) 10000 0 (st8 state) 0 0 := fun s' => by
    unfold runV
    rw [if_neg (by omega)]
    simp
  rw [e, e] at *
  exact ru_cut p s other (st8 state) _ (by omega) _ _ _ _ _ (by omega)

theorem runV_still {p : List Ins} (hp : ∀ i ∈ p, i.op ≠ 3 ∧ i.op ≠ 4) (s : List UInt8) (at' state : Int) (h0 : 0 ≤ at') (h1 : at' ≤ s.length) : (runV p s at' state).2.1 = st8 state := by
  unfold runV
  rw [if_neg (by omega)]
  exact ru_still p hp _ _ _ _ _ _
end Go.Am.V
