/- AN ARENA AS IT COMES IN. -/
import Derived.Test.YtbmfnoaogebjfaaDoorT14k
set_option linter.unusedSimpArgs false
set_option linter.unusedVariables false
set_option maxRecDepth 20000
namespace Go.Am.R
open Go.Proofs

structure RSl where
  node : Node
  kids : List Int
  refs : Int
  next : Int
structure RAr where
  slots : List RSl
  free : Int
  roots : List Int
def RSl.row (s : RSl) : List AV := s.node.cells ++ [.vec (ints s.kids), .int .i64 s.refs, .int .i64 s.next]
def RAr.cells (A : RAr) : List AV := [.vec (A.slots.map RSl.row), .int .i64 A.free, .vec (ints A.roots)]
def RAr.av (A : RAr) : AV := .agg A.cells
theorem RSl.row_len (s : RSl) : s.row.length = 10 := by simp [RSl.row, Node.cells_len]
theorem RSl.row_take7 (s : RSl) : s.row.take 7 = s.node.cells := by
  rw [RSl.row, List.take_append_of_le_length (by rw [Node.cells_len]; omega)]
  exact Node.cells_take s.node
theorem RSl.row7 (s : RSl) : s.row[7]? = some (.vec (ints s.kids)) := by
  rw [RSl.row, List.getElem?_append_right (by rw [Node.cells_len]; omega), Node.cells_len]; rfl
theorem RSl.row8 (s : RSl) : s.row[8]? = some (.int .i64 s.refs) := by
  rw [RSl.row, List.getElem?_append_right (by rw [Node.cells_len]; omega), Node.cells_len]; rfl
theorem RSl.row9 (s : RSl) : s.row[9]? = some (.int .i64 s.next) := by
  rw [RSl.row, List.getElem?_append_right (by rw [Node.cells_len]; omega), Node.cells_len]; rfl
theorem nrmL_append : ∀ {a b : List AV}, nrmL a = some a → nrmL b = some b → nrmL (a ++ b) = some (a ++ b)
  | [], b, _, hb => by simpa using hb
  | x :: xs, b, ha, hb => by
    simp only [nrmL, Option.bind_eq_some_iff, Option.map_eq_some_iff] at ha
    obtain ⟨y, hy, ys, hys, hxy⟩ := ha
    obtain ⟨rfl, rfl⟩ := List.cons.inj hxy
    simp [nrmL, hy, nrmL_append hys hb]
theorem RSl.row_nrm (s : RSl) : nrmL s.row = some s.row :=
  nrmL_append (Node.nrm_all s.node) (by simp [nrmL, nrm, nrmR_ints])
theorem rows_nrm : ∀ (l : List RSl), nrmR (l.map RSl.row) = some (l.map RSl.row)
  | [] => rfl
  | s :: l => by simp [nrmR, s.row_nrm, rows_nrm l]
theorem RAr.nrm (A : RAr) : Am.nrm A.av = some A.av := by simp [RAr.av, RAr.cells, Am.nrm, nrmL, rows_nrm, nrmR_ints]
/-- Numbers of 64 bits and rows that are not too long. -/
def RSl.ok (s : RSl) : Prop := s.node.ok ∧ s.kids.length ≤ 20000000000000 ∧ ∀ k ∈ s.kids, -9223372036854775808 ≤ k ∧ k ≤ 9223372036854775807
def RAr.ok (A : RAr) : Prop := A.slots.length ≤ 1000000000000000 ∧ (∀ s ∈ A.slots, s.ok) ∧ A.roots.length ≤ 1000000000000000
/-- What is left of a number. -/
def lightL : List RSl → Int → Int
  | [], l => l
  | s :: S, l => if 0 ≤ l then lightL S (small s.node l - s.kids.length) else l
theorem lightL_neg {S : List RSl} {l : Int} (h : l < 0) : lightL S l = l := by
  cases S with
  | nil => rfl
  | cons s S => rw [lightL, if_neg (by omega)]
theorem lightL_drop {S : List RSl} {l : Int} {i : Nat} {s : RSl} (hs : S[i]? = some s) (h : 0 ≤ l) : lightL (S.drop i) l = lightL (S.drop (i + 1)) (small s.node l - s.kids.length) := by
  have hi := (List.getElem?_eq_some_iff.1 hs).1
  have : S.drop i = s :: S.drop (i + 1) := by
    rw [List.drop_eq_getElem_cons hi]
    have := (List.getElem?_eq_some_iff.1 hs).2
    rw [this]
  rw [this, lightL, if_pos h]
theorem small_le {n : Node} {l : Int} (h : 0 ≤ small n l) : small n l + nn n ≤ l := by
  have := small_cnt n l h
  rw [cnt_nn] at this
  omega
theorem nn_pos (n : Node) : 1 ≤ nn n := by cases n; rw [nn]; omega
/-- Few parts. -/
theorem lightL_ok : ∀ (S : List RSl) (l : Int), 0 ≤ lightL S l → (S.length : Int) ≤ l ∧ ∀ s ∈ S, (s.kids.length : Int) ≤ l ∧ (nn s.node : Int) ≤ l
  | [], l, h => by rw [lightL] at h; exact ⟨by simpa using h, by simp⟩
  | s :: S, l, h => by
    rw [lightL] at h
    split at h
    · rename_i hl
      by_cases h1 : 0 ≤ small s.node l - s.kids.length
      · have h0 : 0 ≤ small s.node l := by omega
        have h2 := small_le h0
        have h3 := nn_pos s.node
        obtain ⟨k1, k2⟩ := lightL_ok S _ h
        refine ⟨by simp only [List.length_cons]; omega, fun t ht => ?_⟩
        rcases List.mem_cons.1 ht with rfl | ht
        · omega
        · have := k2 t ht; omega
      · rw [lightL_neg (by omega)] at h; omega
    · omega
end Go.Am.R
