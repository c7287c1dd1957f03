/- TREES AS THE ABSTRACT MACHINE SEES THEM. -/
import Derived.Test.YtbmfnoaogebjfaaDoorMf
set_option linter.unusedSimpArgs false
set_option linter.unusedVariables false
namespace Go.Am

inductive Node where
  | mk (kind : List UInt8) (named : Bool) (field : List UInt8) (frm to bad : Int) (kids : List Node)
  deriving Inhabited

namespace Node
def kind : Node → List UInt8 | mk k _ _ _ _ _ _ => k
def named : Node → Bool | mk _ n _ _ _ _ _ => n
def field : Node → List UInt8 | mk _ _ f _ _ _ _ => f
def frm : Node → Int | mk _ _ _ a _ _ _ => a
def to : Node → Int | mk _ _ _ _ b _ _ => b
def bad : Node → Int | mk _ _ _ _ _ d _ => d
def kids : Node → List Node | mk _ _ _ _ _ _ ks => ks
mutual
def cells : Node → List AV
  | mk k n f a b d ks => [.str k, .bool n, .str f, .int .i64 a, .int .i64 b, .int .i64 d, .vec (cellsL ks)]
def cellsL : List Node → Rows
  | [] => []
  | x :: xs => cells x :: cellsL xs
end
def rows (ks : List Node) : Rows := cellsL ks
abbrev av (n : Node) : AV := .agg n.cells

theorem rows_len (ks : List Node) : (rows ks).length = ks.length := by
  induction ks with
  | nil => rfl
  | cons x xs ih => simpa [rows, cellsL] using ih
theorem rows_get (ks : List Node) (i : Nat) : (rows ks)[i]? = (ks[i]?).map cells := by
  induction ks generalizing i with
  | nil => simp [rows, cellsL]
  | cons x xs ih =>
    cases i with
    | zero => simp [rows, cellsL]
    | succ i => simpa [rows, cellsL] using ih i
theorem rows_map (ks : List Node) : rows ks = ks.map cells := by
  apply List.ext_getElem?
  intro i
  rw [rows_get, List.getElem?_map]
theorem cells_eq (n : Node) : n.cells = [.str n.kind, .bool n.named, .str n.field, .int .i64 n.frm, .int .i64 n.to, .int .i64 n.bad, .vec (rows n.kids)] := by
  cases n; simp [cells, kind, named, field, frm, to, bad, kids, rows]
theorem cells_len (n : Node) : n.cells.length = 7 := by rw [cells_eq]; rfl
theorem cells_take (n : Node) : n.cells.take 7 = n.cells := by rw [cells_eq]; rfl
theorem cells_drop (n : Node) : n.cells.drop 7 = [] := by rw [cells_eq]; rfl
theorem cells0 (n : Node) : n.cells[0]? = some (.str n.kind) := by rw [cells_eq]; rfl
theorem cells1 (n : Node) : n.cells[1]? = some (.bool n.named) := by rw [cells_eq]; rfl
theorem cells2 (n : Node) : n.cells[2]? = some (.str n.field) := by rw [cells_eq]; rfl
theorem cells3 (n : Node) : n.cells[3]? = some (.int .i64 n.frm) := by rw [cells_eq]; rfl
theorem cells4 (n : Node) : n.cells[4]? = some (.int .i64 n.to) := by rw [cells_eq]; rfl
theorem cells5 (n : Node) : n.cells[5]? = some (.int .i64 n.bad) := by rw [cells_eq]; rfl
theorem cells6 (n : Node) : n.cells[6]? = some (.vec (rows n.kids)) := by rw [cells_eq]; rfl

/- A tree that a machine can hold. -/
mutual
def ok : Node → Prop
  | mk k _ f a b d ks => k.length ≤ 140737488355328 ∧ f.length ≤ 140737488355328 ∧ (-9223372036854775808 ≤ a ∧ a ≤ 9223372036854775807) ∧ (-9223372036854775808 ≤ b ∧ b ≤ 9223372036854775807) ∧
      (-9223372036854775808 ≤ d ∧ d ≤ 9223372036854775807) ∧ ks.length ≤ 1600000000000 ∧ oks ks
def oks : List Node → Prop
  | [] => True
  | x :: xs => ok x ∧ oks xs
end
theorem oks_mem : ∀ {ks : List Node}, oks ks → ∀ x ∈ ks, x.ok
  | [], _, x, hx => by simp at hx
  | y :: ys, h, x, hx => by
    simp only [oks] at h
    rcases List.mem_cons.1 hx with rfl | hx
    · exact h.1
    · exact oks_mem h.2 x hx
theorem ok_kids {n : Node} (h : n.ok) : n.kids.length ≤ 1600000000000 := by cases n; simp only [ok] at h; exact h.2.2.2.2.2.1
theorem ok_kid {n : Node} (h : n.ok) : ∀ x ∈ n.kids, x.ok := by cases n; simp only [ok] at h; exact oks_mem h.2.2.2.2.2.2
theorem ok_kind {n : Node} (h : n.ok) : n.kind.length ≤ 140737488355328 := by cases n; simp only [ok] at h; exact h.1
theorem ok_field {n : Node} (h : n.ok) : n.field.length ≤ 140737488355328 := by cases n; simp only [ok] at h; exact h.2.1
theorem ok_frm {n : Node} (h : n.ok) : -9223372036854775808 ≤ n.frm ∧ n.frm ≤ 9223372036854775807 := by cases n; simp only [ok] at h; exact h.2.2.1
theorem ok_to {n : Node} (h : n.ok) : -9223372036854775808 ≤ n.to ∧ n.to ≤ 9223372036854775807 := by cases n; simp only [ok] at h; exact h.2.2.2.1
theorem ok_bad {n : Node} (h : n.ok) : -9223372036854775808 ≤ n.bad ∧ n.bad ≤ 9223372036854775807 := by cases n; simp only [ok] at h; exact h.2.2.2.2.1

theorem ind {P : Node → Prop} (h : ∀ n, (∀ k ∈ n.kids, P k) → P n) (n : Node) : P n := by
  have : ∀ n : Nat, ∀ x : Node, SizeOf.sizeOf x < n → P x := by
    intro n
    induction n with
    | zero => intro x hx; omega
    | succ n ih =>
      intro x hx
      refine h x fun k hk => ih k ?_
      have := List.sizeOf_lt_of_mem hk
      cases x
      simp only [kids] at this
      simp at hx
      omega
  exact this _ n (Nat.lt_succ_self _)

theorem nrm_all : (∀ n : Node, nrmL n.cells = some n.cells) := by
  intro n
  induction n using ind with
  | h n ih =>
    have hr : ∀ ks : List Node, (∀ k ∈ ks, nrmL k.cells = some k.cells) → nrmR (rows ks) = some (rows ks) := by
      intro ks
      induction ks with
      | nil => intro _; rfl
      | cons x xs ihx =>
        intro h
        have h1 := ihx fun k hk => h k (List.mem_cons_of_mem _ hk)
        simp only [rows, cellsL] at h1 ⊢
        simp only [nrmR, h x List.mem_cons_self, h1, Option.bind_some, Option.map_some]
    have := hr n.kids ih
    rw [cells_eq]
    simp [nrmL, nrm, this]
theorem nrm_rows (ks : List Node) : nrmR (rows ks) = some (rows ks) := by
  induction ks with
  | nil => rfl
  | cons x xs ih =>
    simp only [rows, cellsL] at ih ⊢
    simp only [nrmR, nrm_all x, ih, Option.bind_some, Option.map_some]
theorem nrm_av (n : Node) : nrm n.av = some n.av := by simp [av, nrm, nrm_all]
theorem nrm_vec (ks : List Node) : nrm (.vec (rows ks)) = some (.vec (rows ks)) := by simp [nrm, nrm_rows]
end Node

theorem wrap_u64 (n : Int) : IntKind.u64.wrap n = n % 18446744073709551616 := by simp [IntKind.wrap, IntKind.bits, IntKind.signed]
theorem drop_of_get {α : Type} {l : List α} {i : Nat} {x : α} (h : l[i]? = some x) : l.drop i = x :: l.drop (i + 1) := by
  rw [List.getElem?_eq_some_iff] at h
  obtain ⟨h, rfl⟩ := h
  exact List.drop_eq_getElem_cons h
theorem get_of_lt {α : Type} {l : List α} {i : Nat} (h : i < l.length) : ∃ x, l[i]? = some x := ⟨_, List.getElem?_eq_getElem h⟩

theorem nrmR_append {a b a' b' : Rows} (h : nrmR a = some a') (k : nrmR b = some b') : nrmR (a ++ b) = some (a' ++ b') := by
  induction a generalizing a' with
  | nil => simp [nrmR] at h; subst h; simpa using k
  | cons x xs ih =>
    simp only [nrmR, Option.bind_eq_some_iff, Option.map_eq_some_iff] at h
    obtain ⟨x', hx, xs', hxs, rfl⟩ := h
    simp [nrmR, hx, ih hxs]

/-! ### Rows of numbers -/
def ints (l : List Int) : Rows := l.map fun x => [.int .i64 x]
theorem ints_len (l : List Int) : (ints l).length = l.length := by simp [ints]
theorem ints_get (l : List Int) (i : Nat) : (ints l)[i]? = (l[i]?).map fun x => [.int .i64 x] := by simp [ints]
theorem nrmR_ints (l : List Int) : nrmR (ints l) = some (ints l) := by
  induction l with
  | nil => rfl
  | cons x xs ih =>
    simp only [ints, List.map_cons] at ih ⊢
    simp [nrmR, nrmL, nrm, ih]
theorem nrm_ints (l : List Int) : nrm (.vec (ints l)) = some (.vec (ints l)) := by simp [nrm, nrmR_ints]
end Go.Am
