/- THE ABSTRACT MACHINE, THIRTY-NINTH FILE: structs that are compared leaf by leaf; a law's row. -/
import Derived.Test.YtghpjjhdbankhaaAm37
import Derived.Laws.StructEq
set_option linter.unusedSimpArgs false
set_option linter.unusedVariables false
namespace Go.Am
open Go.RowKit
variable {P : Program}

theorem sameLeaves_cons {z : AV} {zs xs : List AV} (h : sameLeaves (z :: zs) xs = true) : ∃ x xs', xs = x :: xs' ∧ sameLeaf z x = true ∧ sameLeaves zs xs' = true := by
  cases xs with
  | nil => simp [sameLeaves] at h
  | cons x xs => simp [sameLeaves] at h; exact ⟨x, xs, rfl, h.1, h.2⟩
theorem sameLeaves_nil {xs : List AV} (h : sameLeaves [] xs = true) : xs = [] := by
  cases xs with
  | nil => rfl
  | cons x xs => simp [sameLeaves] at h
theorem sameLeaf_int {k : IntKind} {n : Int} {x : AV} (h : sameLeaf (.int k n) x = true) : ∃ m, x = .int k m := by
  cases x <;> simp [sameLeaf] at h
  subst h; exact ⟨_, rfl⟩
theorem sameLeaf_str {s : List UInt8} {x : AV} (h : sameLeaf (.str s) x = true) : ∃ m, x = .str m := by
  cases x <;> simp [sameLeaf] at h
  exact ⟨_, rfl⟩
theorem sameLeaf_bool {s : Bool} {x : AV} (h : sameLeaf (.bool s) x = true) : ∃ m, x = .bool m := by
  cases x <;> simp [sameLeaf] at h
  exact ⟨_, rfl⟩
theorem leavesEq_cons {x : AV} {xs ys : List AV} {b : Bool} (h : leavesEq (x :: xs) ys = some b) : ∃ y ys' a b', ys = y :: ys' ∧ leafEq x y = some a ∧ leavesEq xs ys' = some b' ∧ b = (a && b') := by
  cases ys with
  | nil => simp [leavesEq] at h
  | cons y ys =>
    simp only [leavesEq, Option.bind_eq_some_iff, Option.map_eq_some_iff] at h
    obtain ⟨a, ha, b', hb, rfl⟩ := h
    exact ⟨y, ys, a, b', rfl, ha, hb, rfl⟩
theorem leavesEq_nil {ys : List AV} {b : Bool} (h : leavesEq [] ys = some b) : ys = [] ∧ b = true := by
  cases ys with
  | nil => simp [leavesEq] at h; exact ⟨rfl, h⟩
  | cons y ys => simp [leavesEq] at h
theorem leafEq_int {k : IntKind} {n : Int} {y : AV} {a : Bool} (h : leafEq (.int k n) y = some a) : ∃ m, y = .int k m ∧ a = (n == m) := by
  cases y <;> simp [leafEq] at h
  obtain ⟨rfl, rfl⟩ := h
  exact ⟨_, rfl, rfl⟩
theorem leafEq_str {n : List UInt8} {y : AV} {a : Bool} (h : leafEq (.str n) y = some a) : ∃ m, y = .str m ∧ a = (n == m) := by
  cases y <;> simp [leafEq] at h
  subst h
  exact ⟨_, rfl, rfl⟩
theorem leafEq_bool {n : Bool} {y : AV} {a : Bool} (h : leafEq (.bool n) y = some a) : ∃ m, y = .bool m ∧ a = (n == m) := by
  cases y <;> simp [leafEq] at h
  subst h
  exact ⟨_, rfl, rfl⟩
theorem rep_int {G : Gh} {w : World} {k : IntKind} {n : Int} {v : Value} (h : Rep G w (.int k n) v) : v = .int k n := by cases h; rfl
theorem rep_bool {G : Gh} {w : World} {b : Bool} {v : Value} (h : Rep G w (.bool b) v) : v = .bool b := by cases h; rfl
theorem rep_str {G : Gh} {w : World} {s : List UInt8} {v : Value} (h : Rep G w (.str s) v) : v = .string ⟨s.toArray⟩ := by cases h; rfl
theorem arr_eq {vs : Array Value} {l : List Value} (h : vs.toList = l) : vs = l.toArray := by rw [← h]
theorem str_toList (s : List UInt8) : (ByteArray.mk s.toArray).toList = s := by rw [ByteArray.toList_eq]

/-! ### A law's row -/
/-- Nothing is ours; all that is there stays. -/
def Gh.of (w : World) : Gh := ⟨fun _ _ => False, fun _ _ _ => False, fun b f => ∃ u, w.cell? ⟨b, f, none⟩ = some u⟩
theorem St.nil_get (o : Nat) : St.nil.get o = none := by simp [St.get, St.nil]
theorem wrel_of (w : World) : Wrel (Gh.of w) St.nil w where
  len := rfl
  base := Nat.le_refl _
  obj := fun o a h => by rw [St.nil_get] at h; cases h
  inj := fun o o' b h => by obtain ⟨a, ha, _⟩ := h; rw [St.nil_get] at ha; cases ha
  lt := fun o b h => by obtain ⟨a, ha, _⟩ := h; rw [St.nil_get] at ha; cases ha
  fblk := fun o b b' h => h.elim
  fseg := fun o g s s' h => h.elim
  bblk := fun o b h => h.elim
  bseg := fun o g s h => h.elim
  im := fun b f h => h
theorem below_of {w w' : World} {G G' : Gh} {S' : St} (h : Step G St.nil w G' S' w') : Below w.heap.size w w' :=
  ⟨h.os, h.tape, h.output, h.size, fun k hk => h.frame k hk fun o ho => by obtain ⟨a, ha, _⟩ := ho; rw [St.nil_get] at ha; cases ha⟩

theorem FZ_bool_inv {b : Bool} {r : AV} {S : St} (h : FZ (.bool b) r S) : r = .bool b := by
  obtain ⟨l, h⟩ := h
  have key : ∀ x : AV, frz1 S x = some (.bool b, l) → x = .bool b := by
    intro x h
    cases x <;> simp [frz1, nrm, Option.bind_eq_some_iff, Option.map_eq_some_iff] at h
    · obtain ⟨rfl, _⟩ := h; rfl
  cases r with
  | tup vs => simp [frz] at h
  | agg vs => simp [frz, frzA] at h
  | _ => exact key _ (by simpa [frz, frzA] using h)

theorem PC_call {c : Cfg} {f : FuncId} {args : List AV} {v : AV} (h : PC c f args v) (he : c.ext f = none) (hm : c.mode f = .pure) (ha : nrmA args = some args) : ∃ r S', (lim c).call f args St.nil = some (r, S') ∧ FZ v r S' := by
  have := h St.nil
  simp only [callF, callM, he, hm, frzLA_of_nrmA St.nil ha, Option.bind_some, St.lockAll, Option.bind_eq_some_iff, Option.map_eq_some_iff, Option.some.injEq, Prod.mk.injEq] at this
  obtain ⟨r, h1, v', h2, _, rfl, rfl, _⟩ := this
  exact ⟨r.1, r.2, h1, v'.2, h2⟩

/-- What the machine says of a law is so in the model. -/
theorem law_walk {c : Cfg} (hc : CfgOk P c) {f : FuncId} {args : List AV} (h : PC c f args (.bool true)) (he : c.ext f = none) (hm : c.mode f = .pure) (ha : nrmA args = some args) {w : World} {vs : Array Value}
    (hv : RepL (Gh.of w) w args vs.toList) : Calls P f vs w fun e w' => e = .returned (.bool true) ∧ Below w.heap.size w w' := by
  obtain ⟨r, S', h1, h2⟩ := PC_call h he hm ha
  have := FZ_bool_inv h2
  subst this
  refine ((lim_sound hc h1 _ _ _ (wrel_of w) hv).2).mono fun e w' hq => ?_
  obtain ⟨G', u, rfl, _, hst, hr⟩ := hq
  rw [rep_bool hr]
  exact ⟨rfl, below_of hst⟩
end Go.Am
