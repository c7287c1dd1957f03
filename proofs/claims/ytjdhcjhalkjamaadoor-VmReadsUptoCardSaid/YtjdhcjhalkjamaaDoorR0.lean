/- A RANGE OVER THE TABLE OF OPERATIONS; THE NAMES BY KIND. -/
import Derived.Test.YtjdhcjhalkjamaaDoorQ2
import Derived.Maps.RangeWalk
set_option linter.unusedVariables false
set_option linter.unusedSimpArgs false
namespace Go.Am.V
open Go.Proofs Go.RowKit Go.MapKept Go.ChangeMaps

structure NextW (w : World) (r bm since clock : Nat) (seen : Array Nat) (es : Array MapEntry) (e : MapEntry) (w2 : World) : Prop where
  mem : e ∈ (leftOf es seen).toList
  world : ∃ w1, (w1 = w ∨ w1 = w.drew) ∧ w2 = setBlock w1 r (.mapIter (some bm) since (seen.push e.born) clock)

theorem wpList_next_raw {P : Program} (w : World) {ops : Array Oper} {rest : List Oper} {o : Oper} {a : Act} {Q : Exit → Act → World → Prop} (hg : o.guard = none) (it : Operand) (hop : o.op = Op.next it false) (r bm since c0 : Nat) (seen : Array Nat) (es : Array MapEntry) (clock : Nat)
    (hit : a.eval it = .pointer (some ⟨r, 0, none⟩)) (hr : w.heap[r]? = some (.mapIter (some bm) since seen c0)) (hb : w.heap[bm]? = some (.map es clock)) (hold : ∀ x ∈ es.toList, x.born < since) (hsc : since ≤ c0)
    (hDone : (leftOf es seen).size = 0 → wpList P ops Q rest (a.put o.dst (.tuple #[.bool false])) w)
    (hMore : ∀ e w2, NextW w r bm since clock seen es e w2 → wpList P ops Q rest (a.put o.dst (.tuple #[.bool true, e.key, e.val])) w2) :
    wpList P ops Q (o :: rest) a w := by
  refine wpList_plain hg fun K' hK' => ?_
  unfold Oper.wp
  rcases run_next_at (P := P) w o.type r bm since c0 seen es clock hr hb hold hsc with ⟨h0, hrun⟩ | ⟨e, he, w1, hw, hrun⟩
  · simp [execOp, hop, hit, hrun, Result.andThen]
    exact hK' _ _ (hDone h0)
  · simp [execOp, hop, hit, hrun, Result.andThen]
    exact hK' _ _ (hMore e _ ⟨he, w1, hw, rfl⟩)

/-- The table's entries. -/
def nameOf (n : Nat) : List UInt8 := match n with | 1 => [99, 104, 97, 114] | 2 => [105, 115] | 3 => [115, 101, 116] | 4 => [97, 100, 100] | 5 => [103, 111, 116, 111] | 6 => [121, 101, 115] | 7 => [110, 111] | _ => []
def fldsOf (n : Nat) : List UInt8 := match n with | 1 => [88, 89, 90] | 2 => [88, 90] | 3 => [88] | 4 => [88] | 5 => [90] | _ => []
theorem opMes_mem {e : MapEntry} (h : e ∈ opMes.toList) : e.born < 7 ∧ e.key = .string ⟨(nameOf (e.born + 1)).toArray⟩ ∧ e.val = .agg #[.int .i64 (e.born + 1 : Nat), .string ⟨(fldsOf (e.born + 1)).toArray⟩] := by
  simp only [opMes, List.mem_cons, List.not_mem_nil, or_false] at h
  rcases h with rfl | rfl | rfl | rfl | rfl | rfl | rfl <;> exact ⟨by decide, rfl, rfl⟩
theorem opMes_get (k : Nat) (h : k < 7) : ∃ e ∈ opMes.toList, e.born = k := by
  obtain rfl | rfl | rfl | rfl | rfl | rfl | rfl : k = 0 ∨ k = 1 ∨ k = 2 ∨ k = 3 ∨ k = 4 ∨ k = 5 ∨ k = 6 := by omega
  · exact ⟨_, by simp only [opMes]; exact List.mem_cons_self, rfl⟩
  · exact ⟨_, by simp only [opMes]; exact List.mem_cons_of_mem _ List.mem_cons_self, rfl⟩
  · exact ⟨opMes[2], by simp [opMes], rfl⟩
  · exact ⟨opMes[3], by simp [opMes], rfl⟩
  · exact ⟨opMes[4], by simp [opMes], rfl⟩
  · exact ⟨opMes[5], by simp [opMes], rfl⟩
  · exact ⟨opMes[6], by simp [opMes], rfl⟩
theorem opMes_born : ∀ x ∈ opMes.toList, x.born < 7 := fun x hx => (opMes_mem hx).1
theorem opMes_nodup : (opMes.toList.map (·.born)).Nodup := by decide

/-- The names as far as they have been seen. -/
structure Named (es : Array MapEntry) (seen : Array Nat) : Prop where
  isk : ∀ x ∈ es.toList, ∃ k : Nat, k < 7 ∧ seen.contains k = true ∧ x.key = .int .i64 (k + 1 : Nat) ∧ x.val = .string ⟨(nameOf (k + 1)).toArray⟩
  has : ∀ k, k < 7 → seen.contains k = true → ∃ x ∈ es.toList, x.key = .int .i64 (k + 1 : Nat)
theorem Named.nil : Named #[] #[] := ⟨fun x hx => by simp at hx, fun k _ h => by simp at h⟩
theorem Named.push {es : Array MapEntry} {seen : Array Nat} (h : Named es seen) {k : Nat} (hk : k < 7) {c : Nat} : Named (es.push ⟨.int .i64 (k + 1 : Nat), .string ⟨(nameOf (k + 1)).toArray⟩, c⟩) (seen.push k) := by
  refine ⟨fun x hx => ?_, fun j hj hs => ?_⟩
  · simp only [Array.toList_push, List.mem_append, List.mem_singleton] at hx
    rcases hx with hx | rfl
    · obtain ⟨j, h1, h2, h3⟩ := h.isk x hx
      exact ⟨j, h1, by simp at h2 ⊢; exact .inl h2, h3⟩
    · exact ⟨k, hk, by simp, rfl, rfl⟩
  · by_cases hjk : j = k
    · subst hjk
      exact ⟨_, by simp only [Array.toList_push, List.mem_append, List.mem_singleton]; exact .inr rfl, rfl⟩
    · have : seen.contains j = true := by
        simp at hs ⊢
        exact hs.resolve_right hjk
      obtain ⟨x, hx, hk'⟩ := h.has j hj this
      exact ⟨x, by simp only [Array.toList_push, List.mem_append]; exact .inl hx, hk'⟩

theorem findNow_none {n : Int} : ∀ {l : List MapEntry} {i : Nat}, (∀ x ∈ l, ∃ m : Int, x.key = .int .i64 m ∧ m ≠ n) → Instr.findNow (.int .i64) (.int .i64 n) l i = some none
  | [], i, _ => rfl
  | x :: l, i, h => by
    obtain ⟨m, hm, hne⟩ := h x List.mem_cons_self
    have ih := findNow_none (n := n) (l := l) (i := i + 1) fun y hy => h y (List.mem_cons_of_mem _ hy)
    have hb : (n == m) = false := beq_eq_false_iff_ne.2 (Ne.symm hne)
    simp [Instr.findNow, Instr.sameNow, hm, ih, hb]
theorem findNow_some {n : Int} {v : Value} : ∀ {l : List MapEntry} {i : Nat}, (∀ x ∈ l, ∃ m : Int, x.key = .int .i64 m ∧ (m = n → x.val = v)) → (∃ x ∈ l, x.key = .int .i64 n) → ∃ j, Instr.findNow (.int .i64) (.int .i64 n) l i = some (some (j, v))
  | [], i, _, h => by obtain ⟨x, hx, _⟩ := h; simp at hx
  | x :: l, i, h, hx => by
    obtain ⟨m, hm, hv⟩ := h x List.mem_cons_self
    by_cases e : m = n
    · subst e
      exact ⟨i, by simp [Instr.findNow, Instr.sameNow, hm, hv rfl]⟩
    · obtain ⟨y, hy, hk⟩ := hx
      rcases List.mem_cons.1 hy with rfl | hy
      · rw [hm] at hk; cases hk; exact absurd rfl e
      · obtain ⟨j, hj⟩ := findNow_some (n := n) (v := v) (l := l) (i := i + 1) (fun z hz => h z (List.mem_cons_of_mem _ hz)) ⟨y, hy, hk⟩
        refine ⟨j, ?_⟩
        have hb : (n == m) = false := beq_eq_false_iff_ne.2 (Ne.symm e)
        simp [Instr.findNow, Instr.sameNow, hm, hj, hb]

theorem Named.fresh {es : Array MapEntry} {seen : Array Nat} (h : Named es seen) {k : Nat} (hs : seen.contains k = false) : Instr.findNow (.int .i64) (.int .i64 (k + 1 : Nat)) es.toList 0 = some none :=
  findNow_none fun x hx => by
    obtain ⟨j, _, h2, h3, _⟩ := h.isk x hx
    refine ⟨_, h3, fun e => ?_⟩
    have : j = k := by omega
    subst this
    rw [hs] at h2; cases h2
theorem Named.find {es : Array MapEntry} {seen : Array Nat} (h : Named es seen) (hall : ∀ k, k < 7 → seen.contains k = true) {k : Nat} (hk : k < 7) : ∃ j, Instr.findNow (.int .i64) (.int .i64 (k + 1 : Nat)) es.toList 0 = some (some (j, .string ⟨(nameOf (k + 1)).toArray⟩)) :=
  findNow_some (fun x hx => by
    obtain ⟨j, _, _, h3, h4⟩ := h.isk x hx
    refine ⟨_, h3, fun e => ?_⟩
    have : j = k := by omega
    subst this
    exact h4) (h.has k hk (hall k hk))

theorem left_all {seen : Array Nat} (h : (leftOf opMes seen).size = 0) : ∀ k, k < 7 → seen.contains k = true := by
  intro k hk
  obtain ⟨e, he, rfl⟩ := opMes_get k hk
  have h0 : leftOf opMes seen = #[] := Array.eq_empty_of_size_eq_zero h
  unfold leftOf at h0
  rw [Array.filter_eq_empty_iff] at h0
  have := h0 e (by simpa using he)
  simpa using this
theorem left_mem {seen : Array Nat} {e : MapEntry} (h : e ∈ (leftOf opMes seen).toList) : e ∈ opMes.toList ∧ seen.contains e.born = false := by
  unfold leftOf at h
  simp at h
  exact ⟨by simpa using h.1, by simpa using h.2⟩
end Go.Am.V
