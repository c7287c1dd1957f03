/- THE ABSTRACT MACHINE, TWENTY-SEVENTH FILE: what operations that come up in another order find. -/
import Derived.Test.YtghpjjhdbankhaaAm25
set_option linter.unusedSimpArgs false
set_option linter.unusedVariables false
namespace Go.Am
variable {P : Program} {c : Cfg}

/-! ### Cells, and who turns them -/
section cut
variable {X V : Type} {n : Nat} {val : Nat → X → V} {T F : Nat → X → Prop} {less : Nat → Nat → Prop}

/-- A cell's content, when the operations of L have been carried out: whoever turns it ahead of a cut is in L, whoever turns it behind is not. -/
def Cut (n : Nat) (val : Nat → X → V) (T : Nat → X → Prop) (L : Nat → Prop) (x : X) (v : V) : Prop :=
  ∃ q, q ≤ n ∧ (∀ j, j < q → T j x → L j) ∧ (∀ j, q ≤ j → j < n → T j x → ¬ L j) ∧ v = val q x

/-- Operations of which one turns what the other looks at have an order. -/
def Ordered (n : Nat) (T F : Nat → X → Prop) (less : Nat → Nat → Prop) : Prop :=
  ∀ i j x, i < n → j < n → T j x → F i x → (j < i → less j i) ∧ (i < j → less i j)

theorem val_const (hv : ∀ i x, i < n → ¬ T i x → val (i + 1) x = val i x) {x : X} : ∀ {k i : Nat}, i + k ≤ n → (∀ j, i ≤ j → j < i + k → ¬ T j x) → val (i + k) x = val i x
  | 0, i, _, _ => rfl
  | k + 1, i, hle, h => by
    rw [← Nat.add_assoc, hv (i + k) x (by omega) (h _ (by omega) (by omega))]
    exact val_const hv (by omega) fun j h1 h2 => h j h1 (by omega)

theorem val_eq (hv : ∀ i x, i < n → ¬ T i x → val (i + 1) x = val i x) {x : X} {i q : Nat} (hiq : i ≤ q) (hq : q ≤ n) (h : ∀ j, i ≤ j → j < q → ¬ T j x) : val q x = val i x := by
  have := val_const hv (x := x) (k := q - i) (i := i) (by omega) fun j h1 h2 => h j h1 (by omega)
  rwa [show i + (q - i) = q by omega] at this

theorem Cut.zero (L : Nat → Prop) (hL : ∀ j, ¬ L j) (x : X) : Cut n val T L x (val 0 x) := ⟨0, Nat.zero_le _, fun j h => by omega, fun j _ _ _ => hL j, rfl⟩

theorem Cut.all (hv : ∀ i x, i < n → ¬ T i x → val (i + 1) x = val i x) {L : Nat → Prop} (hL : ∀ j, j < n → L j) {x : X} {v : V} (h : Cut n val T L x v) : v = val n x := by
  obtain ⟨q, hq, h1, h2, rfl⟩ := h
  exact (val_eq hv hq (Nat.le_refl n) fun j a b ht => h2 j a b ht (hL j b)).symm

theorem Cut.look (hv : ∀ i x, i < n → ¬ T i x → val (i + 1) x = val i x) (ho : Ordered n T F less) {L : Nat → Prop} (hc : ∀ i j, less i j → L j → L i) {i : Nat} (hi : i < n) (hiL : ¬ L i) (hp : ∀ j, less j i → L j) {x : X} {v : V} (hF : F i x) (h : Cut n val T L x v) : v = val i x := by
  obtain ⟨q, hq, h1, h2, rfl⟩ := h
  rcases (Nat.lt_or_ge i q).symm with hqi | hqi
  · exact (val_eq hv hqi (by omega) fun j a b ht => h2 j a (by omega) ht (hp j ((ho i j x hi (by omega) ht hF).1 b))).symm
  · refine val_eq hv (by omega) hq fun j a b ht => ?_
    rcases Nat.lt_or_eq_of_le a with a | rfl
    · exact hiL (hc i j ((ho i j x hi (by omega) ht hF).2 a) (h1 j b ht))
    · exact hiL (h1 i b ht)

theorem Cut.off {L : Nat → Prop} {i : Nat} {x : X} {v : V} (hT : ¬ T i x) (h : Cut n val T L x v) : Cut n val T (fun j => L j ∨ j = i) x v := by
  obtain ⟨q, hq, h1, h2, rfl⟩ := h
  refine ⟨q, hq, fun j a ht => .inl (h1 j a ht), fun j a b ht hL => ?_, rfl⟩
  rcases hL with hL | rfl
  · exact h2 j a b ht hL
  · exact hT ht

theorem Cut.on (ho : Ordered n T F less) (hTF : ∀ i x, T i x → F i x) {L : Nat → Prop} (hc : ∀ i j, less i j → L j → L i) {i : Nat} (hi : i < n) (hiL : ¬ L i) (hp : ∀ j, less j i → L j) {x : X} (hT : T i x) : Cut n val T (fun j => L j ∨ j = i) x (val (i + 1) x) := by
  refine ⟨i + 1, hi, fun j a ht => ?_, fun j a b ht hL => ?_, rfl⟩
  · rcases Nat.lt_or_eq_of_le (Nat.le_of_lt_succ a) with a | rfl
    · exact .inl (hp j ((ho i j x hi (by omega) ht (hTF _ _ hT)).1 a))
    · exact .inr rfl
  · rcases hL with hL | rfl
    · exact hiL (hc i j ((ho i j x hi b ht (hTF _ _ hT)).2 (by omega)) hL)
    · omega
/-- .. where the operation at hand alone is known to look at what it turns. -/
theorem Cut.on' (ho : Ordered n T F less) {L : Nat → Prop} (hc : ∀ i j, less i j → L j → L i) {i : Nat} (hTF : ∀ x, T i x → F i x) (hi : i < n) (hiL : ¬ L i) (hp : ∀ j, less j i → L j) {x : X} (hT : T i x) : Cut n val T (fun j => L j ∨ j = i) x (val (i + 1) x) := by
  refine ⟨i + 1, hi, fun j a ht => ?_, fun j a b ht hL => ?_, rfl⟩
  · rcases Nat.lt_or_eq_of_le (Nat.le_of_lt_succ a) with a | rfl
    · exact .inl (hp j ((ho i j x hi (by omega) ht (hTF _ hT)).1 a))
    · exact .inr rfl
  · rcases hL with hL | rfl
    · exact hiL (hc i j ((ho i j x hi b ht (hTF _ hT)).2 (by omega)) hL)
    · omega
end cut

end Go.Am
