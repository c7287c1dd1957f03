/- HOW MANY NODES A TREE HAS, AND HOW DEEP IT IS; WHAT Small SAYS OF THAT. -/
import Derived.Test.YtghpjjhdbankhaaC5
set_option linter.unusedSimpArgs false
set_option linter.unusedVariables false
namespace Go.Am.B
open Go.Proofs Go.IntWalk

mutual
def cnt : Node → Nat
  | .mk _ _ _ _ _ _ ks => cntL ks + 1
def cntL : List Node → Nat
  | [] => 0
  | k :: ks => cnt k + cntL ks
end
theorem cnt_eq (n : Node) : cnt n = cntL n.kids + 1 := by cases n; simp [cnt, Node.kids]
theorem smallL_neg (ks : List Node) (l : Int) (h : l < 0) : smallL ks l = l := by
  cases ks with
  | nil => rfl
  | cons x xs => simp only [smallL]; rw [if_neg (by omega)]
theorem small_cnt (n : Node) : ∀ l, 0 ≤ small n l → small n l + cnt n = l := by
  induction n using Node.ind with
  | h n ih =>
    have hL : ∀ ks : List Node, (∀ k ∈ ks, ∀ l, 0 ≤ small k l → small k l + cnt k = l) → ∀ l, 0 ≤ smallL ks l → smallL ks l + cntL ks = l := by
      intro ks
      induction ks with
      | nil => intro _ l h; simp [smallL, cntL]
      | cons x xs ihx =>
        intro h l h0
        simp only [smallL] at h0 ⊢
        split at h0
        · rename_i hl
          rw [if_pos hl]
          rcases Int.lt_or_le (small x l) 0 with hx | hx
          · rw [smallL_neg _ _ hx] at h0; omega
          · have h1 := h x List.mem_cons_self l hx
            have h2 := ihx (fun k hk => h k (List.mem_cons_of_mem _ hk)) _ h0
            simp only [cntL]
            omega
        · omega
    intro l h
    rw [small_eq] at h ⊢
    have := hL n.kids ih (l - 1) h
    rw [cnt_eq]
    omega
mutual
def dep : Node → Nat
  | .mk _ _ _ _ _ _ ks => depL ks + 1
def depL : List Node → Nat
  | [] => 0
  | k :: ks => max (dep k) (depL ks)
end
theorem dep_eq (n : Node) : dep n = depL n.kids + 1 := by cases n; simp [dep, Node.kids]
theorem dep_le (n : Node) : dep n ≤ cnt n := by
  induction n using Node.ind with
  | h n ih =>
    have hL : ∀ ks : List Node, (∀ k ∈ ks, dep k ≤ cnt k) → depL ks ≤ cntL ks := by
      intro ks
      induction ks with
      | nil => intro _; simp [depL]
      | cons x xs ihx =>
        intro h
        have := h x List.mem_cons_self
        have := ihx (fun k hk => h k (List.mem_cons_of_mem _ hk))
        simp only [depL, cntL]
        omega
    rw [dep_eq, cnt_eq]
    have := hL _ ih
    omega
theorem cntL_split (ks : List Node) (i : Nat) (x : Node) (h : ks[i]? = some x) : cntL (ks.drop i) = cnt x + cntL (ks.drop (i + 1)) := by rw [drop_of_get h]; rfl
theorem depL_split (ks : List Node) (i : Nat) (x : Node) (h : ks[i]? = some x) : depL (ks.drop i) = max (dep x) (depL (ks.drop (i + 1))) := by rw [drop_of_get h]; rfl
theorem small_le {n : Node} {l : Int} (h : 0 ≤ small n l) : (cnt n : Int) ≤ l := by have := small_cnt n l h; omega
theorem cnt_kid {n x : Node} (h : x ∈ n.kids) : cnt x + 1 ≤ cnt n := by
  rw [cnt_eq n]
  have hL : ∀ ks : List Node, x ∈ ks → cnt x ≤ cntL ks := by
    intro ks
    induction ks with
    | nil => intro h; cases h
    | cons y ys ih =>
      intro h
      simp only [cntL]
      rcases List.mem_cons.1 h with rfl | h
      · omega
      · have := ih h; omega
  have := hL _ h
  omega
theorem dep_kid {n x : Node} (h : x ∈ n.kids) : dep x + 1 ≤ dep n := by
  rw [dep_eq n]
  have hL : ∀ ks : List Node, x ∈ ks → dep x ≤ depL ks := by
    intro ks
    induction ks with
    | nil => intro h; cases h
    | cons y ys ih =>
      intro h
      simp only [depL]
      rcases List.mem_cons.1 h with rfl | h
      · omega
      · have := ih h; omega
  have := hL _ h
  omega
theorem dep_pos (n : Node) : 1 ≤ dep n := by rw [dep_eq]; omega
end Go.Am.B
