/- HOW MANY NODES. -/
import Derived.Test.YtbmfnoaogebjfaaDoorT4
set_option linter.unusedSimpArgs false
set_option linter.unusedVariables false
set_option maxRecDepth 20000
namespace Go.Am.R
open Go.Proofs Go.IntWalk

variable {w : Ways}

theorem get_of_lt' {α : Type} {l : List α} {i : Nat} (h : i < l.length) : ∃ x, l[i]? = some x := ⟨_, List.getElem?_eq_getElem h⟩
mutual
def small : Node → Int → Int
  | .mk _ _ _ _ _ _ ks, l => smallL ks (l - 1)
def smallL : List Node → Int → Int
  | [], l => l
  | k :: ks, l => if 0 ≤ l then smallL ks (small k l) else l
end
theorem small_eq (n : Node) (l : Int) : small n l = smallL n.kids (l - 1) := by cases n; simp [small, Node.kids]
theorem small_bounds (n : Node) : ∀ l, 0 ≤ l → -1 ≤ small n l ∧ small n l ≤ l - 1 := by
  induction n using Node.ind with
  | h n ih =>
    have hL : ∀ ks : List Node, (∀ k ∈ ks, ∀ l, 0 ≤ l → -1 ≤ small k l ∧ small k l ≤ l - 1) → ∀ l, -1 ≤ l → -1 ≤ smallL ks l ∧ smallL ks l ≤ l := by
      intro ks
      induction ks with
      | nil => intro _ l hl; simp [smallL, hl]
      | cons x xs ihx =>
        intro h l hl
        simp only [smallL]
        split
        · rename_i h0
          obtain ⟨h1, h2⟩ := h x List.mem_cons_self l h0
          obtain ⟨h3, h4⟩ := ihx (fun k hk => h k (List.mem_cons_of_mem _ hk)) (small x l) h1
          omega
        · omega
    intro l hl
    rw [small_eq]
    exact hL n.kids ih (l - 1) (by omega)

theorem small_okB (hw : Std w) (n : Node) : n.ok → ∀ l : Int, 0 ≤ l → l ≤ 1000000 → PC (cfg w) 10 [n.av, .int .i64 l] (.int .i64 (small n l)) := by
  induction n using Node.ind with
  | h n ih =>
  intro hok l hl hl'
  have hkl := Node.ok_kids hok
  refine PC_of (args' := [n.av, .int .i64 l]) hw.e10 hw.m10 (by simp [nrmA, Node.nrm_all, nrm]) ?_
  refine call_of_W (fn10 w) rfl ?_
  simp only [Tryd.f10, List.length_cons, List.length_nil, Nat.reduceAdd, Nat.reduceSub, List.cons_append, List.nil_append]
  repeat with_reducible (first | apply E0 | apply E1 | apply E2 | apply E3 | apply E4 | refine E5 (by decide) ?_ | apply E6 | apply E7 | apply E8 | apply E9 | apply Ea | apply Eb | apply Ec | apply Ed)
  refine W_region fun K hK => ?_
  simp only [KA, KB, KP, KQ, KM, simprocAttr, KT w, KI, hw.KF]
  refine hK _ _ ?_
  clear hK
  clear K
  repeat with_reducible (first | apply E0 | apply E1 | apply E2 | apply E3 | apply E4 | refine E5 (by decide) ?_ | apply E6 | apply E7 | apply E8 | apply E9 | apply Ea | apply Eb | apply Ec | apply Ed)
  refine W_region fun K hK => ?_
  simp only [KA, KB, KP, KQ, KM, simprocAttr, KT w, KI, hw.KF]
  refine hK _ _ ?_
  clear hK
  clear K
  repeat with_reducible (first | apply E0 | apply E1 | apply E2 | apply E3 | apply E4 | refine E5 (by decide) ?_ | apply E6 | apply E7 | apply E8 | apply E9 | apply Ea | apply Eb | apply Ec | apply Ed)
  refine W_region fun K hK => ?_
  simp only [KA, KB, KP, KQ, KM, simprocAttr, KT w, KI, hw.KF]
  refine hK _ _ ?_
  clear hK
  clear K
  repeat with_reducible (first | apply E0 | apply E1 | apply E2 | apply E3 | apply E4 | refine E5 (by decide) ?_ | apply E6 | apply E7 | apply E8 | apply E9 | apply Ea | apply Eb | apply Ec | apply Ed)
  rw [i64_in _ (by omega)]
  refine W_loop (fun k fr S => ∃ (tm : List AV) (i : Nat) (m : Int), fr = ⟨tm, [], none, 10⟩ ∧ S = St.nil.push (.row n.cells false) ∧ k = n.kids.length - i ∧ i ≤ n.kids.length ∧ -1 ≤ m ∧ m ≤ 1000000 ∧ smallL (n.kids.drop i) m = small n l ∧
     tm.length = 27 ∧ tget tm 2 = .ptr 0 0 ∧ tget tm 1 = .int .i64 m ∧ tget tm 5 = .int .i64 i) (n.kids.length)
    ⟨_, 0, l - 1, rfl, rfl, rfl, Nat.zero_le _, by omega, by omega, by simp [small_eq], ?_⟩ ?_
  · simp only [KA, KP, KQ, simprocAttr, KT w, KI, hw.KF, Int.ofNat_zero]
  rintro k fr S ⟨tm, i, m, rfl, rfl, rfl, hi, hm1, hm2, hsp, htm, h2, h1, h5⟩
  repeat with_reducible (first | apply E0 | apply E1 | apply E2 | apply E3 | apply E4 | refine E5 (by decide) ?_ | apply E6 | apply E7 | apply E8 | apply E9 | apply Ea | apply Eb | apply Ec | apply Ed)
  refine W_region fun K hK => ?_
  simp only [KA, KB, KP, KQ, KM, simprocAttr, KT w, KI, hw.KF, htm, h2, h1, h5]
  by_cases hc : (i : Int) < n.kids.length
  · simp only [KA, KB, KP, KQ, KM, reduceCtorEq, ↓reduceIte, Int.reduceLT, Int.reduceLE, Int.reduceAdd, Int.reduceSub, Int.reduceNeg, Int.reduceMul, Int.reduceToNat, Int.reduceEq, Int.reduceNe, Int.reduceGT, Int.reduceGE, Nat.reducePow, Nat.reduceAdd, Nat.reduceSub, Nat.reduceLT, Nat.reduceMul, Nat.reduceDiv, Nat.reduceEqDiff, Nat.reduceLeDiff, KT w, KI, hw.KF, hc, htm, h2, h1, h5]
    refine hK _ _ ?_
    clear hK
    clear K
    repeat with_reducible (first | apply E0 | apply E1 | apply E2 | apply E3 | apply E4 | refine E5 (by decide) ?_ | apply E6 | apply E7 | apply E8 | apply E9 | apply Ea | apply Eb | apply Ec | apply Ed)
    refine W_condP (p := _) (by simp only [KA, KP, KQ, simprocAttr, KT w, KI, hw.KF, htm, h2, h1, h5, hc]; rfl) (fun hb => ?_) (fun hb => ?_)
    · obtain ⟨x, hx⟩ := get_of_lt' (l := n.kids) (i := i) (by omega)
      have hd := drop_of_get hx
      have hcall := ih x (List.mem_of_getElem? hx) (Node.ok_kid hok x (List.mem_of_getElem? hx)) m hb hm2
      have hbd := small_bounds x m hb
      repeat with_reducible (first | apply E0 | apply E1 | apply E2 | apply E3 | apply E4 | refine E5 (by decide) ?_ | apply E6 | apply E7 | apply E8 | apply E9 | apply Ea | apply Eb | apply Ec | apply Ed)
      refine W_region fun K hK => ?_
      simp only [KA, KB, KP, KQ, KM, simprocAttr, KT w, KI, hw.KF, htm, h2, h1, h5, hc, hx, hcall]
      refine hK _ _ ?_
      clear hK
      clear K
      repeat with_reducible (first | apply E0 | apply E1 | apply E2 | apply E3 | apply E4 | refine E5 (by decide) ?_ | apply E6 | apply E7 | apply E8 | apply E9 | apply Ea | apply Eb | apply Ec | apply Ed)
      refine W_region fun K hK => ?_
      simp only [KA, KB, KP, KQ, KM, simprocAttr, KT w, KI, hw.KF, htm, h2, h1, h5, hc, hx, hcall]
      refine hK _ _ ?_
      clear hK
      clear K
      refine ⟨n.kids.length - (i + 1), by omega, _, i + 1, small x m, rfl, rfl, rfl, by omega, by omega, by omega, ?_, ?_⟩
      · rw [← hsp, hd]; simp [smallL, show (0 : Int) ≤ m from hb]
      · rw [i64_in _ (by omega)]
        simp only [KA, KP, KQ, simprocAttr, KT w, KI, hw.KF, htm, h2, h1, h5, Int.natCast_add, A3z]
    · repeat with_reducible (first | apply E0 | apply E1 | apply E2 | apply E3 | apply E4 | refine E5 (by decide) ?_ | apply E6 | apply E7 | apply E8 | apply E9 | apply Ea | apply Eb | apply Ec | apply Ed)
      refine W_region fun K hK => ?_
      simp only [KA, KB, KP, KQ, KM, simprocAttr, KT w, KI, hw.KF, htm, h2, h1, h5]
      refine hK _ _ ?_
      clear hK
      clear K
      repeat with_reducible (first | apply E0 | apply E1 | apply E2 | apply E3 | apply E4 | refine E5 (by decide) ?_ | apply E6 | apply E7 | apply E8 | apply E9 | apply Ea | apply Eb | apply Ec | apply Ed)
      have hs : small n l = m := by
        rw [← hsp]
        cases n.kids.drop i with
        | nil => rfl
        | cons y ys => simp only [smallL]; rw [if_neg (by omega)]
      refine AtEnd_of rfl ?_
      simp only [KA, KP, KQ, simprocAttr, KT w, KI, hw.KF, htm, h2, h1, h5, hs, RS_some, aresults_nil, aresults_tmp, aresults_cell, one]
      exact FZ_int
  · simp only [KA, KB, KP, KQ, KM, reduceCtorEq, ↓reduceIte, Int.reduceLT, Int.reduceLE, Int.reduceAdd, Int.reduceSub, Int.reduceNeg, Int.reduceMul, Int.reduceToNat, Int.reduceEq, Int.reduceNe, Int.reduceGT, Int.reduceGE, Nat.reducePow, Nat.reduceAdd, Nat.reduceSub, Nat.reduceLT, Nat.reduceMul, Nat.reduceDiv, Nat.reduceEqDiff, Nat.reduceLeDiff, KT w, KI, hw.KF, hc, htm, h2, h1, h5]
    refine hK _ _ ?_
    clear hK
    clear K
    repeat with_reducible (first | apply E0 | apply E1 | apply E2 | apply E3 | apply E4 | refine E5 (by decide) ?_ | apply E6 | apply E7 | apply E8 | apply E9 | apply Ea | apply Eb | apply Ec | apply Ed)
    refine W_condF (by simp only [KA, KP, KQ, simprocAttr, KT w, KI, hw.KF, htm, h2, h1, h5, hc]) ?_
    repeat with_reducible (first | apply E0 | apply E1 | apply E2 | apply E3 | apply E4 | refine E5 (by decide) ?_ | apply E6 | apply E7 | apply E8 | apply E9 | apply Ea | apply Eb | apply Ec | apply Ed)
    refine W_region fun K hK => ?_
    simp only [KA, KB, KP, KQ, KM, simprocAttr, KT w, KI, hw.KF, htm, h2, h1, h5]
    refine hK _ _ ?_
    clear hK
    clear K
    repeat with_reducible (first | apply E0 | apply E1 | apply E2 | apply E3 | apply E4 | refine E5 (by decide) ?_ | apply E6 | apply E7 | apply E8 | apply E9 | apply Ea | apply Eb | apply Ec | apply Ed)
    have hs : small n l = m := by
      rw [← hsp, List.drop_eq_nil_of_le (by omega)]
      rfl
    refine AtEnd_of rfl ?_
    simp only [KA, KP, KQ, simprocAttr, KT w, KI, hw.KF, htm, h2, h1, h5, hs, RS_some, aresults_nil, aresults_tmp, aresults_cell, one]
    exact FZ_int
mutual
def ncnt : Node → Nat
  | .mk _ _ _ _ _ _ ks => ncntL ks + 1
def ncntL : List Node → Nat
  | [] => 0
  | k :: ks => ncnt k + ncntL ks
end
theorem ncnt_eq (n : Node) : ncnt n = ncntL n.kids + 1 := by cases n; simp [ncnt, Node.kids]
theorem smallL_neg (ks : List Node) (l : Int) (h : l < 0) : smallL ks l = l := by
  cases ks with
  | nil => rfl
  | cons x xs => simp only [smallL]; rw [if_neg (by omega)]
theorem small_cnt (n : Node) : ∀ l, 0 ≤ small n l → small n l + ncnt n = l := by
  induction n using Node.ind with
  | h n ih =>
    have hL : ∀ ks : List Node, (∀ k ∈ ks, ∀ l, 0 ≤ small k l → small k l + ncnt k = l) → ∀ l, 0 ≤ smallL ks l → smallL ks l + ncntL ks = l := by
      intro ks
      induction ks with
      | nil => intro _ l h; simp [smallL, ncntL]
      | cons x xs ihx =>
        intro h l h0
        simp only [smallL] at h0 ⊢
        split at h0
        · rename_i hl
          rw [if_pos hl]
          rcases Int.lt_or_le (small x l) 0 with hx | hx
          · rw [smallL_neg _ _ hx] at h0; omega
          · have h1 := h x List.mem_cons_self l hx
            have h2 := ihx (fun k hk => h k (List.mem_cons_of_mem _ hk)) _ h0
            simp only [ncntL]
            omega
        · omega
    intro l h
    rw [small_eq] at h ⊢
    have := hL n.kids ih (l - 1) h
    rw [ncnt_eq]
    omega

mutual
theorem cnt_nn : ∀ n : Node, ncnt n = nn n
  | .mk _ _ _ _ _ _ ks => by rw [ncnt, nn, cntL_nn ks]
theorem cntL_nn : ∀ ks : List Node, ncntL ks = nnL ks
  | [] => rfl
  | k :: ks => by rw [ncntL, nnL, cnt_nn k, cntL_nn ks]
end
theorem small_nn {n : Node} {l : Int} (h : 0 ≤ small n l) : (nn n : Int) ≤ l := by
  have := small_cnt n l h
  rw [cnt_nn] at this
  omega
end Go.Am.R
