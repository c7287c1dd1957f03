/- THE LAW ArenaOrder. -/
import Derived.Test.YtbmfnoaogebjfaaDoorTz
set_option linter.unusedSimpArgs false
set_option linter.unusedVariables false
set_option maxRecDepth 20000
namespace Go.Am.R
open Go.Proofs Go.IntWalk

variable {w : Ways}

theorem addR_of {A C : Ar} {n : Node} {h : Nat} (hA : addA A n = some (C, h)) (hr : A.roots.length < 4096) : addR A n = (C, (h : Int), 0) := by
  unfold addA at hA
  unfold addR
  rw [if_neg (by omega)]
  split at hA
  · cases hA
  · rename_i i B hl
    cases hA
    rw [hl]
theorem add_rb {A C : Ar} {n : Node} {h : Nat} {c : Int} (h0 : 0 ≤ c) (hRB : RB c A.slots) (hA : addA A n = some (C, h)) : RB (c + nn n) C.slots := by
  unfold addA at hA
  split at hA
  · cases hA
  · rename_i i B hl
    cases hA
    have := lay_rb n 0 A c i B h0 hRB hl
    have hn : 1 ≤ nn n := by cases n; rw [nn]; omega
    have h2 := RB.refL (by omega) this [i]
    simp only [List.foldl_cons, List.foldl_nil, List.length_cons, List.length_nil] at h2
    exact h2.mono (by omega)
theorem kl_refL {S : List Sl} (h : KL' S) (l : List Nat) : KL' (l.foldl refS S) := fun j t ht => by
  rw [refL_get, Option.map_eq_some_iff] at ht
  obtain ⟨u, hu, rfl⟩ := ht
  have := h j u hu
  split <;> simpa using this
theorem kl_set {S : List Sl} (h : KL' S) {s : Sl} (hs : s.kids.length ≤ 1000000000000) (i : Nat) : KL' (S.set i s) := fun j t ht => by
  by_cases e : i = j
  · subst e
    by_cases hl : i < S.length
    · rw [List.getElem?_set_self hl] at ht; cases ht; exact hs
    · rw [List.getElem?_eq_none (by simp; omega)] at ht; cases ht
  · rw [List.getElem?_set_ne e] at ht; exact h j t ht
theorem place_kl {A B : Ar} {K : Key} {i : Nat} (h : KL' A.slots) (hK : K.2.length ≤ 1000000000000) (hp : place A K = some (i, B)) : KL' B.slots := by
  unfold place at hp
  split at hp
  · cases hp; exact h
  · split at hp
    · cases hp
    · rename_i j C hr
      cases hp
      unfold room at hr
      split at hr
      · cases hr; exact kl_refL (kl_set h hK _) _
      · split at hr
        · cases hr
          refine kl_refL (kl_set (fun j t ht => ?_) hK _) _
          by_cases hl : j < A.slots.length
          · rw [List.getElem?_append_left hl] at ht; exact h j t ht
          · rw [List.getElem?_append_right (by omega)] at ht
            have : j - A.slots.length = 0 := by
              have := (List.getElem?_eq_some_iff.1 ht).1
              simp at this; omega
            rw [this] at ht; simp at ht; subst ht; simp [zs]
        · cases hr
mutual
theorem lay_kl : ∀ (n : Node) (base : Int) (A : Ar) (i : Nat) (B : Ar), nn n ≤ 1000000000000 → KL' A.slots → lay n base A = some (i, B) → KL' B.slots
  | .mk k nm f a b d ks, base, A, i, B, h0, h, hl => by
    rw [lay] at hl
    rw [nn] at h0
    cases h1 : layL ks a A with
    | none => rw [h1] at hl; cases hl
    | some q =>
      obtain ⟨l, C⟩ := q
      rw [h1] at hl
      obtain ⟨k1, k2⟩ := layL_kl ks a A l C (by omega) h h1
      have := len_nnL ks
      exact place_kl k1 (by simp only; omega) hl
theorem layL_kl : ∀ (ks : List Node) (base : Int) (A : Ar) (l : List Nat) (B : Ar), nnL ks ≤ 1000000000000 → KL' A.slots → layL ks base A = some (l, B) → KL' B.slots ∧ l.length = ks.length
  | [], base, A, l, B, h0, h, hl => by rw [layL] at hl; cases hl; exact ⟨h, rfl⟩
  | x :: xs, base, A, l, B, h0, h, hl => by
    rw [layL] at hl
    rw [nnL] at h0
    cases h1 : lay x base A with
    | none => rw [h1] at hl; cases hl
    | some q =>
      obtain ⟨i, C⟩ := q
      rw [h1] at hl
      simp only at hl
      cases h2 : layL xs base C with
      | none => rw [h2] at hl; cases hl
      | some r =>
        obtain ⟨m, D⟩ := r
        rw [h2] at hl; cases hl
        obtain ⟨k2, k3⟩ := layL_kl xs base C m B (by omega) (lay_kl x base A i C (by omega) h h1) h2
        exact ⟨k2, by simp [k3]⟩
end
theorem add_kl {A C : Ar} {n : Node} {h : Nat} (hn : nn n ≤ 1000000000000) (hk : KL' A.slots) (hA : addA A n = some (C, h)) : KL' C.slots := by
  unfold addA at hA
  split at hA
  · cases hA
  · rename_i i B hl
    cases hA
    have := kl_refL (lay_kl n 0 A i B hn hk hl) [i]
    simpa using this
theorem add_roots {A C : Ar} {n : Node} {h : Nat} (hA : addA A n = some (C, h)) (hI : Inv A [] []) : C.roots.length = A.roots.length + 1 := by
  unfold addA at hA
  split at hA
  · cases hA
  · rename_i i B hl
    cases hA
    rcases lay_or n 0 A [] hI with ⟨h0, -⟩ | ⟨j, D, h1, -, -, -, h5, -⟩
    · rw [h0] at hl; cases hl
    · rw [h1] at hl; cases hl
      simp [h5]
theorem nonneg {A : Ar} (h : Inv A [] []) : ∀ s ∈ A.slots, 0 ≤ s.refs := fun s hs => by
  obtain ⟨i, hi⟩ := List.mem_iff_getElem?.1 hs
  by_cases hn : s.refs < 0
  · have := (h.neg i s hi hn).2; cases this
  · omega

set_option maxHeartbeats 8000000 in
theorem order4 (m n x : Node) (hm : m.ok) (hn : n.ok) (hx : x.ok) : PC (cfg vw) 4 [m.av, n.av, x.av] (.bool true) := by
  have hw := stdV
  have haw := awake11
  refine PC_of (args' := [m.av, n.av, x.av]) hw.e4 hw.m4 (by simp [nrmA, nrm, Node.nrm_all]) ?_
  have s1 := small_okB hw m hm 200 (by omega) (by omega)
  have s2 := small_okB hw n hn 200 (by omega) (by omega)
  have s3 := small_okB hw x hx 200 (by omega) (by omega)
  have cm := Node.cells_len m; have cmt := Node.cells_take m; have cmd := Node.cells_drop m
  have cn := Node.cells_len n; have cnt' := Node.cells_take n; have cnd := Node.cells_drop n
  have cx := Node.cells_len x; have cxt := Node.cells_take x; have cxd := Node.cells_drop x
  have plain : 0 ≤ small m 200 → 0 ≤ small n 200 → 0 ≤ small x 200 → _ := fun h1 h2 h3 => order_plain m n x (by have := small_nn h1; omega) (by have := small_nn h2; omega) (by have := small_nn h3; omega)
  have p17 := new17 hw
  have p12 := fun A y h1 c h2 h3 h4 h6 h5 => add12 hw (by rfl) (by rfl) (by rfl) A y h1 c h2 h3 h4 h6 h5
  have p14 := fun A C h i h1 c h2 h3 h4 h5 h6 h7 h8 => drop14 hw (by rfl) (by rfl) (by rfl) A C h i h1 c h2 h3 h4 h5 h6 h7 h8
  have p18 := fun A h1 h2 => live18 hw A h1 h2
  generalize hW : vw = w at *
  refine call_of_W (fn4 w) rfl ?_
  simp only [Tryd.f4, List.length_cons, List.length_nil, ↓reduceIte, Int.reduceLT, Int.reduceLE, Int.reduceAdd, Int.reduceSub, Int.reduceNeg, Int.reduceMul, Int.reduceToNat, Int.reduceEq, Int.reduceNe, Int.reduceGT, Int.reduceGE, Nat.reducePow, IntKind.bits, Nat.reduceAdd, Nat.reduceSub, List.cons_append, List.nil_append]
  repeat with_reducible (first | refine E0 ?_ | refine E1 ?_ | refine E2 ?_ | refine E3 ?_ | refine E4 ?_ | refine E5 (by decide) ?_ | refine E6 ?_ | refine E7 ?_ | refine E8 ?_ | refine E9 ?_ | refine Ea ?_ | refine Eb ?_ | refine Ec ?_ | refine Ed ?_)
  refine W_region fun K hK => ?_
  simp only [KA, KB, KP, KQ, KM, reduceCtorEq, ↓reduceIte, Int.reduceLT, Int.reduceLE, Int.reduceAdd, Int.reduceSub, Int.reduceNeg, Int.reduceMul, Int.reduceToNat, Int.reduceEq, Int.reduceNe, Int.reduceGT, Int.reduceGE, Nat.reducePow, Nat.reduceAdd, Nat.reduceSub, Nat.reduceLT, Nat.reduceMul, Nat.reduceDiv, Nat.reduceEqDiff, Nat.reduceLeDiff, KT w, KI, hw.KF]
  refine hK _ _ ?_
  clear hK
  clear K
  repeat with_reducible (first | refine E0 ?_ | refine E1 ?_ | refine E2 ?_ | refine E3 ?_ | refine E4 ?_ | refine E5 (by decide) ?_ | refine E6 ?_ | refine E7 ?_ | refine E8 ?_ | refine E9 ?_ | refine Ea ?_ | refine Eb ?_ | refine Ec ?_ | refine Ed ?_)
  by_cases a1 : small m 200 < 0
  · refine W_region fun K hK => ?_
    simp only [KA, KB, KP, KQ, KM, reduceCtorEq, ↓reduceIte, Int.reduceLT, Int.reduceLE, Int.reduceAdd, Int.reduceSub, Int.reduceNeg, Int.reduceMul, Int.reduceToNat, Int.reduceEq, Int.reduceNe, Int.reduceGT, Int.reduceGE, Nat.reducePow, Nat.reduceAdd, Nat.reduceSub, Nat.reduceLT, Nat.reduceMul, Nat.reduceDiv, Nat.reduceEqDiff, Nat.reduceLeDiff, KT w, KI, hw.KF, cm, cmt, cmd, s1, a1]
    refine hK _ _ ?_
    clear hK
    clear K
    repeat with_reducible (first | refine E0 ?_ | refine E1 ?_ | refine E2 ?_ | refine E3 ?_ | refine E4 ?_ | refine E5 (by decide) ?_ | refine E6 ?_ | refine E7 ?_ | refine E8 ?_ | refine E9 ?_ | refine Ea ?_ | refine Eb ?_ | refine Ec ?_ | refine Ed ?_)
    refine W_condT (by simp only [KA, KP, KQ, reduceCtorEq, ↓reduceIte, Int.reduceLT, Int.reduceLE, Int.reduceAdd, Int.reduceSub, Int.reduceNeg, Int.reduceMul, Int.reduceToNat, Int.reduceEq, Int.reduceNe, Int.reduceGT, Int.reduceGE, Nat.reducePow, Nat.reduceAdd, Nat.reduceSub, Nat.reduceLT, Nat.reduceMul, Nat.reduceDiv, Nat.reduceEqDiff, Nat.reduceLeDiff, KT w, KI, hw.KF, a1]) ?_
    repeat with_reducible (first | refine E0 ?_ | refine E1 ?_ | refine E2 ?_ | refine E3 ?_ | refine E4 ?_ | refine E5 (by decide) ?_ | refine E6 ?_ | refine E7 ?_ | refine E8 ?_ | refine E9 ?_ | refine Ea ?_ | refine Eb ?_ | refine Ec ?_ | refine Ed ?_)
    refine W_region fun K hK => ?_
    simp only [KA, KB, KP, KQ, KM, reduceCtorEq, ↓reduceIte, Int.reduceLT, Int.reduceLE, Int.reduceAdd, Int.reduceSub, Int.reduceNeg, Int.reduceMul, Int.reduceToNat, Int.reduceEq, Int.reduceNe, Int.reduceGT, Int.reduceGE, Nat.reducePow, Nat.reduceAdd, Nat.reduceSub, Nat.reduceLT, Nat.reduceMul, Nat.reduceDiv, Nat.reduceEqDiff, Nat.reduceLeDiff, KT w, KI, hw.KF, haw]
    refine hK _ _ ?_
    clear hK
    clear K
    repeat with_reducible (first | refine E0 ?_ | refine E1 ?_ | refine E2 ?_ | refine E3 ?_ | refine E4 ?_ | refine E5 (by decide) ?_ | refine E6 ?_ | refine E7 ?_ | refine E8 ?_ | refine E9 ?_ | refine Ea ?_ | refine Eb ?_ | refine Ec ?_ | refine Ed ?_)
    refine AtEnd_of rfl ?_
    simp only [KA, KP, KQ, reduceCtorEq, ↓reduceIte, Int.reduceLT, Int.reduceLE, Int.reduceAdd, Int.reduceSub, Int.reduceNeg, Int.reduceMul, Int.reduceToNat, Int.reduceEq, Int.reduceNe, Int.reduceGT, Int.reduceGE, Nat.reducePow, Nat.reduceAdd, Nat.reduceSub, Nat.reduceLT, Nat.reduceMul, Nat.reduceDiv, Nat.reduceEqDiff, Nat.reduceLeDiff, KT w, KI, hw.KF, RS_some, aresults_nil, aresults_tmp, aresults_cell, one]
    exact FZ_bool
  by_cases a2 : small n 200 < 0
  · refine W_region fun K hK => ?_
    simp only [KA, KB, KP, KQ, KM, reduceCtorEq, ↓reduceIte, Int.reduceLT, Int.reduceLE, Int.reduceAdd, Int.reduceSub, Int.reduceNeg, Int.reduceMul, Int.reduceToNat, Int.reduceEq, Int.reduceNe, Int.reduceGT, Int.reduceGE, Nat.reducePow, Nat.reduceAdd, Nat.reduceSub, Nat.reduceLT, Nat.reduceMul, Nat.reduceDiv, Nat.reduceEqDiff, Nat.reduceLeDiff, KT w, KI, hw.KF, cm, cmt, cmd, cn, cnt', cnd, s1, s2, a1, a2]
    refine hK _ _ ?_
    clear hK
    clear K
    repeat with_reducible (first | refine E0 ?_ | refine E1 ?_ | refine E2 ?_ | refine E3 ?_ | refine E4 ?_ | refine E5 (by decide) ?_ | refine E6 ?_ | refine E7 ?_ | refine E8 ?_ | refine E9 ?_ | refine Ea ?_ | refine Eb ?_ | refine Ec ?_ | refine Ed ?_)
    refine W_condT (by simp only [KA, KP, KQ, reduceCtorEq, ↓reduceIte, Int.reduceLT, Int.reduceLE, Int.reduceAdd, Int.reduceSub, Int.reduceNeg, Int.reduceMul, Int.reduceToNat, Int.reduceEq, Int.reduceNe, Int.reduceGT, Int.reduceGE, Nat.reducePow, Nat.reduceAdd, Nat.reduceSub, Nat.reduceLT, Nat.reduceMul, Nat.reduceDiv, Nat.reduceEqDiff, Nat.reduceLeDiff, KT w, KI, hw.KF, a1]) ?_
    repeat with_reducible (first | refine E0 ?_ | refine E1 ?_ | refine E2 ?_ | refine E3 ?_ | refine E4 ?_ | refine E5 (by decide) ?_ | refine E6 ?_ | refine E7 ?_ | refine E8 ?_ | refine E9 ?_ | refine Ea ?_ | refine Eb ?_ | refine Ec ?_ | refine Ed ?_)
    refine W_region fun K hK => ?_
    simp only [KA, KB, KP, KQ, KM, reduceCtorEq, ↓reduceIte, Int.reduceLT, Int.reduceLE, Int.reduceAdd, Int.reduceSub, Int.reduceNeg, Int.reduceMul, Int.reduceToNat, Int.reduceEq, Int.reduceNe, Int.reduceGT, Int.reduceGE, Nat.reducePow, Nat.reduceAdd, Nat.reduceSub, Nat.reduceLT, Nat.reduceMul, Nat.reduceDiv, Nat.reduceEqDiff, Nat.reduceLeDiff, KT w, KI, hw.KF, haw]
    refine hK _ _ ?_
    clear hK
    clear K
    repeat with_reducible (first | refine E0 ?_ | refine E1 ?_ | refine E2 ?_ | refine E3 ?_ | refine E4 ?_ | refine E5 (by decide) ?_ | refine E6 ?_ | refine E7 ?_ | refine E8 ?_ | refine E9 ?_ | refine Ea ?_ | refine Eb ?_ | refine Ec ?_ | refine Ed ?_)
    refine AtEnd_of rfl ?_
    simp only [KA, KP, KQ, reduceCtorEq, ↓reduceIte, Int.reduceLT, Int.reduceLE, Int.reduceAdd, Int.reduceSub, Int.reduceNeg, Int.reduceMul, Int.reduceToNat, Int.reduceEq, Int.reduceNe, Int.reduceGT, Int.reduceGE, Nat.reducePow, Nat.reduceAdd, Nat.reduceSub, Nat.reduceLT, Nat.reduceMul, Nat.reduceDiv, Nat.reduceEqDiff, Nat.reduceLeDiff, KT w, KI, hw.KF, RS_some, aresults_nil, aresults_tmp, aresults_cell, one]
    exact FZ_bool
  by_cases a3 : small x 200 < 0
  · refine W_region fun K hK => ?_
    simp only [KA, KB, KP, KQ, KM, reduceCtorEq, ↓reduceIte, Int.reduceLT, Int.reduceLE, Int.reduceAdd, Int.reduceSub, Int.reduceNeg, Int.reduceMul, Int.reduceToNat, Int.reduceEq, Int.reduceNe, Int.reduceGT, Int.reduceGE, Nat.reducePow, Nat.reduceAdd, Nat.reduceSub, Nat.reduceLT, Nat.reduceMul, Nat.reduceDiv, Nat.reduceEqDiff, Nat.reduceLeDiff, KT w, KI, hw.KF, cm, cmt, cmd, cn, cnt', cnd, cx, cxt, cxd, s1, s2, s3, a1, a2, a3]
    refine hK _ _ ?_
    clear hK
    clear K
    repeat with_reducible (first | refine E0 ?_ | refine E1 ?_ | refine E2 ?_ | refine E3 ?_ | refine E4 ?_ | refine E5 (by decide) ?_ | refine E6 ?_ | refine E7 ?_ | refine E8 ?_ | refine E9 ?_ | refine Ea ?_ | refine Eb ?_ | refine Ec ?_ | refine Ed ?_)
    refine W_condT (by simp only [KA, KP, KQ, reduceCtorEq, ↓reduceIte, Int.reduceLT, Int.reduceLE, Int.reduceAdd, Int.reduceSub, Int.reduceNeg, Int.reduceMul, Int.reduceToNat, Int.reduceEq, Int.reduceNe, Int.reduceGT, Int.reduceGE, Nat.reducePow, Nat.reduceAdd, Nat.reduceSub, Nat.reduceLT, Nat.reduceMul, Nat.reduceDiv, Nat.reduceEqDiff, Nat.reduceLeDiff, KT w, KI, hw.KF, a1]) ?_
    repeat with_reducible (first | refine E0 ?_ | refine E1 ?_ | refine E2 ?_ | refine E3 ?_ | refine E4 ?_ | refine E5 (by decide) ?_ | refine E6 ?_ | refine E7 ?_ | refine E8 ?_ | refine E9 ?_ | refine Ea ?_ | refine Eb ?_ | refine Ec ?_ | refine Ed ?_)
    refine W_region fun K hK => ?_
    simp only [KA, KB, KP, KQ, KM, reduceCtorEq, ↓reduceIte, Int.reduceLT, Int.reduceLE, Int.reduceAdd, Int.reduceSub, Int.reduceNeg, Int.reduceMul, Int.reduceToNat, Int.reduceEq, Int.reduceNe, Int.reduceGT, Int.reduceGE, Nat.reducePow, Nat.reduceAdd, Nat.reduceSub, Nat.reduceLT, Nat.reduceMul, Nat.reduceDiv, Nat.reduceEqDiff, Nat.reduceLeDiff, KT w, KI, hw.KF, haw]
    refine hK _ _ ?_
    clear hK
    clear K
    repeat with_reducible (first | refine E0 ?_ | refine E1 ?_ | refine E2 ?_ | refine E3 ?_ | refine E4 ?_ | refine E5 (by decide) ?_ | refine E6 ?_ | refine E7 ?_ | refine E8 ?_ | refine E9 ?_ | refine Ea ?_ | refine Eb ?_ | refine Ec ?_ | refine Ed ?_)
    refine AtEnd_of rfl ?_
    simp only [KA, KP, KQ, reduceCtorEq, ↓reduceIte, Int.reduceLT, Int.reduceLE, Int.reduceAdd, Int.reduceSub, Int.reduceNeg, Int.reduceMul, Int.reduceToNat, Int.reduceEq, Int.reduceNe, Int.reduceGT, Int.reduceGE, Nat.reducePow, Nat.reduceAdd, Nat.reduceSub, Nat.reduceLT, Nat.reduceMul, Nat.reduceDiv, Nat.reduceEqDiff, Nat.reduceLeDiff, KT w, KI, hw.KF, RS_some, aresults_nil, aresults_tmp, aresults_cell, one]
    exact FZ_bool
  have m1 := small_nn (n := m) (l := 200) (by omega)
  have m2 := small_nn (n := n) (l := 200) (by omega)
  have m3 := small_nn (n := x) (l := 200) (by omega)
  obtain ⟨A1, A, B1, B, C, D, i, e1, e2, e3, e4, e5, hC2, hL, hAB, hDA, I1, I2, I3, I4, I5, I6⟩ := plain (by omega) (by omega) (by omega)
  clear plain
  have R0 : RB 0 ar0.slots := fun i s h => by simp [ar0] at h
  have K0 : KL' ar0.slots := fun i s h => by simp [ar0] at h
  have R1 := add_rb (by omega) R0 e1
  have R2 := add_rb (by omega) R1 e2
  have R3 := add_rb (by omega) R0 e3
  have R5 := add_rb (by omega) R2 e5
  have K1 := add_kl (by omega) K0 e1
  have K2 := add_kl (by omega) K1 e2
  have K3 := add_kl (by omega) K0 e3
  have K5 := add_kl (by omega) K2 e5
  have l0 : ar0.roots.length = 0 := rfl
  have l1 := add_roots e1 inv0
  have l2 := add_roots e2 I1
  have l3 := add_roots e3 inv0
  have l5 := add_roots e5 I2
  have P1 := p12 ar0 m inv0 0 R0 (by omega) (by omega) K0 (by omega)
  have P2 := p12 A1 n I1 _ R1 (by omega) (by omega) K1 (by omega)
  have P3 := p12 ar0 n inv0 0 R0 (by omega) (by omega) K0 (by omega)
  have P4 := p12 B1 m I3 _ R3 (by omega) (by omega) K3 (by omega)
  have P5 := p12 A x I2 _ R2 (by omega) (by omega) K2 (by omega)
  rw [addR_of e1 (by omega)] at P1
  rw [addR_of e2 (by omega)] at P2
  rw [addR_of e3 (by omega)] at P3
  rw [addR_of e4 (by omega)] at P4
  rw [addR_of e5 (by omega)] at P5
  have P6 := p14 C D 2 i I5 _ R5 (by omega) (by omega) K5 (by omega) hC2 hL
  have P7 := p18 A (by have := I2.len; omega) (nonneg I2)
  have P8 := p18 B (by have := I4.len; omega) (nonneg I4)
  have P9 := p18 D (by have := I6.len; omega) (nonneg I6)
  rw [← hAB] at P8
  rw [hDA] at P9
  simp only at P1 P2 P3 P4 P5
  clear p12 p14 p18 R0 R1 R2 R3 R5 K0 K1 K2 K3 K5 hL hAB hDA I1 I2 I3 I4 I5 I6 e1 e2 e3 e4 e5
  have hex : ∀ X : Ar, ∃ CX : List AV, arV X = .agg CX ∧ CX.length = 3 ∧ CX.take 3 = CX ∧ CX.drop 3 = [] ∧ nrmL CX = some CX := fun X => ⟨arC X, rfl, rfl, rfl, rfl, by simp [arC, nrmL, nrm, nrm_can, nrmR_rs]⟩
  obtain ⟨C0, z0, y0, u0, v0, w0⟩ := hex ar0
  obtain ⟨C1, z1, y1, u1, v1, w1⟩ := hex A1
  obtain ⟨C2, z2, y2, u2, v2, w2⟩ := hex A
  obtain ⟨C3, z3, y3, u3, v3, w3⟩ := hex B1
  obtain ⟨C4, z4, y4, u4, v4, w4⟩ := hex B
  obtain ⟨C5, z5, y5, u5, v5, w5⟩ := hex C
  obtain ⟨C6, z6, y6, u6, v6, w6⟩ := hex D
  rw [z0] at p17 P1 P3
  rw [z1] at P1 P2
  rw [z2] at P2 P5 P7
  rw [z3] at P3 P4
  rw [z4] at P4 P8
  rw [z5] at P5 P6
  rw [z6] at P6 P9
  have t2 : ((2 : Nat) : Int) = 2 := rfl
  have t1 : ((1 : Nat) : Int) = 1 := rfl
  have t0 : ((0 : Nat) : Int) = 0 := rfl
  rw [t0] at P1 P3
  rw [t1] at P2 P4
  rw [t2] at P5 P6
  generalize used A.slots = U at *
  refine W_region fun K hK => ?_
  simp only [KA, KB, KP, KQ, KM, reduceCtorEq, ↓reduceIte, Int.reduceLT, Int.reduceLE, Int.reduceAdd, Int.reduceSub, Int.reduceNeg, Int.reduceMul, Int.reduceToNat, Int.reduceEq, Int.reduceNe, Int.reduceGT, Int.reduceGE, Nat.reducePow, Nat.reduceAdd, Nat.reduceSub, Nat.reduceLT, Nat.reduceMul, Nat.reduceDiv, Nat.reduceEqDiff, Nat.reduceLeDiff, KT w, KI, hw.KF, cm, cmt, cmd, cn, cnt', cnd, cx, cxt, cxd, s1, s2, s3, a1, a2, a3]
  refine hK _ _ ?_
  clear hK
  clear K
  repeat with_reducible (first | refine E0 ?_ | refine E1 ?_ | refine E2 ?_ | refine E3 ?_ | refine E4 ?_ | refine E5 (by decide) ?_ | refine E6 ?_ | refine E7 ?_ | refine E8 ?_ | refine E9 ?_ | refine Ea ?_ | refine Eb ?_ | refine Ec ?_ | refine Ed ?_)
  refine W_condF (by simp only [KA, KP, KQ, reduceCtorEq, ↓reduceIte, Int.reduceLT, Int.reduceLE, Int.reduceAdd, Int.reduceSub, Int.reduceNeg, Int.reduceMul, Int.reduceToNat, Int.reduceEq, Int.reduceNe, Int.reduceGT, Int.reduceGE, Nat.reducePow, Nat.reduceAdd, Nat.reduceSub, Nat.reduceLT, Nat.reduceMul, Nat.reduceDiv, Nat.reduceEqDiff, Nat.reduceLeDiff, KT w, KI, hw.KF, a1]) ?_
  repeat with_reducible (first | refine E0 ?_ | refine E1 ?_ | refine E2 ?_ | refine E3 ?_ | refine E4 ?_ | refine E5 (by decide) ?_ | refine E6 ?_ | refine E7 ?_ | refine E8 ?_ | refine E9 ?_ | refine Ea ?_ | refine Eb ?_ | refine Ec ?_ | refine Ed ?_)
  refine W_regionD [[], [], [0, 1], [2, 0, 1], [3, 2, 0, 1], [3, 2, 0, 1], [3, 2, 0, 1], [], [7, 4, 3, 2, 0, 1], [5, 3, 2, 0, 1, 8, 7, 4], [6, 3, 2, 0, 1, 9, 5, 8, 7, 4]] (by decide +kernel) (by decide +kernel) (by decide +kernel) fun K hK => ?_
  simp only [KA, KB, KP, KQ, KM, reduceCtorEq, ↓reduceIte, Int.reduceLT, Int.reduceLE, Int.reduceAdd, Int.reduceSub, Int.reduceNeg, Int.reduceMul, Int.reduceToNat, Int.reduceEq, Int.reduceNe, Int.reduceGT, Int.reduceGE, Nat.reducePow, Nat.reduceAdd, Nat.reduceSub, Nat.reduceLT, Nat.reduceMul, Nat.reduceDiv, Nat.reduceEqDiff, Nat.reduceLeDiff, KT w, KI, hw.KF, A58, A59, A5a, A5b, A5c, A5d, A5e, A5f, A5g, A5h, KX, Foot.big, A5i, opP, rfoot, refsO, refs, wfoot, A5j, A5k, noisyOk, pairOk, Foot.isQuiet, Foot.apart, Ft.apart, Foot.none, A5l, A5m, A48, A49, A5n, A5o, A5p, A5q, Nat.reduceBEq, p17, P1, w0, cm, cmt, cmd, y1, u1, v1, splice]
  refine hK _ _ ?_
  clear hK
  clear K
  repeat with_reducible (first | refine E0 ?_ | refine E1 ?_ | refine E2 ?_ | refine E3 ?_ | refine E4 ?_ | refine E5 (by decide) ?_ | refine E6 ?_ | refine E7 ?_ | refine E8 ?_ | refine E9 ?_ | refine Ea ?_ | refine Eb ?_ | refine Ec ?_ | refine Ed ?_)
  refine W_region fun K hK => ?_
  simp only [KA, KB, KP, KQ, KM, reduceCtorEq, ↓reduceIte, Int.reduceLT, Int.reduceLE, Int.reduceAdd, Int.reduceSub, Int.reduceNeg, Int.reduceMul, Int.reduceToNat, Int.reduceEq, Int.reduceNe, Int.reduceGT, Int.reduceGE, Nat.reducePow, Nat.reduceAdd, Nat.reduceSub, Nat.reduceLT, Nat.reduceMul, Nat.reduceDiv, Nat.reduceEqDiff, Nat.reduceLeDiff, KT w, KI, hw.KF, P2, cn, cnt', cnd, y1, u1, v1, y2, u2, v2, splice]
  refine hK _ _ ?_
  clear hK
  clear K
  repeat with_reducible (first | refine E0 ?_ | refine E1 ?_ | refine E2 ?_ | refine E3 ?_ | refine E4 ?_ | refine E5 (by decide) ?_ | refine E6 ?_ | refine E7 ?_ | refine E8 ?_ | refine E9 ?_ | refine Ea ?_ | refine Eb ?_ | refine Ec ?_ | refine Ed ?_)
  refine W_regionD [[], [], [0, 1], [2, 0, 1], [3, 2, 0, 1], [3, 2, 0, 1], [3, 2, 0, 1], [], [7, 4, 3, 2, 0, 1], [5, 3, 2, 0, 1, 8, 7, 4], [6, 3, 2, 0, 1, 9, 5, 8, 7, 4]] (by decide +kernel) (by decide +kernel) (by decide +kernel) fun K hK => ?_
  simp only [KA, KB, KP, KQ, KM, reduceCtorEq, ↓reduceIte, Int.reduceLT, Int.reduceLE, Int.reduceAdd, Int.reduceSub, Int.reduceNeg, Int.reduceMul, Int.reduceToNat, Int.reduceEq, Int.reduceNe, Int.reduceGT, Int.reduceGE, Nat.reducePow, Nat.reduceAdd, Nat.reduceSub, Nat.reduceLT, Nat.reduceMul, Nat.reduceDiv, Nat.reduceEqDiff, Nat.reduceLeDiff, KT w, KI, hw.KF, A58, A59, A5a, A5b, A5c, A5d, A5e, A5f, A5g, A5h, KX, Foot.big, A5i, opP, rfoot, refsO, refs, wfoot, A5j, A5k, noisyOk, pairOk, Foot.isQuiet, Foot.apart, Ft.apart, Foot.none, A5l, A5m, A48, A49, A5n, A5o, A5p, A5q, Nat.reduceBEq, p17, P3, w0, cn, cnt', cnd, y3, u3, v3, splice]
  refine hK _ _ ?_
  clear hK
  clear K
  repeat with_reducible (first | refine E0 ?_ | refine E1 ?_ | refine E2 ?_ | refine E3 ?_ | refine E4 ?_ | refine E5 (by decide) ?_ | refine E6 ?_ | refine E7 ?_ | refine E8 ?_ | refine E9 ?_ | refine Ea ?_ | refine Eb ?_ | refine Ec ?_ | refine Ed ?_)
  refine W_region fun K hK => ?_
  simp only [KA, KB, KP, KQ, KM, reduceCtorEq, ↓reduceIte, Int.reduceLT, Int.reduceLE, Int.reduceAdd, Int.reduceSub, Int.reduceNeg, Int.reduceMul, Int.reduceToNat, Int.reduceEq, Int.reduceNe, Int.reduceGT, Int.reduceGE, Nat.reducePow, Nat.reduceAdd, Nat.reduceSub, Nat.reduceLT, Nat.reduceMul, Nat.reduceDiv, Nat.reduceEqDiff, Nat.reduceLeDiff, KT w, KI, hw.KF, P4, cm, cmt, cmd, y3, u3, v3, y4, u4, v4, splice]
  refine hK _ _ ?_
  clear hK
  clear K
  repeat with_reducible (first | refine E0 ?_ | refine E1 ?_ | refine E2 ?_ | refine E3 ?_ | refine E4 ?_ | refine E5 (by decide) ?_ | refine E6 ?_ | refine E7 ?_ | refine E8 ?_ | refine E9 ?_ | refine Ea ?_ | refine Eb ?_ | refine Ec ?_ | refine Ed ?_)
  refine W_region fun K hK => ?_
  simp only [KA, KB, KP, KQ, KM, reduceCtorEq, ↓reduceIte, Int.reduceLT, Int.reduceLE, Int.reduceAdd, Int.reduceSub, Int.reduceNeg, Int.reduceMul, Int.reduceToNat, Int.reduceEq, Int.reduceNe, Int.reduceGT, Int.reduceGE, Nat.reducePow, Nat.reduceAdd, Nat.reduceSub, Nat.reduceLT, Nat.reduceMul, Nat.reduceDiv, Nat.reduceEqDiff, Nat.reduceLeDiff, KT w, KI, hw.KF, P5, cx, cxt, cxd, y2, u2, v2, y5, u5, v5, splice]
  refine hK _ _ ?_
  clear hK
  clear K
  repeat with_reducible (first | refine E0 ?_ | refine E1 ?_ | refine E2 ?_ | refine E3 ?_ | refine E4 ?_ | refine E5 (by decide) ?_ | refine E6 ?_ | refine E7 ?_ | refine E8 ?_ | refine E9 ?_ | refine Ea ?_ | refine Eb ?_ | refine Ec ?_ | refine Ed ?_)
  refine W_region fun K hK => ?_
  simp only [KA, KB, KP, KQ, KM, reduceCtorEq, ↓reduceIte, Int.reduceLT, Int.reduceLE, Int.reduceAdd, Int.reduceSub, Int.reduceNeg, Int.reduceMul, Int.reduceToNat, Int.reduceEq, Int.reduceNe, Int.reduceGT, Int.reduceGE, Nat.reducePow, Nat.reduceAdd, Nat.reduceSub, Nat.reduceLT, Nat.reduceMul, Nat.reduceDiv, Nat.reduceEqDiff, Nat.reduceLeDiff, KT w, KI, hw.KF, P6, y5, u5, v5, y6, u6, v6, splice]
  refine hK _ _ ?_
  clear hK
  clear K
  repeat with_reducible (first | refine E0 ?_ | refine E1 ?_ | refine E2 ?_ | refine E3 ?_ | refine E4 ?_ | refine E5 (by decide) ?_ | refine E6 ?_ | refine E7 ?_ | refine E8 ?_ | refine E9 ?_ | refine Ea ?_ | refine Eb ?_ | refine Ec ?_ | refine Ed ?_)
  trace_state
  refine W_regionD [[], [0], [1, 0], [2, 1, 0], [3, 2, 1, 0], [2, 1, 0, 4, 3], [5, 2, 1, 0, 4, 3], [6, 5, 2, 1, 0, 4, 3], [7, 6, 5, 2, 1, 0, 4, 3], [6, 5, 2, 1, 0, 4, 3], [9, 6, 5, 2, 1, 0, 4, 3, 8, 7], [8, 7, 6, 5, 2, 1, 0, 4, 3, 10, 9], [6, 5, 2, 1, 0, 4, 3, 11, 8, 7, 10, 9], [12, 6, 5, 2, 1, 0, 4, 3, 11, 8, 7, 10, 9], [13, 12, 6, 5, 2, 1, 0, 4, 3, 11, 8, 7, 10, 9], [14, 13, 12, 6, 5, 2, 1, 0, 4, 3, 11, 8, 7, 10, 9], [13, 12, 6, 5, 2, 1, 0, 4, 3, 11, 8, 7, 10, 9], [16, 13, 12, 6, 5, 2, 1, 0, 4, 3, 11, 8, 7, 10, 9, 15, 14], [15, 14, 13, 12, 6, 5, 2, 1, 0, 4, 3, 11, 8, 7, 10, 9, 17, 16], [13, 12, 6, 5, 2, 1, 0, 4, 3, 11, 8, 7, 10, 9, 18, 15, 14, 17, 16], [19, 13, 12, 6, 5, 2, 1, 0, 4, 3, 11, 8, 7, 10, 9, 18, 15, 14, 17, 16], [20, 19, 13, 12, 6, 5, 2, 1, 0, 4, 3, 11, 8, 7, 10, 9, 18, 15, 14, 17, 16], [20, 19, 13, 12, 6, 5, 2, 1, 0, 4, 3, 11, 8, 7, 10, 9, 18, 15, 14, 17, 16, 21], [22, 20, 19, 13, 12, 6, 5, 2, 1, 0, 4, 3, 11, 8, 7, 10, 9, 18, 15, 14, 17, 16, 21]] (by decide +kernel) (by decide +kernel) (by decide +kernel) fun K hK => ?_
  simp only [KA, KB, KP, KQ, KM, reduceCtorEq, ↓reduceIte, Int.reduceLT, Int.reduceLE, Int.reduceAdd, Int.reduceSub, Int.reduceNeg, Int.reduceMul, Int.reduceToNat, Int.reduceEq, Int.reduceNe, Int.reduceGT, Int.reduceGE, Nat.reducePow, Nat.reduceAdd, Nat.reduceSub, Nat.reduceLT, Nat.reduceMul, Nat.reduceDiv, Nat.reduceEqDiff, Nat.reduceLeDiff, KT w, KI, hw.KF, A58, A59, A5a, A5b, A5c, A5d, A5e, A5f, A5g, A5h, KX, Foot.big, A5i, opP, rfoot, refsO, refs, wfoot, A5j, A5k, noisyOk, pairOk, Foot.isQuiet, Foot.apart, Ft.apart, Foot.none, A5l, A5m, A48, A49, A5n, A5o, A5p, A5q, Nat.reduceBEq, P7, P8, P9, haw, w2, w4, w6, y2, u2, v2, y4, u4, v4, y6, u6, v6]
  refine hK _ _ ?_
  clear hK
  clear K
  repeat with_reducible (first | refine E0 ?_ | refine E1 ?_ | refine E2 ?_ | refine E3 ?_ | refine E4 ?_ | refine E5 (by decide) ?_ | refine E6 ?_ | refine E7 ?_ | refine E8 ?_ | refine E9 ?_ | refine Ea ?_ | refine Eb ?_ | refine Ec ?_ | refine Ed ?_)
  refine AtEnd_of rfl ?_
  simp only [KA, KP, KQ, reduceCtorEq, ↓reduceIte, Int.reduceLT, Int.reduceLE, Int.reduceAdd, Int.reduceSub, Int.reduceNeg, Int.reduceMul, Int.reduceToNat, Int.reduceEq, Int.reduceNe, Int.reduceGT, Int.reduceGE, Nat.reducePow, Nat.reduceAdd, Nat.reduceSub, Nat.reduceLT, Nat.reduceMul, Nat.reduceDiv, Nat.reduceEqDiff, Nat.reduceLeDiff, KT w, KI, hw.KF, RS_some, aresults_nil, aresults_tmp, aresults_cell, one]
  exact FZ_bool
end Go.Am.R
