/- THE LAW ArenaDoes. -/
import Derived.Test.YtbmfnoaogebjfaaDoorW4
import Derived.Test.YtbmfnoaogebjfaaDoorV1
import Derived.Test.YtbmfnoaogebjfaaDoorV8
import Derived.Test.YtbmfnoaogebjfaaDoorV9
import Derived.Test.YtbmfnoaogebjfaaDoorTz
set_option linter.unusedSimpArgs false
set_option linter.unusedVariables false
set_option maxRecDepth 20000
namespace Go.Am.R
open Go.Proofs Go.IntWalk Classical

variable {w : Ways}

theorem stdRV : StdR vw := ⟨fun r => rfl, fun r => rfl, rfl, rfl⟩
theorem arC_len3 (A : Ar) : (arC A).length = 3 := rfl
theorem arC_take3 (A : Ar) : (arC A).take 3 = arC A := rfl
theorem arC_drop3 (A : Ar) : (arC A).drop 3 = [] := rfl
theorem arC_nrm3 (A : Ar) : nrmL (arC A) = some (arC A) := by
  have := nrm_arV A
  simpa [arV, nrm] using this
theorem RAr.cells_len3 (A : RAr) : A.cells.length = 3 := rfl
theorem RAr.cells_take3 (A : RAr) : A.cells.take 3 = A.cells := rfl
theorem RAr.cells_drop3 (A : RAr) : A.cells.drop 3 = [] := rfl
theorem RAr.cells_nrm3 (A : RAr) : nrmL A.cells = some A.cells := by
  have := A.nrm
  simpa [RAr.av, Am.nrm] using this

/-- What releasing comes to, for the program and for the document. -/
theorem drops (X : Ar) (hI : Inv X [] []) (hRB : RB 20000000 X.slots) (hKL : KL' X.slots) (hr : X.roots.length ≤ 4000) (h : Int) :
    ∃ (E : Ar) (e : Int), Inv E [] [] ∧ KL' E.slots ∧ E.roots.length ≤ 4000 ∧ PC (cfg vw) 14 [arV X, .int .i64 h] (.tup [arV E, .int .i64 e]) ∧ PC (cfg vw) 15 [arV X, .int .i64 h] (.tup [arV E, .int .i64 e]) := by
  by_cases hq : (rootR X h).2 = true
  case neg =>
    rw [Bool.not_eq_true] at hq
    exact ⟨X, 19, hI, hKL, hr, drop14_no stdV X h (by omega) hq, drop15_no stdV X h (by omega) hq⟩
  unfold rootR at hq
  split at hq
  case isFalse => cases hq
  rename_i h0
  obtain ⟨i, hi⟩ : ∃ i, X.roots[h.toNat]? = some (some i) := by
    cases ho : X.roots[h.toNat]? with
    | none => rw [ho] at hq; cases hq
    | some o =>
      rw [ho] at hq
      cases o with
      | none => cases hq
      | some i => exact ⟨i, rfl⟩
  obtain ⟨C, c1, c2, c3, c4, c5⟩ := drop_ok hI hi
  have hh : ((h.toNat : Nat) : Int) = h := by omega
  have p1 := drop14 stdV (by rfl) (by rfl) (by rfl) X C h.toNat i hI 20000000 hRB (by omega) (by omega) hKL (by omega) hi c1
  have p2 := drop15 stdV stdRV X C h.toNat i hI 20000000 hRB (by omega) (by omega) hKL (by omega) hi c1 c2
  rw [hh] at p1 p2
  exact ⟨C, 0, c2, less_kl c1 hKL, by rw [c3, List.length_set]; exact hr, p1, p2⟩
theorem add_or5 {A : Ar} {n : Node} (h : Inv A [] []) (hr : A.roots.length < 4096) : addR A n = (A, 0, 22) ∨ ∃ i C, addR A n = (C, ((A.roots.length : Nat) : Int), 0) ∧ addA A n = some (C, A.roots.length) ∧ Inv C [] [] ∧ C.roots = A.roots ++ [some i] := by
  rcases lay_or n 0 A [] h with ⟨h1, _⟩ | ⟨i, B, h1, h2, h3, h4, h5, _⟩
  · left
    rw [addR, if_neg (by omega), h1]
  · right
    obtain ⟨k1, k2⟩ := root_ok h2 h4.used
    have hA : addA A n = some (⟨refS B.slots i, B.free, B.roots ++ [some i]⟩, A.roots.length) := by rw [addA, h1]; simp only [h5]
    exact ⟨i, _, addR_of hA hr, hA, k1, by simp only [h5]⟩
/-- .. and taking in. -/
theorem adds (X : Ar) (n : Node) (hI : Inv X [] []) (hRB : RB 20000000 X.slots) (hKL : KL' X.slots) (hr : X.roots.length ≤ 4000) (hn : nn n ≤ 1000) :
    ∃ (D : Ar) (g e : Int), Inv D [] [] ∧ KL' D.slots ∧ D.roots.length ≤ 4001 ∧ PC (cfg vw) 12 [arV X, n.av] (.tup [arV D, .int .i64 g, .int .i64 e]) ∧ PC (cfg vw) 13 [arV X, n.av] (.tup [arV D, .int .i64 g, .int .i64 e]) := by
  have p1 := add12 stdV (by rfl) (by rfl) (by rfl) X n hI 20000000 hRB (by omega) (by omega) hKL (by omega)
  have p2 := add13 stdV stdRV X n hI 20000000 hRB (by omega) (by omega) hKL (by omega)
  rcases add_or5 (n := n) hI (by omega) with e1 | ⟨i, B, e1, e2, e3, e4⟩
  · rw [e1] at p1 p2
    exact ⟨X, 0, 22, hI, hKL, by omega, p1, p2⟩
  · rw [e1] at p1 p2
    exact ⟨B, _, 0, e3, add_kl (by omega) hKL e2, by rw [e4]; simp; omega, p1, p2⟩

set_option maxHeartbeats 4000000 in
theorem does3 (A : RAr) (hA : A.ok) (n : Node) (hn : n.ok) (h : Int) : PC (cfg vw) 3 [A.av, n.av, .int .i64 h] (.bool true) := by
  have hw := stdV
  have haw := awake11
  refine PC_of (args' := [A.av, n.av, .int .i64 h]) hw.e3 hw.m3 (by simp [nrmA, nrm, A.nrm, Node.nrm_all]) ?_
  have p8 := light8 hw A hA
  have p9 := fit9 hw A hA
  have p10 := small_okB hw n hn 500 (by omega) (by omega)
  have hfit : FitP A → A.cells = arC A.ar := fun h => by
    have := h.av
    simp only [arV, RAr.av, AV.agg.injEq] at this
    exact this.symm
  have q1 := A.cells_len3
  have q2 := A.cells_take3
  have q3 := A.cells_drop3
  have q6 := A.cells_nrm3
  have hfew := fun (h : FitP A) => h.few
  have hinv := fun (h : FitP A) => h.inv
  have ncl := Node.cells_len n
  have nct := Node.cells_take n
  have ncd := Node.cells_drop n
  have nrn := Node.nrm_all n
  have hav : A.av = .agg A.cells := rfl
  have padd := adds
  have pdrop := drops
  have psame := fun (X : Ar) a b c d => same16 hw X a b c d
  rw [hav] at p8 p9 ⊢
  generalize hW : vw = w at *
  refine call_of_W (fn3 w) rfl ?_
  simp only [Tryd.f3, List.length_cons, List.length_nil, Nat.reduceAdd, Nat.reduceSub, List.cons_append, List.nil_append]
  repeat with_reducible (first | apply E0 | apply E1 | apply E2 | apply E3 | apply E4 | refine E5 (by decide) ?_ | apply E6 | apply E7 | apply E8 | apply E9 | apply Ea | apply Eb | apply Ec | apply Ed)
  refine W_region fun K hK => ?_
  simp only [KA, KB, KP, KQ, KM, simprocAttr, KT w, KI, hw.KF]
  refine hK _ _ ?_
  clear hK
  clear K
  repeat with_reducible (first | apply E0 | apply E1 | apply E2 | apply E3 | apply E4 | refine E5 (by decide) ?_ | apply E6 | apply E7 | apply E8 | apply E9 | apply Ea | apply Eb | apply Ec | apply Ed)
  by_cases hL : 0 ≤ lightL A.slots (4000 - A.roots.length)
  case neg =>
    rw [decide_eq_false hL] at p8
    refine W_region fun K hK => ?_
    simp only [KA, KB, KP, KQ, KM, simprocAttr, KT w, KI, hw.KF, q1, q2, q3, p8]
    refine hK _ _ ?_
    clear hK
    clear K
    repeat with_reducible (first | apply E0 | apply E1 | apply E2 | apply E3 | apply E4 | refine E5 (by decide) ?_ | apply E6 | apply E7 | apply E8 | apply E9 | apply Ea | apply Eb | apply Ec | apply Ed)
    refine W_condT (by simp only [KA, KP, KQ, simprocAttr, KT w, KI, hw.KF]) ?_
    repeat with_reducible (first | apply E0 | apply E1 | apply E2 | apply E3 | apply E4 | refine E5 (by decide) ?_ | apply E6 | apply E7 | apply E8 | apply E9 | apply Ea | apply Eb | apply Ec | apply Ed)
    refine W_region fun K hK => ?_
    simp only [KA, KB, KP, KQ, KM, simprocAttr, KT w, KI, hw.KF, haw]
    refine hK _ _ ?_
    clear hK
    clear K
    repeat with_reducible (first | apply E0 | apply E1 | apply E2 | apply E3 | apply E4 | refine E5 (by decide) ?_ | apply E6 | apply E7 | apply E8 | apply E9 | apply Ea | apply Eb | apply Ec | apply Ed)
    refine AtEnd_of rfl ?_
    simp only [KA, KP, KQ, simprocAttr, KT w, KI, hw.KF, RS_some, aresults_nil, aresults_tmp, aresults_cell, one]
    exact FZ_bool
  rw [decide_eq_true hL] at p8
  by_cases hF : FitP A
  case neg =>
    rw [decide_eq_false hF] at p9
    refine W_region fun K hK => ?_
    simp only [KA, KB, KP, KQ, KM, simprocAttr, KT w, KI, hw.KF, q1, q2, q3, p8, p9]
    refine hK _ _ ?_
    clear hK
    clear K
    repeat with_reducible (first | apply E0 | apply E1 | apply E2 | apply E3 | apply E4 | refine E5 (by decide) ?_ | apply E6 | apply E7 | apply E8 | apply E9 | apply Ea | apply Eb | apply Ec | apply Ed)
    refine W_condT (by simp only [KA, KP, KQ, simprocAttr, KT w, KI, hw.KF]) ?_
    repeat with_reducible (first | apply E0 | apply E1 | apply E2 | apply E3 | apply E4 | refine E5 (by decide) ?_ | apply E6 | apply E7 | apply E8 | apply E9 | apply Ea | apply Eb | apply Ec | apply Ed)
    refine W_region fun K hK => ?_
    simp only [KA, KB, KP, KQ, KM, simprocAttr, KT w, KI, hw.KF, haw]
    refine hK _ _ ?_
    clear hK
    clear K
    repeat with_reducible (first | apply E0 | apply E1 | apply E2 | apply E3 | apply E4 | refine E5 (by decide) ?_ | apply E6 | apply E7 | apply E8 | apply E9 | apply Ea | apply Eb | apply Ec | apply Ed)
    refine AtEnd_of rfl ?_
    simp only [KA, KP, KQ, simprocAttr, KT w, KI, hw.KF, RS_some, aresults_nil, aresults_tmp, aresults_cell, one]
    exact FZ_bool
  rw [decide_eq_true hF] at p9
  by_cases hS : small n 500 < 0
  · refine W_region fun K hK => ?_
    simp only [KA, KB, KP, KQ, KM, simprocAttr, KT w, KI, hw.KF, q1, q2, q3, p8, p9, ncl, nct, ncd, p10, hS]
    refine hK _ _ ?_
    clear hK
    clear K
    repeat with_reducible (first | apply E0 | apply E1 | apply E2 | apply E3 | apply E4 | refine E5 (by decide) ?_ | apply E6 | apply E7 | apply E8 | apply E9 | apply Ea | apply Eb | apply Ec | apply Ed)
    refine W_condT (by simp only [KA, KP, KQ, simprocAttr, KT w, KI, hw.KF]) ?_
    repeat with_reducible (first | apply E0 | apply E1 | apply E2 | apply E3 | apply E4 | refine E5 (by decide) ?_ | apply E6 | apply E7 | apply E8 | apply E9 | apply Ea | apply Eb | apply Ec | apply Ed)
    refine W_region fun K hK => ?_
    simp only [KA, KB, KP, KQ, KM, simprocAttr, KT w, KI, hw.KF, haw]
    refine hK _ _ ?_
    clear hK
    clear K
    repeat with_reducible (first | apply E0 | apply E1 | apply E2 | apply E3 | apply E4 | refine E5 (by decide) ?_ | apply E6 | apply E7 | apply E8 | apply E9 | apply Ea | apply Eb | apply Ec | apply Ed)
    refine AtEnd_of rfl ?_
    simp only [KA, KP, KQ, simprocAttr, KT w, KI, hw.KF, RS_some, aresults_nil, aresults_tmp, aresults_cell, one]
    exact FZ_bool
  have h500 : nn n ≤ 500 := by have := small_nn (n := n) (l := 500) (by omega); omega
  refine W_region fun K hK => ?_
  simp only [KA, KB, KP, KQ, KM, simprocAttr, KT w, KI, hw.KF, q1, q2, q3, p8, p9, ncl, nct, ncd, p10, hS]
  refine hK _ _ ?_
  clear hK
  clear K
  repeat with_reducible (first | apply E0 | apply E1 | apply E2 | apply E3 | apply E4 | refine E5 (by decide) ?_ | apply E6 | apply E7 | apply E8 | apply E9 | apply Ea | apply Eb | apply Ec | apply Ed)
  refine W_condF (by simp only [KA, KP, KQ, simprocAttr, KT w, KI, hw.KF]) ?_
  repeat with_reducible (first | apply E0 | apply E1 | apply E2 | apply E3 | apply E4 | refine E5 (by decide) ?_ | apply E6 | apply E7 | apply E8 | apply E9 | apply Ea | apply Eb | apply Ec | apply Ed)
  obtain ⟨f1, f2, fRB, fKL⟩ := hfew hF hL
  have fI := hinv hF
  have hro : A.ar.roots.length = A.roots.length := List.length_map _
  rw [hfit hF]
  generalize A.ar = X at *
  clear q1 q2 q3 q6 p8 p9 hfit hfew hinv hav
  have acl := arC_len3
  have act := arC_take3
  have acd := arC_drop3
  have acn := arC_nrm3
  obtain ⟨D, g, e, dI, dK, dR, a1, a2⟩ := padd X n fI fRB fKL (by omega) (by omega)
  obtain ⟨E, e2, eI, eK, eR, b1, b2⟩ := pdrop X fI fRB fKL (by omega) h
  have sD := psame D (nonneg dI) (by have := dI.len; omega) (by omega) dK
  have sE := psame E (nonneg eI) (by have := eI.len; omega) (by omega) eK
  have a1' : PC (cfg w) 12 [.agg (arC X), .agg n.cells] (.tup [.agg (arC D), .int .i64 g, .int .i64 e]) := a1
  have a2' : PC (cfg w) 13 [.agg (arC X), .agg n.cells] (.tup [.agg (arC D), .int .i64 g, .int .i64 e]) := a2
  have b1' : PC (cfg w) 14 [.agg (arC X), .int .i64 h] (.tup [.agg (arC E), .int .i64 e2]) := b1
  have b2' : PC (cfg w) 15 [.agg (arC X), .int .i64 h] (.tup [.agg (arC E), .int .i64 e2]) := b2
  refine W_region fun K hK => ?_
  simp only [KA, KB, KP, KQ, KM, simprocAttr, KT w, KI, hw.KF, acl, act, acd, ncl, nct, ncd, a1', A3p, splice]
  refine hK _ _ ?_
  clear hK
  clear K
  repeat with_reducible (first | apply E0 | apply E1 | apply E2 | apply E3 | apply E4 | refine E5 (by decide) ?_ | apply E6 | apply E7 | apply E8 | apply E9 | apply Ea | apply Eb | apply Ec | apply Ed)
  refine W_region fun K hK => ?_
  simp only [KA, KB, KP, KQ, KM, simprocAttr, KT w, KI, hw.KF, acl, act, acd, ncl, nct, ncd, a2', A3p, splice]
  refine hK _ _ ?_
  clear hK
  clear K
  repeat with_reducible (first | apply E0 | apply E1 | apply E2 | apply E3 | apply E4 | refine E5 (by decide) ?_ | apply E6 | apply E7 | apply E8 | apply E9 | apply Ea | apply Eb | apply Ec | apply Ed)
  refine W_region fun K hK => ?_
  simp only [KA, KB, KP, KQ, KM, simprocAttr, KT w, KI, hw.KF, acl, act, acd, b1', A3p, splice]
  refine hK _ _ ?_
  clear hK
  clear K
  repeat with_reducible (first | apply E0 | apply E1 | apply E2 | apply E3 | apply E4 | refine E5 (by decide) ?_ | apply E6 | apply E7 | apply E8 | apply E9 | apply Ea | apply Eb | apply Ec | apply Ed)
  refine W_region fun K hK => ?_
  simp only [KA, KB, KP, KQ, KM, simprocAttr, KT w, KI, hw.KF, acl, act, acd, b2', A3p, splice]
  refine hK _ _ ?_
  clear hK
  clear K
  repeat with_reducible (first | apply E0 | apply E1 | apply E2 | apply E3 | apply E4 | refine E5 (by decide) ?_ | apply E6 | apply E7 | apply E8 | apply E9 | apply Ea | apply Eb | apply Ec | apply Ed)
  refine W_region fun K hK => ?_
  simp only [KA, KB, KP, KQ, KM, simprocAttr, KT w, KI, hw.KF, acl, act, acd, acn, sD, sE, haw]
  refine hK _ _ ?_
  clear hK
  clear K
  repeat with_reducible (first | apply E0 | apply E1 | apply E2 | apply E3 | apply E4 | refine E5 (by decide) ?_ | apply E6 | apply E7 | apply E8 | apply E9 | apply Ea | apply Eb | apply Ec | apply Ed)
  refine AtEnd_of rfl ?_
  simp only [KA, KP, KQ, simprocAttr, KT w, KI, hw.KF, RS_some, aresults_nil, aresults_tmp, aresults_cell, one]
  exact FZ_bool
end Go.Am.R
