/- THE REFERENCE'S SAME. -/
import Derived.Test.YtbmfnoaogebjfaaDoorT10
set_option linter.unusedSimpArgs false
set_option linter.unusedVariables false
set_option maxRecDepth 20000
namespace Go.Am.R
open Go.Proofs Go.IntWalk

variable {w : Ways}

theorem ints41 (hw : Std w) (a b : List Int) (ha : a.length ≤ 35184372088832) (hb : b.length ≤ 35184372088832) : PC (cfg w) 41 [.vec (ints a), .vec (ints b)] (.bool (decide (a = b))) := by
  refine PC_of (args' := [.vec (ints a), .vec (ints b)]) hw.e41 hw.m41 (by simp [nrmA, nrm, nrmR_ints]) ?_
  refine call_of_W (fn41 w) rfl ?_
  simp only [Tryd.f41, List.length_cons, List.length_nil, ↓reduceIte, Int.reduceLT, Int.reduceLE, Int.reduceAdd, Int.reduceSub, Int.reduceNeg, Int.reduceMul, Int.reduceToNat, Int.reduceEq, Int.reduceNe, Int.reduceGT, Int.reduceGE, Nat.reducePow, IntKind.bits, Nat.reduceAdd, Nat.reduceSub, List.cons_append, List.nil_append]
  repeat with_reducible (first | refine E0 ?_ | refine E1 ?_ | refine E2 ?_ | refine E3 ?_ | refine E4 ?_ | refine E5 (by decide) ?_ | refine E6 ?_ | refine E7 ?_ | refine E8 ?_ | refine E9 ?_ | refine Ea ?_ | refine Eb ?_ | refine Ec ?_ | refine Ed ?_)
  refine W_region fun K hK => ?_
  simp only [KA, KB, KP, KQ, KM, simprocAttr, KT w, KI, hw.KF]
  refine hK _ _ ?_
  clear hK
  clear K
  repeat with_reducible (first | refine E0 ?_ | refine E1 ?_ | refine E2 ?_ | refine E3 ?_ | refine E4 ?_ | refine E5 (by decide) ?_ | refine E6 ?_ | refine E7 ?_ | refine E8 ?_ | refine E9 ?_ | refine Ea ?_ | refine Eb ?_ | refine Ec ?_ | refine Ed ?_)
  refine W_region fun K hK => ?_
  simp only [KA, KB, KP, KQ, KM, simprocAttr, KT w, KI, hw.KF]
  refine hK _ _ ?_
  clear hK
  clear K
  repeat with_reducible (first | refine E0 ?_ | refine E1 ?_ | refine E2 ?_ | refine E3 ?_ | refine E4 ?_ | refine E5 (by decide) ?_ | refine E6 ?_ | refine E7 ?_ | refine E8 ?_ | refine E9 ?_ | refine Ea ?_ | refine Eb ?_ | refine Ec ?_ | refine Ed ?_)
  by_cases hab : ¬ (a.length : Int) = b.length
  · refine W_condT (by simp only [KA, KP, KQ, simprocAttr, KT w, KI, hw.KF, hab]) ?_
    repeat with_reducible (first | refine E0 ?_ | refine E1 ?_ | refine E2 ?_ | refine E3 ?_ | refine E4 ?_ | refine E5 (by decide) ?_ | refine E6 ?_ | refine E7 ?_ | refine E8 ?_ | refine E9 ?_ | refine Ea ?_ | refine Eb ?_ | refine Ec ?_ | refine Ed ?_)
    refine W_region fun K hK => ?_
    simp only [KA, KB, KP, KQ, KM, simprocAttr, KT w, KI, hw.KF]
    refine hK _ _ ?_
    clear hK
    clear K
    repeat with_reducible (first | refine E0 ?_ | refine E1 ?_ | refine E2 ?_ | refine E3 ?_ | refine E4 ?_ | refine E5 (by decide) ?_ | refine E6 ?_ | refine E7 ?_ | refine E8 ?_ | refine E9 ?_ | refine Ea ?_ | refine Eb ?_ | refine Ec ?_ | refine Ed ?_)
    refine AtEnd_of rfl ?_
    simp only [KA, KP, KQ, simprocAttr, KT w, KI, hw.KF, RS_some, aresults_nil, aresults_tmp, aresults_cell, one]
    rw [show decide (a = b) = false by simp; rintro rfl; exact hab rfl]
    exact FZ_bool
  rw [Decidable.not_not] at hab
  refine W_condF (by simp only [KA, KP, KQ, simprocAttr, KT w, KI, hw.KF, hab]) ?_
  repeat with_reducible (first | refine E0 ?_ | refine E1 ?_ | refine E2 ?_ | refine E3 ?_ | refine E4 ?_ | refine E5 (by decide) ?_ | refine E6 ?_ | refine E7 ?_ | refine E8 ?_ | refine E9 ?_ | refine Ea ?_ | refine Eb ?_ | refine Ec ?_ | refine Ed ?_)
  refine W_region fun K hK => ?_
  simp only [KA, KB, KP, KQ, KM, simprocAttr, KT w, KI, hw.KF]
  refine hK _ _ ?_
  clear hK
  clear K
  repeat with_reducible (first | refine E0 ?_ | refine E1 ?_ | refine E2 ?_ | refine E3 ?_ | refine E4 ?_ | refine E5 (by decide) ?_ | refine E6 ?_ | refine E7 ?_ | refine E8 ?_ | refine E9 ?_ | refine Ea ?_ | refine Eb ?_ | refine Ec ?_ | refine Ed ?_)
  refine W_loop (fun k fr S => ∃ (tm : List AV) (i : Nat), fr = ⟨tm, [], none, 41⟩ ∧ S = St.nil ∧ k = a.length - i ∧ i ≤ a.length ∧ a.take i = b.take i ∧ tm.length = 26 ∧ tget tm 0 = .vec (ints a) ∧ tget tm 1 = .vec (ints b) ∧ tget tm 5 = .int .i64 i) a.length
    ⟨_, 0, rfl, rfl, rfl, Nat.zero_le _, by simp, ?_⟩ ?_
  · simp only [KA, KP, KQ, simprocAttr, KT w, KI, hw.KF, Int.ofNat_zero]
  rintro k fr S ⟨tm, i, rfl, rfl, rfl, hi, hp, htm, h0, h1, h5⟩
  repeat with_reducible (first | refine E0 ?_ | refine E1 ?_ | refine E2 ?_ | refine E3 ?_ | refine E4 ?_ | refine E5 (by decide) ?_ | refine E6 ?_ | refine E7 ?_ | refine E8 ?_ | refine E9 ?_ | refine Ea ?_ | refine Eb ?_ | refine Ec ?_ | refine Ed ?_)
  refine W_region fun K hK => ?_
  simp only [KA, KB, KP, KQ, KM, simprocAttr, KT w, KI, hw.KF, htm, h0, h5]
  refine hK _ _ ?_
  clear hK
  clear K
  repeat with_reducible (first | refine E0 ?_ | refine E1 ?_ | refine E2 ?_ | refine E3 ?_ | refine E4 ?_ | refine E5 (by decide) ?_ | refine E6 ?_ | refine E7 ?_ | refine E8 ?_ | refine E9 ?_ | refine Ea ?_ | refine Eb ?_ | refine Ec ?_ | refine Ed ?_)
  refine W_condP (p := _) (by simp only [KA, KP, KQ, simprocAttr, KT w, KI, hw.KF, htm]; rfl) (fun hb => ?_) (fun hb => ?_)
  · obtain ⟨x, hx⟩ := get_of_lt (l := a) (i := i) (by omega)
    obtain ⟨y, hy⟩ := get_of_lt (l := b) (i := i) (by omega)
    have e1 : IntKind.i64.wrap ((i : Int) + 1) = (i : Int) + 1 := i64_in _ (by omega)
    repeat with_reducible (first | refine E0 ?_ | refine E1 ?_ | refine E2 ?_ | refine E3 ?_ | refine E4 ?_ | refine E5 (by decide) ?_ | refine E6 ?_ | refine E7 ?_ | refine E8 ?_ | refine E9 ?_ | refine Ea ?_ | refine Eb ?_ | refine Ec ?_ | refine Ed ?_)
    refine W_regionQ (by decide +kernel) fun K hK => ?_
    simp only [KA, KB, KP, KQ, KM, simprocAttr, KT w, KI, hw.KF, htm, h0, h1, h5, hx, hy]
    refine hK _ _ ?_
    clear hK
    clear K
    repeat with_reducible (first | refine E0 ?_ | refine E1 ?_ | refine E2 ?_ | refine E3 ?_ | refine E4 ?_ | refine E5 (by decide) ?_ | refine E6 ?_ | refine E7 ?_ | refine E8 ?_ | refine E9 ?_ | refine Ea ?_ | refine Eb ?_ | refine Ec ?_ | refine Ed ?_)
    by_cases hxy : x = y
    · subst hxy
      refine W_condF (by simp only [KA, KP, KQ, simprocAttr, KT w, KI, hw.KF, htm]) ?_
      repeat with_reducible (first | refine E0 ?_ | refine E1 ?_ | refine E2 ?_ | refine E3 ?_ | refine E4 ?_ | refine E5 (by decide) ?_ | refine E6 ?_ | refine E7 ?_ | refine E8 ?_ | refine E9 ?_ | refine Ea ?_ | refine Eb ?_ | refine Ec ?_ | refine Ed ?_)
      refine W_region fun K hK => ?_
      simp only [KA, KB, KP, KQ, KM, simprocAttr, KT w, KI, hw.KF, htm, h5, e1]
      refine hK _ _ ?_
      clear hK
      clear K
      refine ⟨a.length - (i + 1), by omega, _, i + 1, rfl, rfl, rfl, by omega, ?_, ?_⟩
      · rw [List.take_add_one, List.take_add_one, hp, hx, hy]
      · simp only [KA, KP, KQ, simprocAttr, KT w, KI, hw.KF, htm, h0, h1, Int.natCast_add, A3z]
    · refine W_condT (by simp only [KA, KP, KQ, simprocAttr, KT w, KI, hw.KF, htm, hxy]) ?_
      repeat with_reducible (first | refine E0 ?_ | refine E1 ?_ | refine E2 ?_ | refine E3 ?_ | refine E4 ?_ | refine E5 (by decide) ?_ | refine E6 ?_ | refine E7 ?_ | refine E8 ?_ | refine E9 ?_ | refine Ea ?_ | refine Eb ?_ | refine Ec ?_ | refine Ed ?_)
      refine W_region fun K hK => ?_
      simp only [KA, KB, KP, KQ, KM, simprocAttr, KT w, KI, hw.KF]
      refine hK _ _ ?_
      clear hK
      clear K
      repeat with_reducible (first | refine E0 ?_ | refine E1 ?_ | refine E2 ?_ | refine E3 ?_ | refine E4 ?_ | refine E5 (by decide) ?_ | refine E6 ?_ | refine E7 ?_ | refine E8 ?_ | refine E9 ?_ | refine Ea ?_ | refine Eb ?_ | refine Ec ?_ | refine Ed ?_)
      refine AtEnd_of rfl ?_
      simp only [KA, KP, KQ, simprocAttr, KT w, KI, hw.KF, htm, RS_some, aresults_nil, aresults_tmp, aresults_cell, one]
      rw [show decide (a = b) = false by simp; rintro rfl; rw [hx] at hy; exact hxy (by simpa using hy)]
      exact FZ_bool
  · repeat with_reducible (first | refine E0 ?_ | refine E1 ?_ | refine E2 ?_ | refine E3 ?_ | refine E4 ?_ | refine E5 (by decide) ?_ | refine E6 ?_ | refine E7 ?_ | refine E8 ?_ | refine E9 ?_ | refine Ea ?_ | refine Eb ?_ | refine Ec ?_ | refine Ed ?_)
    refine W_region fun K hK => ?_
    simp only [KA, KB, KP, KQ, KM, simprocAttr, KT w, KI, hw.KF]
    refine hK _ _ ?_
    clear hK
    clear K
    repeat with_reducible (first | refine E0 ?_ | refine E1 ?_ | refine E2 ?_ | refine E3 ?_ | refine E4 ?_ | refine E5 (by decide) ?_ | refine E6 ?_ | refine E7 ?_ | refine E8 ?_ | refine E9 ?_ | refine Ea ?_ | refine Eb ?_ | refine Ec ?_ | refine Ed ?_)
    refine AtEnd_of rfl ?_
    simp only [KA, KP, KQ, simprocAttr, KT w, KI, hw.KF, htm, RS_some, aresults_nil, aresults_tmp, aresults_cell, one]
    rw [show decide (a = b) = true by
      simp only [decide_eq_true_eq]
      have h1 : a.take i = a := List.take_of_length_le (by omega)
      have h2 : b.take i = b := List.take_of_length_le (by omega)
      rw [h1, h2] at hp
      exact hp]
    exact FZ_bool

theorem same20_step (hw : Std w) (n : Node) (hkl : n.kids.length ≤ 1600000000000) (ih : ∀ x ∈ n.kids, PC (cfg w) 20 [x.av, x.av] (.bool true)) : PC (cfg w) 20 [n.av, n.av] (.bool true) := by
  refine PC_of (args' := [n.av, n.av]) hw.e20 hw.m20 (by simp [nrmA, nrm, Node.nrm_all]) ?_
  refine call_of_W (fn20 w) rfl ?_
  simp only [Tryd.f20, List.length_cons, List.length_nil, ↓reduceIte, Int.reduceLT, Int.reduceLE, Int.reduceAdd, Int.reduceSub, Int.reduceNeg, Int.reduceMul, Int.reduceToNat, Int.reduceEq, Int.reduceNe, Int.reduceGT, Int.reduceGE, Nat.reducePow, IntKind.bits, Nat.reduceAdd, Nat.reduceSub, List.cons_append, List.nil_append]
  repeat with_reducible (first | refine E0 ?_ | refine E1 ?_ | refine E2 ?_ | refine E3 ?_ | refine E4 ?_ | refine E5 (by decide) ?_ | refine E6 ?_ | refine E7 ?_ | refine E8 ?_ | refine E9 ?_ | refine Ea ?_ | refine Eb ?_ | refine Ec ?_ | refine Ed ?_)
  refine W_region fun K hK => ?_
  simp only [KA, KB, KP, KQ, KM, simprocAttr, KT w, KI, hw.KF]
  refine hK _ _ ?_
  clear hK
  clear K
  repeat with_reducible (first | refine E0 ?_ | refine E1 ?_ | refine E2 ?_ | refine E3 ?_ | refine E4 ?_ | refine E5 (by decide) ?_ | refine E6 ?_ | refine E7 ?_ | refine E8 ?_ | refine E9 ?_ | refine Ea ?_ | refine Eb ?_ | refine Ec ?_ | refine Ed ?_)
  refine W_region fun K hK => ?_
  simp only [KA, KB, KP, KQ, KM, simprocAttr, KT w, KI, hw.KF]
  refine hK _ _ ?_
  clear hK
  clear K
  repeat with_reducible (first | refine E0 ?_ | refine E1 ?_ | refine E2 ?_ | refine E3 ?_ | refine E4 ?_ | refine E5 (by decide) ?_ | refine E6 ?_ | refine E7 ?_ | refine E8 ?_ | refine E9 ?_ | refine Ea ?_ | refine Eb ?_ | refine Ec ?_ | refine Ed ?_)
  refine W_condF (by simp only [KA, KP, KQ, simprocAttr, KT w, KI, hw.KF]) ?_
  repeat with_reducible (first | refine E0 ?_ | refine E1 ?_ | refine E2 ?_ | refine E3 ?_ | refine E4 ?_ | refine E5 (by decide) ?_ | refine E6 ?_ | refine E7 ?_ | refine E8 ?_ | refine E9 ?_ | refine Ea ?_ | refine Eb ?_ | refine Ec ?_ | refine Ed ?_)
  refine W_region fun K hK => ?_
  simp only [KA, KB, KP, KQ, KM, simprocAttr, KT w, KI, hw.KF]
  refine hK _ _ ?_
  clear hK
  clear K
  repeat with_reducible (first | refine E0 ?_ | refine E1 ?_ | refine E2 ?_ | refine E3 ?_ | refine E4 ?_ | refine E5 (by decide) ?_ | refine E6 ?_ | refine E7 ?_ | refine E8 ?_ | refine E9 ?_ | refine Ea ?_ | refine Eb ?_ | refine Ec ?_ | refine Ed ?_)
  refine W_loop (fun k fr S => ∃ (tm : List AV) (i : Nat), fr = ⟨tm, [], none, 20⟩ ∧ S = (St.nil.push (.row n.cells false)).push (.row n.cells false) ∧ k = n.kids.length - i ∧ i ≤ n.kids.length ∧
     tm.length = 74 ∧ tget tm 2 = .ptr 0 0 ∧ tget tm 3 = .ptr 1 0 ∧ tget tm 5 = .int .i64 i) n.kids.length
    ⟨_, 0, rfl, rfl, rfl, Nat.zero_le _, ?_⟩ ?_
  · simp only [KA, KP, KQ, simprocAttr, KT w, KI, hw.KF, Int.ofNat_zero]
  rintro k fr S ⟨tm, i, rfl, rfl, rfl, hi, htm, h2, h3, h5⟩
  repeat with_reducible (first | refine E0 ?_ | refine E1 ?_ | refine E2 ?_ | refine E3 ?_ | refine E4 ?_ | refine E5 (by decide) ?_ | refine E6 ?_ | refine E7 ?_ | refine E8 ?_ | refine E9 ?_ | refine Ea ?_ | refine Eb ?_ | refine Ec ?_ | refine Ed ?_)
  refine W_region fun K hK => ?_
  simp only [KA, KB, KP, KQ, KM, simprocAttr, KT w, KI, hw.KF, htm, h2, h5]
  refine hK _ _ ?_
  clear hK
  clear K
  repeat with_reducible (first | refine E0 ?_ | refine E1 ?_ | refine E2 ?_ | refine E3 ?_ | refine E4 ?_ | refine E5 (by decide) ?_ | refine E6 ?_ | refine E7 ?_ | refine E8 ?_ | refine E9 ?_ | refine Ea ?_ | refine Eb ?_ | refine Ec ?_ | refine Ed ?_)
  refine W_condP (p := _) (by simp only [KA, KP, KQ, simprocAttr, KT w, KI, hw.KF, htm]; rfl) (fun hb => ?_) (fun hb => ?_)
  · obtain ⟨x, hx⟩ := get_of_lt (l := n.kids) (i := i) (by omega)
    have hxm := List.mem_of_getElem? hx
    have e1 : IntKind.i64.wrap ((i : Int) + 1) = (i : Int) + 1 := i64_in _ (by omega)
    have hrec := ih x hxm
    repeat with_reducible (first | refine E0 ?_ | refine E1 ?_ | refine E2 ?_ | refine E3 ?_ | refine E4 ?_ | refine E5 (by decide) ?_ | refine E6 ?_ | refine E7 ?_ | refine E8 ?_ | refine E9 ?_ | refine Ea ?_ | refine Eb ?_ | refine Ec ?_ | refine Ed ?_)
    refine W_regionQ (by decide +kernel) fun K hK => ?_
    simp only [KA, KB, KP, KQ, KM, simprocAttr, KT w, KI, hw.KF, htm, h2, h3, h5, hx, hrec]
    refine hK _ _ ?_
    clear hK
    clear K
    repeat with_reducible (first | refine E0 ?_ | refine E1 ?_ | refine E2 ?_ | refine E3 ?_ | refine E4 ?_ | refine E5 (by decide) ?_ | refine E6 ?_ | refine E7 ?_ | refine E8 ?_ | refine E9 ?_ | refine Ea ?_ | refine Eb ?_ | refine Ec ?_ | refine Ed ?_)
    refine W_condF (by simp only [KA, KP, KQ, simprocAttr, KT w, KI, hw.KF, htm]) ?_
    repeat with_reducible (first | refine E0 ?_ | refine E1 ?_ | refine E2 ?_ | refine E3 ?_ | refine E4 ?_ | refine E5 (by decide) ?_ | refine E6 ?_ | refine E7 ?_ | refine E8 ?_ | refine E9 ?_ | refine Ea ?_ | refine Eb ?_ | refine Ec ?_ | refine Ed ?_)
    refine W_region fun K hK => ?_
    simp only [KA, KB, KP, KQ, KM, simprocAttr, KT w, KI, hw.KF, htm, h5, e1]
    refine hK _ _ ?_
    clear hK
    clear K
    refine ⟨n.kids.length - (i + 1), by omega, _, i + 1, rfl, rfl, rfl, by omega, ?_⟩
    simp only [KA, KP, KQ, simprocAttr, KT w, KI, hw.KF, htm, h2, h3, Int.natCast_add, A3z]
  · repeat with_reducible (first | refine E0 ?_ | refine E1 ?_ | refine E2 ?_ | refine E3 ?_ | refine E4 ?_ | refine E5 (by decide) ?_ | refine E6 ?_ | refine E7 ?_ | refine E8 ?_ | refine E9 ?_ | refine Ea ?_ | refine Eb ?_ | refine Ec ?_ | refine Ed ?_)
    refine W_region fun K hK => ?_
    simp only [KA, KB, KP, KQ, KM, simprocAttr, KT w, KI, hw.KF]
    refine hK _ _ ?_
    clear hK
    clear K
    repeat with_reducible (first | refine E0 ?_ | refine E1 ?_ | refine E2 ?_ | refine E3 ?_ | refine E4 ?_ | refine E5 (by decide) ?_ | refine E6 ?_ | refine E7 ?_ | refine E8 ?_ | refine E9 ?_ | refine Ea ?_ | refine Eb ?_ | refine Ec ?_ | refine Ed ?_)
    refine AtEnd_of rfl ?_
    simp only [KA, KP, KQ, simprocAttr, KT w, KI, hw.KF, htm, RS_some, aresults_nil, aresults_tmp, aresults_cell, one]
    exact FZ_bool
theorem same20 (hw : Std w) (n : Node) : n.ok → PC (cfg w) 20 [n.av, n.av] (.bool true) := by
  induction n using Node.ind with
  | h n ih =>
  intro hn
  exact same20_step hw n (Node.ok_kids hn) fun x hx => ih x hx (Node.ok_kid hn x hx)

/-- A slot's node. -/
def Fs.nd (f : Fs) : Node := .mk f.kind f.named f.field f.frm f.to f.bad []
theorem ints_ks (l : List Nat) : ints (l.map fun k : Nat => (k : Int)) = ks l := by simp [ints, ks]
theorem ints_rs (l : List (Option Nat)) : ints (l.map optI) = rs l := by simp [ints, rs]

theorem holds42 (hw : Std w) (s : Sl) (hl : s.kids.length ≤ 1000000000000) : PC (cfg w) 42 [.agg (slCan s), .agg (slCan s)] (.bool true) := by
  have h1 := same20_step hw s.fs.nd (by simp [Fs.nd, Node.kids]) (by simp [Fs.nd, Node.kids])
  have h2 := ints41 hw (s.kids.map fun k : Nat => (k : Int)) (s.kids.map fun k : Nat => (k : Int)) (by simp; omega) (by simp; omega)
  rw [ints_ks] at h2
  simp only [decide_true] at h2
  refine PC_of (args' := [.agg (slC s (.vec []) (.vec (ks s.kids))), .agg (slC s (.vec []) (.vec (ks s.kids)))]) hw.e42 hw.m42 (by simp [nrmA, nrm, slCan, slC, nrmL, nrmR, nrmR_ks]) ?_
  unfold slC
  unfold Fs.nd at h1
  simp only [Node.av, Node.cells_eq, Node.kind, Node.named, Node.field, Node.frm, Node.to, Node.bad, Node.kids, Node.rows, Node.cellsL] at h1
  refine call_of_W (fn42 w) rfl ?_
  simp only [Tryd.f42, List.length_cons, List.length_nil, ↓reduceIte, Int.reduceLT, Int.reduceLE, Int.reduceAdd, Int.reduceSub, Int.reduceNeg, Int.reduceMul, Int.reduceToNat, Int.reduceEq, Int.reduceNe, Int.reduceGT, Int.reduceGE, Nat.reducePow, IntKind.bits, Nat.reduceAdd, Nat.reduceSub, List.cons_append, List.nil_append]
  repeat with_reducible (first | refine E0 ?_ | refine E1 ?_ | refine E2 ?_ | refine E3 ?_ | refine E4 ?_ | refine E5 (by decide) ?_ | refine E6 ?_ | refine E7 ?_ | refine E8 ?_ | refine E9 ?_ | refine Ea ?_ | refine Eb ?_ | refine Ec ?_ | refine Ed ?_)
  refine W_region fun K hK => ?_
  simp only [KA, KB, KP, KQ, KM, simprocAttr, KT w, KI, hw.KF]
  refine hK _ _ ?_
  clear hK
  clear K
  repeat with_reducible (first | refine E0 ?_ | refine E1 ?_ | refine E2 ?_ | refine E3 ?_ | refine E4 ?_ | refine E5 (by decide) ?_ | refine E6 ?_ | refine E7 ?_ | refine E8 ?_ | refine E9 ?_ | refine Ea ?_ | refine Eb ?_ | refine Ec ?_ | refine Ed ?_)
  refine W_region fun K hK => ?_
  simp only [KA, KB, KP, KQ, KM, simprocAttr, KT w, KI, hw.KF, h1, h2]
  refine hK _ _ ?_
  clear hK
  clear K
  repeat with_reducible (first | refine E0 ?_ | refine E1 ?_ | refine E2 ?_ | refine E3 ?_ | refine E4 ?_ | refine E5 (by decide) ?_ | refine E6 ?_ | refine E7 ?_ | refine E8 ?_ | refine E9 ?_ | refine Ea ?_ | refine Eb ?_ | refine Ec ?_ | refine Ed ?_)
  refine AtEnd_of rfl ?_
  simp only [KA, KP, KQ, simprocAttr, KT w, KI, hw.KF, RS_some, aresults_nil, aresults_tmp, aresults_cell, one]
  exact FZ_bool

theorem same16 (hw : Std w) (A : Ar) (hl : A.slots.length ≤ 1000000000) (hr : A.roots.length ≤ 1000000000) (hk : ∀ s ∈ A.slots, s.kids.length ≤ 1000000000000) : PC (cfg w) 16 [arV A, arV A] (.bool true) := by
  refine PC_of (args' := [arV A, arV A]) hw.e16 hw.m16 (by simp [nrmA, nrm_arV]) ?_
  have h2 := ints41 hw (A.roots.map optI) (A.roots.map optI) (by simp; omega) (by simp; omega)
  rw [ints_rs] at h2
  simp only [decide_true] at h2
  obtain ⟨SL, FR, RT⟩ := A
  simp only at hl hr hk h2 ⊢
  have hlen : (SL.map slCan).length = SL.length := List.length_map _
  unfold arV arC
  simp only
  generalize rs RT = RR at *
  generalize optI FR = FF at *
  refine call_of_W (fn16 w) rfl ?_
  simp only [Tryd.f16, List.length_cons, List.length_nil, ↓reduceIte, Int.reduceLT, Int.reduceLE, Int.reduceAdd, Int.reduceSub, Int.reduceNeg, Int.reduceMul, Int.reduceToNat, Int.reduceEq, Int.reduceNe, Int.reduceGT, Int.reduceGE, Nat.reducePow, IntKind.bits, Nat.reduceAdd, Nat.reduceSub, List.cons_append, List.nil_append]
  repeat with_reducible (first | refine E0 ?_ | refine E1 ?_ | refine E2 ?_ | refine E3 ?_ | refine E4 ?_ | refine E5 (by decide) ?_ | refine E6 ?_ | refine E7 ?_ | refine E8 ?_ | refine E9 ?_ | refine Ea ?_ | refine Eb ?_ | refine Ec ?_ | refine Ed ?_)
  refine W_region fun K hK => ?_
  simp only [KA, KB, KP, KQ, KM, simprocAttr, KT w, KI, hw.KF]
  refine hK _ _ ?_
  clear hK
  clear K
  repeat with_reducible (first | refine E0 ?_ | refine E1 ?_ | refine E2 ?_ | refine E3 ?_ | refine E4 ?_ | refine E5 (by decide) ?_ | refine E6 ?_ | refine E7 ?_ | refine E8 ?_ | refine E9 ?_ | refine Ea ?_ | refine Eb ?_ | refine Ec ?_ | refine Ed ?_)
  refine W_region fun K hK => ?_
  simp only [KA, KB, KP, KQ, KM, simprocAttr, KT w, KI, hw.KF, hlen, h2]
  refine hK _ _ ?_
  clear hK
  clear K
  repeat with_reducible (first | refine E0 ?_ | refine E1 ?_ | refine E2 ?_ | refine E3 ?_ | refine E4 ?_ | refine E5 (by decide) ?_ | refine E6 ?_ | refine E7 ?_ | refine E8 ?_ | refine E9 ?_ | refine Ea ?_ | refine Eb ?_ | refine Ec ?_ | refine Ed ?_)
  refine W_condF (by simp only [KA, KP, KQ, simprocAttr, KT w, KI, hw.KF]) ?_
  repeat with_reducible (first | refine E0 ?_ | refine E1 ?_ | refine E2 ?_ | refine E3 ?_ | refine E4 ?_ | refine E5 (by decide) ?_ | refine E6 ?_ | refine E7 ?_ | refine E8 ?_ | refine E9 ?_ | refine Ea ?_ | refine Eb ?_ | refine Ec ?_ | refine Ed ?_)
  refine W_region fun K hK => ?_
  simp only [KA, KB, KP, KQ, KM, simprocAttr, KT w, KI, hw.KF]
  refine hK _ _ ?_
  clear hK
  clear K
  repeat with_reducible (first | refine E0 ?_ | refine E1 ?_ | refine E2 ?_ | refine E3 ?_ | refine E4 ?_ | refine E5 (by decide) ?_ | refine E6 ?_ | refine E7 ?_ | refine E8 ?_ | refine E9 ?_ | refine Ea ?_ | refine Eb ?_ | refine Ec ?_ | refine Ed ?_)
  refine W_loop (fun k fr S => ∃ (tm : List AV) (i : Nat), fr = ⟨tm, [], none, 16⟩ ∧ S = (St.nil.push (.row [.vec (SL.map slCan), .int .i64 FF, .vec RR] false)).push (.row [.vec (SL.map slCan), .int .i64 FF, .vec RR] false) ∧ k = SL.length - i ∧ i ≤ SL.length ∧
     tm.length = 77 ∧ tget tm 2 = .ptr 0 0 ∧ tget tm 3 = .ptr 1 0 ∧ tget tm 5 = .int .i64 i) SL.length
    ⟨_, 0, rfl, rfl, rfl, Nat.zero_le _, ?_⟩ ?_
  · simp only [KA, KP, KQ, simprocAttr, KT w, KI, hw.KF, Int.ofNat_zero]
  rintro k fr S ⟨tm, i, rfl, rfl, rfl, hi, htm, h2, h3, h5⟩
  repeat with_reducible (first | refine E0 ?_ | refine E1 ?_ | refine E2 ?_ | refine E3 ?_ | refine E4 ?_ | refine E5 (by decide) ?_ | refine E6 ?_ | refine E7 ?_ | refine E8 ?_ | refine E9 ?_ | refine Ea ?_ | refine Eb ?_ | refine Ec ?_ | refine Ed ?_)
  refine W_region fun K hK => ?_
  simp only [KA, KB, KP, KQ, KM, simprocAttr, KT w, KI, hw.KF, htm, h2, h5, hlen]
  refine hK _ _ ?_
  clear hK
  clear K
  repeat with_reducible (first | refine E0 ?_ | refine E1 ?_ | refine E2 ?_ | refine E3 ?_ | refine E4 ?_ | refine E5 (by decide) ?_ | refine E6 ?_ | refine E7 ?_ | refine E8 ?_ | refine E9 ?_ | refine Ea ?_ | refine Eb ?_ | refine Ec ?_ | refine Ed ?_)
  refine W_condP (p := _) (by simp only [KA, KP, KQ, simprocAttr, KT w, KI, hw.KF, htm]; rfl) (fun hb => ?_) (fun hb => ?_)
  · obtain ⟨s, hs⟩ := get_of_lt (l := SL) (i := i) (by omega)
    have hrow : (SL.map slCan)[i]? = some (slCan s) := by rw [List.getElem?_map, hs]; rfl
    have e1 : IntKind.i64.wrap ((i : Int) + 1) = (i : Int) + 1 := i64_in _ (by omega)
    have hrec := holds42 hw s (hk s (List.mem_of_getElem? hs))
    have hnr := (SlRow.can s).nrm.1
    simp only [slCan, slC] at hrow hrec hnr
    repeat with_reducible (first | refine E0 ?_ | refine E1 ?_ | refine E2 ?_ | refine E3 ?_ | refine E4 ?_ | refine E5 (by decide) ?_ | refine E6 ?_ | refine E7 ?_ | refine E8 ?_ | refine E9 ?_ | refine Ea ?_ | refine Eb ?_ | refine Ec ?_ | refine Ed ?_)
    refine W_regionD [[], [0], [], [1, 0, 2], [3, 1, 0, 2], [], [5], [], [6, 5, 7], [8, 6, 5, 7], [4, 3, 1, 0, 2, 9, 8, 6, 5, 7], [10, 4, 3, 1, 0, 2, 9, 8, 6, 5, 7], [11, 10, 4, 3, 1, 0, 2, 9, 8, 6, 5, 7], [12, 11, 10, 4, 3, 1, 0, 2, 9, 8, 6, 5, 7], [13, 12, 11, 10, 4, 3, 1, 0, 2, 9, 8, 6, 5, 7], [12, 11, 10, 4, 3, 1, 0, 2, 9, 8, 6, 5, 7], [14, 13, 12, 11, 10, 4, 3, 1, 0, 2, 9, 8, 6, 5, 7, 15], [16, 14, 13, 12, 11, 10, 4, 3, 1, 0, 2, 9, 8, 6, 5, 7, 15], [17, 16, 14, 13, 12, 11, 10, 4, 3, 1, 0, 2, 9, 8, 6, 5, 7, 15], [12, 11, 10, 4, 3, 1, 0, 2, 9, 8, 6, 5, 7], [19, 12, 11, 10, 4, 3, 1, 0, 2, 9, 8, 6, 5, 7], [12, 11, 10, 4, 3, 1, 0, 2, 9, 8, 6, 5, 7], [20, 19, 12, 11, 10, 4, 3, 1, 0, 2, 9, 8, 6, 5, 7, 21], [22, 20, 19, 12, 11, 10, 4, 3, 1, 0, 2, 9, 8, 6, 5, 7, 21], [23, 22, 20, 19, 12, 11, 10, 4, 3, 1, 0, 2, 9, 8, 6, 5, 7, 21], [18, 17, 16, 14, 13, 12, 11, 10, 4, 3, 1, 0, 2, 9, 8, 6, 5, 7, 15, 24, 23, 22, 20, 19, 21], [12, 11, 10, 4, 3, 1, 0, 2, 9, 8, 6, 5, 7, 25, 18, 17, 16, 14, 13, 15, 24, 23, 22, 20, 19, 21], [26, 12, 11, 10, 4, 3, 1, 0, 2, 9, 8, 6, 5, 7, 25, 18, 17, 16, 14, 13, 15, 24, 23, 22, 20, 19, 21], [27, 26, 12, 11, 10, 4, 3, 1, 0, 2, 9, 8, 6, 5, 7, 25, 18, 17, 16, 14, 13, 15, 24, 23, 22, 20, 19, 21], [28, 27, 26, 12, 11, 10, 4, 3, 1, 0, 2, 9, 8, 6, 5, 7, 25, 18, 17, 16, 14, 13, 15, 24, 23, 22, 20, 19, 21], [27, 26, 12, 11, 10, 4, 3, 1, 0, 2, 9, 8, 6, 5, 7, 25, 18, 17, 16, 14, 13, 15, 24, 23, 22, 20, 19, 21], [29, 28, 27, 26, 12, 11, 10, 4, 3, 1, 0, 2, 9, 8, 6, 5, 7, 25, 18, 17, 16, 14, 13, 15, 24, 23, 22, 20, 19, 21, 30], [31, 29, 28, 27, 26, 12, 11, 10, 4, 3, 1, 0, 2, 9, 8, 6, 5, 7, 25, 18, 17, 16, 14, 13, 15, 24, 23, 22, 20, 19, 21, 30], [32, 31, 29, 28, 27, 26, 12, 11, 10, 4, 3, 1, 0, 2, 9, 8, 6, 5, 7, 25, 18, 17, 16, 14, 13, 15, 24, 23, 22, 20, 19, 21, 30], [27, 26, 12, 11, 10, 4, 3, 1, 0, 2, 9, 8, 6, 5, 7, 25, 18, 17, 16, 14, 13, 15, 24, 23, 22, 20, 19, 21], [34, 27, 26, 12, 11, 10, 4, 3, 1, 0, 2, 9, 8, 6, 5, 7, 25, 18, 17, 16, 14, 13, 15, 24, 23, 22, 20, 19, 21], [27, 26, 12, 11, 10, 4, 3, 1, 0, 2, 9, 8, 6, 5, 7, 25, 18, 17, 16, 14, 13, 15, 24, 23, 22, 20, 19, 21], [35, 34, 27, 26, 12, 11, 10, 4, 3, 1, 0, 2, 9, 8, 6, 5, 7, 25, 18, 17, 16, 14, 13, 15, 24, 23, 22, 20, 19, 21, 36], [37, 35, 34, 27, 26, 12, 11, 10, 4, 3, 1, 0, 2, 9, 8, 6, 5, 7, 25, 18, 17, 16, 14, 13, 15, 24, 23, 22, 20, 19, 21, 36], [38, 37, 35, 34, 27, 26, 12, 11, 10, 4, 3, 1, 0, 2, 9, 8, 6, 5, 7, 25, 18, 17, 16, 14, 13, 15, 24, 23, 22, 20, 19, 21, 36], [33, 32, 31, 29, 28, 27, 26, 12, 11, 10, 4, 3, 1, 0, 2, 9, 8, 6, 5, 7, 25, 18, 17, 16, 14, 13, 15, 24, 23, 22, 20, 19, 21, 30, 39, 38, 37, 35, 34, 36], [27, 26, 12, 11, 10, 4, 3, 1, 0, 2, 9, 8, 6, 5, 7, 25, 18, 17, 16, 14, 13, 15, 24, 23, 22, 20, 19, 21, 40, 33, 32, 31, 29, 28, 30, 39, 38, 37, 35, 34, 36]] (by decide +kernel) (by decide +kernel) (by decide +kernel) fun K hK => ?_
    simp only [KA, KB, KP, KQ, KM, simprocAttr, KT w, KI, hw.KF, A58, A59, A5a, A5b, A5c, A5d, A5e, A5f, A5g, A5h, KX, Foot.big, A5i, opP, rfoot, refsO, refs, wfoot, A5j, A5k, noisyOk, pairOk, Foot.isQuiet, Foot.apart, Ft.apart, Foot.none, A5l, A5m, A48, A49, A5n, A5o, A5p, A5q, Nat.reduceBEq, htm, h2, h3, h5, hrow, hrec, hnr]
    refine hK _ _ ?_
    clear hK
    clear K
    repeat with_reducible (first | refine E0 ?_ | refine E1 ?_ | refine E2 ?_ | refine E3 ?_ | refine E4 ?_ | refine E5 (by decide) ?_ | refine E6 ?_ | refine E7 ?_ | refine E8 ?_ | refine E9 ?_ | refine Ea ?_ | refine Eb ?_ | refine Ec ?_ | refine Ed ?_)
    refine W_condF (by simp only [KA, KP, KQ, simprocAttr, KT w, KI, hw.KF, htm]) ?_
    repeat with_reducible (first | refine E0 ?_ | refine E1 ?_ | refine E2 ?_ | refine E3 ?_ | refine E4 ?_ | refine E5 (by decide) ?_ | refine E6 ?_ | refine E7 ?_ | refine E8 ?_ | refine E9 ?_ | refine Ea ?_ | refine Eb ?_ | refine Ec ?_ | refine Ed ?_)
    refine W_region fun K hK => ?_
    simp only [KA, KB, KP, KQ, KM, simprocAttr, KT w, KI, hw.KF, htm, h5, e1]
    refine hK _ _ ?_
    clear hK
    clear K
    refine ⟨SL.length - (i + 1), by omega, _, i + 1, rfl, rfl, rfl, by omega, ?_⟩
    simp only [KA, KP, KQ, simprocAttr, KT w, KI, hw.KF, htm, h2, h3, Int.natCast_add, A3z]
  · repeat with_reducible (first | refine E0 ?_ | refine E1 ?_ | refine E2 ?_ | refine E3 ?_ | refine E4 ?_ | refine E5 (by decide) ?_ | refine E6 ?_ | refine E7 ?_ | refine E8 ?_ | refine E9 ?_ | refine Ea ?_ | refine Eb ?_ | refine Ec ?_ | refine Ed ?_)
    refine W_region fun K hK => ?_
    simp only [KA, KB, KP, KQ, KM, simprocAttr, KT w, KI, hw.KF]
    refine hK _ _ ?_
    clear hK
    clear K
    repeat with_reducible (first | refine E0 ?_ | refine E1 ?_ | refine E2 ?_ | refine E3 ?_ | refine E4 ?_ | refine E5 (by decide) ?_ | refine E6 ?_ | refine E7 ?_ | refine E8 ?_ | refine E9 ?_ | refine Ea ?_ | refine Eb ?_ | refine Ec ?_ | refine Ed ?_)
    refine AtEnd_of rfl ?_
    simp only [KA, KP, KQ, simprocAttr, KT w, KI, hw.KF, htm, RS_some, aresults_nil, aresults_tmp, aresults_cell, one]
    exact FZ_bool
end Go.Am.R
