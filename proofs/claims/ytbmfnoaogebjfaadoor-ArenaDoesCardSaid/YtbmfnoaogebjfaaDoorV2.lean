/- THE REFERENCE'S Same ON LEAVES AND SLOTS, ints, holds. -/
import Derived.Test.YtbmfnoaogebjfaaDoorV0
set_option linter.unusedSimpArgs false
set_option linter.unusedVariables false
set_option maxRecDepth 20000
namespace Go.Am.R
open Go.Proofs Go.IntWalk Classical

variable {w : Ways}

theorem ints41 (hw : Std w) (a b : List Int) (ha : a.length ≤ 35184372088832) (hb : b.length ≤ 35184372088832) : PC (cfg w) 41 [.vec (ints a), .vec (ints b)] (.bool (decide (a = b))) := by
  refine PC_of (args' := [.vec (ints a), .vec (ints b)]) hw.e41 hw.m41 (by simp [nrmA, nrm, nrmR_ints]) ?_
  refine call_of_W (fn41 w) rfl ?_
  simp only [Tryd.f41, List.length_cons, List.length_nil, Nat.reduceAdd, Nat.reduceSub, List.cons_append, List.nil_append]
  repeat with_reducible (first | apply E0 | apply E1 | apply E2 | apply E3 | apply E4 | refine E5 (by decide) ?_ | apply E6 | apply E7 | apply E8 | apply E9 | apply Ea | apply Eb | apply Ec | apply Ed)
  refine W_region fun K hK => ?_
  simp only [KA, KB, KP, KQ, KM, simprocAttr, KT w, KI, hw.KF]
  refine hK _ _ ?_
  clear hK
  clear K
  repeat with_reducible (first | apply E0 | apply E1 | apply E2 | apply E3 | apply E4 | refine E5 (by decide) ?_ | apply E6 | apply E7 | apply E8 | apply E9 | apply Ea | apply Eb | apply Ec | apply Ed)
  refine W_region fun K hK => ?_
  simp only [KA, KB, KP, KQ, KM, simprocAttr, KT w, KI, hw.KF]
  refine hK _ _ ?_
  clear hK
  clear K
  repeat with_reducible (first | apply E0 | apply E1 | apply E2 | apply E3 | apply E4 | refine E5 (by decide) ?_ | apply E6 | apply E7 | apply E8 | apply E9 | apply Ea | apply Eb | apply Ec | apply Ed)
  by_cases hab : ¬ (a.length : Int) = b.length
  · refine W_condT (by simp only [KA, KP, KQ, simprocAttr, KT w, KI, hw.KF, hab]) ?_
    repeat with_reducible (first | apply E0 | apply E1 | apply E2 | apply E3 | apply E4 | refine E5 (by decide) ?_ | apply E6 | apply E7 | apply E8 | apply E9 | apply Ea | apply Eb | apply Ec | apply Ed)
    refine W_region fun K hK => ?_
    simp only [KA, KB, KP, KQ, KM, simprocAttr, KT w, KI, hw.KF]
    refine hK _ _ ?_
    clear hK
    clear K
    repeat with_reducible (first | apply E0 | apply E1 | apply E2 | apply E3 | apply E4 | refine E5 (by decide) ?_ | apply E6 | apply E7 | apply E8 | apply E9 | apply Ea | apply Eb | apply Ec | apply Ed)
    refine AtEnd_of rfl ?_
    simp only [KA, KP, KQ, simprocAttr, KT w, KI, hw.KF, RS_some, aresults_nil, aresults_tmp, aresults_cell, one]
    rw [show decide (a = b) = false by simp; rintro rfl; exact hab rfl]
    exact FZ_bool
  rw [Decidable.not_not] at hab
  refine W_condF (by simp only [KA, KP, KQ, simprocAttr, KT w, KI, hw.KF, hab]) ?_
  repeat with_reducible (first | apply E0 | apply E1 | apply E2 | apply E3 | apply E4 | refine E5 (by decide) ?_ | apply E6 | apply E7 | apply E8 | apply E9 | apply Ea | apply Eb | apply Ec | apply Ed)
  refine W_region fun K hK => ?_
  simp only [KA, KB, KP, KQ, KM, simprocAttr, KT w, KI, hw.KF]
  refine hK _ _ ?_
  clear hK
  clear K
  repeat with_reducible (first | apply E0 | apply E1 | apply E2 | apply E3 | apply E4 | refine E5 (by decide) ?_ | apply E6 | apply E7 | apply E8 | apply E9 | apply Ea | apply Eb | apply Ec | apply Ed)
  refine W_loop (fun k fr S => ∃ (tm : List AV) (i : Nat), fr = ⟨tm, [], none, 41⟩ ∧ S = St.nil ∧ k = a.length - i ∧ i ≤ a.length ∧ a.take i = b.take i ∧ tm.length = 26 ∧ tget tm 0 = .vec (ints a) ∧ tget tm 1 = .vec (ints b) ∧ tget tm 5 = .int .i64 i) a.length
    ⟨_, 0, rfl, rfl, rfl, Nat.zero_le _, by simp, ?_⟩ ?_
  · simp only [KA, KP, KQ, simprocAttr, KT w, KI, hw.KF, Int.ofNat_zero]
  rintro k fr S ⟨tm, i, rfl, rfl, rfl, hi, hp, htm, h0, h1, h5⟩
  repeat with_reducible (first | apply E0 | apply E1 | apply E2 | apply E3 | apply E4 | refine E5 (by decide) ?_ | apply E6 | apply E7 | apply E8 | apply E9 | apply Ea | apply Eb | apply Ec | apply Ed)
  refine W_region fun K hK => ?_
  simp only [KA, KB, KP, KQ, KM, simprocAttr, KT w, KI, hw.KF, htm, h0, h5]
  refine hK _ _ ?_
  clear hK
  clear K
  repeat with_reducible (first | apply E0 | apply E1 | apply E2 | apply E3 | apply E4 | refine E5 (by decide) ?_ | apply E6 | apply E7 | apply E8 | apply E9 | apply Ea | apply Eb | apply Ec | apply Ed)
  refine W_condP (p := _) (by simp only [KA, KP, KQ, simprocAttr, KT w, KI, hw.KF, htm]; rfl) (fun hb => ?_) (fun hb => ?_)
  · obtain ⟨x, hx⟩ := get_of_lt (l := a) (i := i) (by omega)
    obtain ⟨y, hy⟩ := get_of_lt (l := b) (i := i) (by omega)
    have e1 : IntKind.i64.wrap ((i : Int) + 1) = (i : Int) + 1 := i64_in _ (by omega)
    repeat with_reducible (first | apply E0 | apply E1 | apply E2 | apply E3 | apply E4 | refine E5 (by decide) ?_ | apply E6 | apply E7 | apply E8 | apply E9 | apply Ea | apply Eb | apply Ec | apply Ed)
    refine W_regionQ (by decide +kernel) fun K hK => ?_
    simp only [KA, KB, KP, KQ, KM, simprocAttr, KT w, KI, hw.KF, htm, h0, h1, h5, hx, hy]
    refine hK _ _ ?_
    clear hK
    clear K
    repeat with_reducible (first | apply E0 | apply E1 | apply E2 | apply E3 | apply E4 | refine E5 (by decide) ?_ | apply E6 | apply E7 | apply E8 | apply E9 | apply Ea | apply Eb | apply Ec | apply Ed)
    by_cases hxy : x = y
    · subst hxy
      refine W_condF (by simp only [KA, KP, KQ, simprocAttr, KT w, KI, hw.KF, htm]) ?_
      repeat with_reducible (first | apply E0 | apply E1 | apply E2 | apply E3 | apply E4 | refine E5 (by decide) ?_ | apply E6 | apply E7 | apply E8 | apply E9 | apply Ea | apply Eb | apply Ec | apply Ed)
      refine W_region fun K hK => ?_
      simp only [KA, KB, KP, KQ, KM, simprocAttr, KT w, KI, hw.KF, htm, h5, e1]
      refine hK _ _ ?_
      clear hK
      clear K
      refine ⟨a.length - (i + 1), by omega, _, i + 1, rfl, rfl, rfl, by omega, ?_, ?_⟩
      · rw [List.take_add_one, List.take_add_one, hp, hx, hy]
      · simp only [KA, KP, KQ, simprocAttr, KT w, KI, hw.KF, htm, h0, h1, Int.natCast_add, A3z]
    · refine W_condT (by simp only [KA, KP, KQ, simprocAttr, KT w, KI, hw.KF, htm, hxy]) ?_
      repeat with_reducible (first | apply E0 | apply E1 | apply E2 | apply E3 | apply E4 | refine E5 (by decide) ?_ | apply E6 | apply E7 | apply E8 | apply E9 | apply Ea | apply Eb | apply Ec | apply Ed)
      refine W_region fun K hK => ?_
      simp only [KA, KB, KP, KQ, KM, simprocAttr, KT w, KI, hw.KF]
      refine hK _ _ ?_
      clear hK
      clear K
      repeat with_reducible (first | apply E0 | apply E1 | apply E2 | apply E3 | apply E4 | refine E5 (by decide) ?_ | apply E6 | apply E7 | apply E8 | apply E9 | apply Ea | apply Eb | apply Ec | apply Ed)
      refine AtEnd_of rfl ?_
      simp only [KA, KP, KQ, simprocAttr, KT w, KI, hw.KF, htm, RS_some, aresults_nil, aresults_tmp, aresults_cell, one]
      rw [show decide (a = b) = false by simp; rintro rfl; rw [hx] at hy; exact hxy (by simpa using hy)]
      exact FZ_bool
  · repeat with_reducible (first | apply E0 | apply E1 | apply E2 | apply E3 | apply E4 | refine E5 (by decide) ?_ | apply E6 | apply E7 | apply E8 | apply E9 | apply Ea | apply Eb | apply Ec | apply Ed)
    refine W_region fun K hK => ?_
    simp only [KA, KB, KP, KQ, KM, simprocAttr, KT w, KI, hw.KF]
    refine hK _ _ ?_
    clear hK
    clear K
    repeat with_reducible (first | apply E0 | apply E1 | apply E2 | apply E3 | apply E4 | refine E5 (by decide) ?_ | apply E6 | apply E7 | apply E8 | apply E9 | apply Ea | apply Eb | apply Ec | apply Ed)
    refine AtEnd_of rfl ?_
    simp only [KA, KP, KQ, simprocAttr, KT w, KI, hw.KF, htm, RS_some, aresults_nil, aresults_tmp, aresults_cell, one]
    rw [show decide (a = b) = true by
      simp only [decide_eq_true_eq]
      have h1 : a.take i = a := List.take_of_length_le (by omega)
      have h2 : b.take i = b := List.take_of_length_le (by omega)
      rw [h1, h2] at hp
      exact hp]
    exact FZ_bool

theorem same20_step (hw : Std w) (n : Node) (hkl : n.kids.length ≤ 1600000000000) (ih : ∀ x ∈ n.kids, PC (cfg w) 20 [x.av, x.av] (.bool true)) : PC (cfg w) 20 [n.av, n.av] (.bool true) := by
  refine PC_of (args' := [n.av, n.av]) hw.e20 hw.m20 (by simp [nrmA, nrm, Node.nrm_all]) ?_
  refine call_of_W (fn20 w) rfl ?_
  simp only [Tryd.f20, List.length_cons, List.length_nil, Nat.reduceAdd, Nat.reduceSub, List.cons_append, List.nil_append]
  repeat with_reducible (first | apply E0 | apply E1 | apply E2 | apply E3 | apply E4 | refine E5 (by decide) ?_ | apply E6 | apply E7 | apply E8 | apply E9 | apply Ea | apply Eb | apply Ec | apply Ed)
  refine W_region fun K hK => ?_
  simp only [KA, KB, KP, KQ, KM, simprocAttr, KT w, KI, hw.KF]
  refine hK _ _ ?_
  clear hK
  clear K
  repeat with_reducible (first | apply E0 | apply E1 | apply E2 | apply E3 | apply E4 | refine E5 (by decide) ?_ | apply E6 | apply E7 | apply E8 | apply E9 | apply Ea | apply Eb | apply Ec | apply Ed)
  refine W_region fun K hK => ?_
  simp only [KA, KB, KP, KQ, KM, simprocAttr, KT w, KI, hw.KF]
  refine hK _ _ ?_
  clear hK
  clear K
  repeat with_reducible (first | apply E0 | apply E1 | apply E2 | apply E3 | apply E4 | refine E5 (by decide) ?_ | apply E6 | apply E7 | apply E8 | apply E9 | apply Ea | apply Eb | apply Ec | apply Ed)
  refine W_condF (by simp only [KA, KP, KQ, simprocAttr, KT w, KI, hw.KF]) ?_
  repeat with_reducible (first | apply E0 | apply E1 | apply E2 | apply E3 | apply E4 | refine E5 (by decide) ?_ | apply E6 | apply E7 | apply E8 | apply E9 | apply Ea | apply Eb | apply Ec | apply Ed)
  refine W_region fun K hK => ?_
  simp only [KA, KB, KP, KQ, KM, simprocAttr, KT w, KI, hw.KF]
  refine hK _ _ ?_
  clear hK
  clear K
  repeat with_reducible (first | apply E0 | apply E1 | apply E2 | apply E3 | apply E4 | refine E5 (by decide) ?_ | apply E6 | apply E7 | apply E8 | apply E9 | apply Ea | apply Eb | apply Ec | apply Ed)
  refine W_loop (fun k fr S => ∃ (tm : List AV) (i : Nat), fr = ⟨tm, [], none, 20⟩ ∧ S = (St.nil.push (.row n.cells false)).push (.row n.cells false) ∧ k = n.kids.length - i ∧ i ≤ n.kids.length ∧
     tm.length = 74 ∧ tget tm 2 = .ptr 0 0 ∧ tget tm 3 = .ptr 1 0 ∧ tget tm 5 = .int .i64 i) n.kids.length
    ⟨_, 0, rfl, rfl, rfl, Nat.zero_le _, ?_⟩ ?_
  · simp only [KA, KP, KQ, simprocAttr, KT w, KI, hw.KF, Int.ofNat_zero]
  rintro k fr S ⟨tm, i, rfl, rfl, rfl, hi, htm, h2, h3, h5⟩
  repeat with_reducible (first | apply E0 | apply E1 | apply E2 | apply E3 | apply E4 | refine E5 (by decide) ?_ | apply E6 | apply E7 | apply E8 | apply E9 | apply Ea | apply Eb | apply Ec | apply Ed)
  refine W_region fun K hK => ?_
  simp only [KA, KB, KP, KQ, KM, simprocAttr, KT w, KI, hw.KF, htm, h2, h5]
  refine hK _ _ ?_
  clear hK
  clear K
  repeat with_reducible (first | apply E0 | apply E1 | apply E2 | apply E3 | apply E4 | refine E5 (by decide) ?_ | apply E6 | apply E7 | apply E8 | apply E9 | apply Ea | apply Eb | apply Ec | apply Ed)
  refine W_condP (p := _) (by simp only [KA, KP, KQ, simprocAttr, KT w, KI, hw.KF, htm]; rfl) (fun hb => ?_) (fun hb => ?_)
  · obtain ⟨x, hx⟩ := get_of_lt (l := n.kids) (i := i) (by omega)
    have hxm := List.mem_of_getElem? hx
    have e1 : IntKind.i64.wrap ((i : Int) + 1) = (i : Int) + 1 := i64_in _ (by omega)
    have hrec := ih x hxm
    repeat with_reducible (first | apply E0 | apply E1 | apply E2 | apply E3 | apply E4 | refine E5 (by decide) ?_ | apply E6 | apply E7 | apply E8 | apply E9 | apply Ea | apply Eb | apply Ec | apply Ed)
    refine W_regionQ (by decide +kernel) fun K hK => ?_
    simp only [KA, KB, KP, KQ, KM, simprocAttr, KT w, KI, hw.KF, htm, h2, h3, h5, hx, hrec]
    refine hK _ _ ?_
    clear hK
    clear K
    repeat with_reducible (first | apply E0 | apply E1 | apply E2 | apply E3 | apply E4 | refine E5 (by decide) ?_ | apply E6 | apply E7 | apply E8 | apply E9 | apply Ea | apply Eb | apply Ec | apply Ed)
    refine W_condF (by simp only [KA, KP, KQ, simprocAttr, KT w, KI, hw.KF, htm]) ?_
    repeat with_reducible (first | apply E0 | apply E1 | apply E2 | apply E3 | apply E4 | refine E5 (by decide) ?_ | apply E6 | apply E7 | apply E8 | apply E9 | apply Ea | apply Eb | apply Ec | apply Ed)
    refine W_region fun K hK => ?_
    simp only [KA, KB, KP, KQ, KM, simprocAttr, KT w, KI, hw.KF, htm, h5, e1]
    refine hK _ _ ?_
    clear hK
    clear K
    refine ⟨n.kids.length - (i + 1), by omega, _, i + 1, rfl, rfl, rfl, by omega, ?_⟩
    simp only [KA, KP, KQ, simprocAttr, KT w, KI, hw.KF, htm, h2, h3, Int.natCast_add, A3z]
  · repeat with_reducible (first | apply E0 | apply E1 | apply E2 | apply E3 | apply E4 | refine E5 (by decide) ?_ | apply E6 | apply E7 | apply E8 | apply E9 | apply Ea | apply Eb | apply Ec | apply Ed)
    refine W_region fun K hK => ?_
    simp only [KA, KB, KP, KQ, KM, simprocAttr, KT w, KI, hw.KF]
    refine hK _ _ ?_
    clear hK
    clear K
    repeat with_reducible (first | apply E0 | apply E1 | apply E2 | apply E3 | apply E4 | refine E5 (by decide) ?_ | apply E6 | apply E7 | apply E8 | apply E9 | apply Ea | apply Eb | apply Ec | apply Ed)
    refine AtEnd_of rfl ?_
    simp only [KA, KP, KQ, simprocAttr, KT w, KI, hw.KF, htm, RS_some, aresults_nil, aresults_tmp, aresults_cell, one]
    exact FZ_bool
def Fs.nd (f : Fs) : Node := .mk f.kind f.named f.field f.frm f.to f.bad []
theorem leaf20_ne (hw : Std w) (f g : Fs) (hfg : f ≠ g) : PC (cfg w) 20 [f.nd.av, g.nd.av] (.bool false) := by
  refine PC_of (args' := [f.nd.av, g.nd.av]) hw.e20 hw.m20 (by simp [nrmA, nrm, Node.nrm_all]) ?_
  rw [show false = decide (f = g) by simp [hfg]]
  simp only [Fs.nd, Node.av, Node.cells_eq, Node.kind, Node.named, Node.field, Node.frm, Node.to, Node.bad, Node.kids, Node.rows, Node.cellsL]
  refine call_of_W (fn20 w) rfl ?_
  simp only [Tryd.f20, List.length_cons, List.length_nil, Nat.reduceAdd, Nat.reduceSub, List.cons_append, List.nil_append]
  repeat with_reducible (first | apply E0 | apply E1 | apply E2 | apply E3 | apply E4 | refine E5 (by decide) ?_ | apply E6 | apply E7 | apply E8 | apply E9 | apply Ea | apply Eb | apply Ec | apply Ed)
  refine W_region fun K hK => ?_
  simp only [KA, KB, KP, KQ, KM, simprocAttr, KT w, KI, hw.KF]
  refine hK _ _ ?_
  clear hK
  clear K
  repeat with_reducible (first | apply E0 | apply E1 | apply E2 | apply E3 | apply E4 | refine E5 (by decide) ?_ | apply E6 | apply E7 | apply E8 | apply E9 | apply Ea | apply Eb | apply Ec | apply Ed)
  by_cases hk : f.kind = g.kind
  case neg =>
    refine W_region fun K hK => ?_
    simp only [KA, KB, KP, KQ, KM, simprocAttr, KT w, KI, hw.KF, hk]
    refine hK _ _ ?_
    clear hK
    clear K
    repeat with_reducible (first | apply E0 | apply E1 | apply E2 | apply E3 | apply E4 | refine E5 (by decide) ?_ | apply E6 | apply E7 | apply E8 | apply E9 | apply Ea | apply Eb | apply Ec | apply Ed)
    refine W_condT (by simp only [KA, KP, KQ, simprocAttr, KT w, KI, hw.KF]) ?_
    repeat with_reducible (first | apply E0 | apply E1 | apply E2 | apply E3 | apply E4 | refine E5 (by decide) ?_ | apply E6 | apply E7 | apply E8 | apply E9 | apply Ea | apply Eb | apply Ec | apply Ed)
    refine W_region fun K hK => ?_
    simp only [KA, KB, KP, KQ, KM, simprocAttr, KT w, KI, hw.KF]
    refine hK _ _ ?_
    clear hK
    clear K
    repeat with_reducible (first | apply E0 | apply E1 | apply E2 | apply E3 | apply E4 | refine E5 (by decide) ?_ | apply E6 | apply E7 | apply E8 | apply E9 | apply Ea | apply Eb | apply Ec | apply Ed)
    refine AtEnd_of rfl ?_
    simp only [KA, KP, KQ, simprocAttr, KT w, KI, hw.KF, RS_some, aresults_nil, aresults_tmp, aresults_cell, one]
    rw [show decide (f = g) = false by simp only [decide_eq_false_iff_not]; rintro rfl; exact hk rfl]
    exact FZ_bool
  by_cases hn : f.named = g.named
  case neg =>
    refine W_region fun K hK => ?_
    simp only [KA, KB, KP, KQ, KM, simprocAttr, KT w, KI, hw.KF, hk, hn]
    refine hK _ _ ?_
    clear hK
    clear K
    repeat with_reducible (first | apply E0 | apply E1 | apply E2 | apply E3 | apply E4 | refine E5 (by decide) ?_ | apply E6 | apply E7 | apply E8 | apply E9 | apply Ea | apply Eb | apply Ec | apply Ed)
    refine W_condT (by simp only [KA, KP, KQ, simprocAttr, KT w, KI, hw.KF]) ?_
    repeat with_reducible (first | apply E0 | apply E1 | apply E2 | apply E3 | apply E4 | refine E5 (by decide) ?_ | apply E6 | apply E7 | apply E8 | apply E9 | apply Ea | apply Eb | apply Ec | apply Ed)
    refine W_region fun K hK => ?_
    simp only [KA, KB, KP, KQ, KM, simprocAttr, KT w, KI, hw.KF]
    refine hK _ _ ?_
    clear hK
    clear K
    repeat with_reducible (first | apply E0 | apply E1 | apply E2 | apply E3 | apply E4 | refine E5 (by decide) ?_ | apply E6 | apply E7 | apply E8 | apply E9 | apply Ea | apply Eb | apply Ec | apply Ed)
    refine AtEnd_of rfl ?_
    simp only [KA, KP, KQ, simprocAttr, KT w, KI, hw.KF, RS_some, aresults_nil, aresults_tmp, aresults_cell, one]
    rw [show decide (f = g) = false by simp only [decide_eq_false_iff_not]; rintro rfl; exact hn rfl]
    exact FZ_bool
  by_cases hf : f.field = g.field
  case neg =>
    refine W_region fun K hK => ?_
    simp only [KA, KB, KP, KQ, KM, simprocAttr, KT w, KI, hw.KF, hk, hn, hf]
    refine hK _ _ ?_
    clear hK
    clear K
    repeat with_reducible (first | apply E0 | apply E1 | apply E2 | apply E3 | apply E4 | refine E5 (by decide) ?_ | apply E6 | apply E7 | apply E8 | apply E9 | apply Ea | apply Eb | apply Ec | apply Ed)
    refine W_condT (by simp only [KA, KP, KQ, simprocAttr, KT w, KI, hw.KF]) ?_
    repeat with_reducible (first | apply E0 | apply E1 | apply E2 | apply E3 | apply E4 | refine E5 (by decide) ?_ | apply E6 | apply E7 | apply E8 | apply E9 | apply Ea | apply Eb | apply Ec | apply Ed)
    refine W_region fun K hK => ?_
    simp only [KA, KB, KP, KQ, KM, simprocAttr, KT w, KI, hw.KF]
    refine hK _ _ ?_
    clear hK
    clear K
    repeat with_reducible (first | apply E0 | apply E1 | apply E2 | apply E3 | apply E4 | refine E5 (by decide) ?_ | apply E6 | apply E7 | apply E8 | apply E9 | apply Ea | apply Eb | apply Ec | apply Ed)
    refine AtEnd_of rfl ?_
    simp only [KA, KP, KQ, simprocAttr, KT w, KI, hw.KF, RS_some, aresults_nil, aresults_tmp, aresults_cell, one]
    rw [show decide (f = g) = false by simp only [decide_eq_false_iff_not]; rintro rfl; exact hf rfl]
    exact FZ_bool
  by_cases ha : f.frm = g.frm
  case neg =>
    refine W_region fun K hK => ?_
    simp only [KA, KB, KP, KQ, KM, simprocAttr, KT w, KI, hw.KF, hk, hn, hf, ha]
    refine hK _ _ ?_
    clear hK
    clear K
    repeat with_reducible (first | apply E0 | apply E1 | apply E2 | apply E3 | apply E4 | refine E5 (by decide) ?_ | apply E6 | apply E7 | apply E8 | apply E9 | apply Ea | apply Eb | apply Ec | apply Ed)
    refine W_condT (by simp only [KA, KP, KQ, simprocAttr, KT w, KI, hw.KF]) ?_
    repeat with_reducible (first | apply E0 | apply E1 | apply E2 | apply E3 | apply E4 | refine E5 (by decide) ?_ | apply E6 | apply E7 | apply E8 | apply E9 | apply Ea | apply Eb | apply Ec | apply Ed)
    refine W_region fun K hK => ?_
    simp only [KA, KB, KP, KQ, KM, simprocAttr, KT w, KI, hw.KF]
    refine hK _ _ ?_
    clear hK
    clear K
    repeat with_reducible (first | apply E0 | apply E1 | apply E2 | apply E3 | apply E4 | refine E5 (by decide) ?_ | apply E6 | apply E7 | apply E8 | apply E9 | apply Ea | apply Eb | apply Ec | apply Ed)
    refine AtEnd_of rfl ?_
    simp only [KA, KP, KQ, simprocAttr, KT w, KI, hw.KF, RS_some, aresults_nil, aresults_tmp, aresults_cell, one]
    rw [show decide (f = g) = false by simp only [decide_eq_false_iff_not]; rintro rfl; exact ha rfl]
    exact FZ_bool
  by_cases hb : f.to = g.to
  case neg =>
    refine W_region fun K hK => ?_
    simp only [KA, KB, KP, KQ, KM, simprocAttr, KT w, KI, hw.KF, hk, hn, hf, ha, hb]
    refine hK _ _ ?_
    clear hK
    clear K
    repeat with_reducible (first | apply E0 | apply E1 | apply E2 | apply E3 | apply E4 | refine E5 (by decide) ?_ | apply E6 | apply E7 | apply E8 | apply E9 | apply Ea | apply Eb | apply Ec | apply Ed)
    refine W_condT (by simp only [KA, KP, KQ, simprocAttr, KT w, KI, hw.KF]) ?_
    repeat with_reducible (first | apply E0 | apply E1 | apply E2 | apply E3 | apply E4 | refine E5 (by decide) ?_ | apply E6 | apply E7 | apply E8 | apply E9 | apply Ea | apply Eb | apply Ec | apply Ed)
    refine W_region fun K hK => ?_
    simp only [KA, KB, KP, KQ, KM, simprocAttr, KT w, KI, hw.KF]
    refine hK _ _ ?_
    clear hK
    clear K
    repeat with_reducible (first | apply E0 | apply E1 | apply E2 | apply E3 | apply E4 | refine E5 (by decide) ?_ | apply E6 | apply E7 | apply E8 | apply E9 | apply Ea | apply Eb | apply Ec | apply Ed)
    refine AtEnd_of rfl ?_
    simp only [KA, KP, KQ, simprocAttr, KT w, KI, hw.KF, RS_some, aresults_nil, aresults_tmp, aresults_cell, one]
    rw [show decide (f = g) = false by simp only [decide_eq_false_iff_not]; rintro rfl; exact hb rfl]
    exact FZ_bool
  by_cases hd : f.bad = g.bad
  case neg =>
    refine W_region fun K hK => ?_
    simp only [KA, KB, KP, KQ, KM, simprocAttr, KT w, KI, hw.KF, hk, hn, hf, ha, hb, hd]
    refine hK _ _ ?_
    clear hK
    clear K
    repeat with_reducible (first | apply E0 | apply E1 | apply E2 | apply E3 | apply E4 | refine E5 (by decide) ?_ | apply E6 | apply E7 | apply E8 | apply E9 | apply Ea | apply Eb | apply Ec | apply Ed)
    refine W_condT (by simp only [KA, KP, KQ, simprocAttr, KT w, KI, hw.KF]) ?_
    repeat with_reducible (first | apply E0 | apply E1 | apply E2 | apply E3 | apply E4 | refine E5 (by decide) ?_ | apply E6 | apply E7 | apply E8 | apply E9 | apply Ea | apply Eb | apply Ec | apply Ed)
    refine W_region fun K hK => ?_
    simp only [KA, KB, KP, KQ, KM, simprocAttr, KT w, KI, hw.KF]
    refine hK _ _ ?_
    clear hK
    clear K
    repeat with_reducible (first | apply E0 | apply E1 | apply E2 | apply E3 | apply E4 | refine E5 (by decide) ?_ | apply E6 | apply E7 | apply E8 | apply E9 | apply Ea | apply Eb | apply Ec | apply Ed)
    refine AtEnd_of rfl ?_
    simp only [KA, KP, KQ, simprocAttr, KT w, KI, hw.KF, RS_some, aresults_nil, aresults_tmp, aresults_cell, one]
    rw [show decide (f = g) = false by simp only [decide_eq_false_iff_not]; rintro rfl; exact hd rfl]
    exact FZ_bool
  exact absurd (by cases f; cases g; simp_all) hfg
theorem leaf20 (hw : Std w) (f g : Fs) : PC (cfg w) 20 [f.nd.av, g.nd.av] (.bool (decide (f = g))) := by
  by_cases h : f = g
  · subst h
    simp only [decide_true]
    exact same20_step hw f.nd (by simp [Fs.nd, Node.kids]) (by simp [Fs.nd, Node.kids])
  · simp only [h, decide_false]
    exact leaf20_ne hw f g h

def fsOf (n : Node) : Fs := ⟨n.kind, n.named, n.field, n.frm, n.to, n.bad⟩
theorem fsOf_nd {n : Node} (h : n.kids = []) : n = (fsOf n).nd := by
  cases n; simp [Node.kids] at h; subst h; rfl
theorem fsOf_inj {m n : Node} (hm : m.kids = []) (hn : n.kids = []) : fsOf m = fsOf n ↔ m = n := by
  refine ⟨fun h => by rw [fsOf_nd hm, fsOf_nd hn, h], fun h => by rw [h]⟩
theorem leafN (hw : Std w) {m n : Node} (hm : m.kids = []) (hn : n.kids = []) : PC (cfg w) 20 [.agg m.cells, .agg n.cells] (.bool (decide (m = n))) := by
  have h := leaf20 hw (fsOf m) (fsOf n)
  rw [← fsOf_nd hm, ← fsOf_nd hn] at h
  rw [show decide (m = n) = decide (fsOf m = fsOf n) by rw [decide_eq_decide]; exact (fsOf_inj hm hn).symm]
  exact h
theorem holds42r (hw : Std w) (s s' : RSl) (hl : s.kids.length ≤ 35184372088832) (hl' : s'.kids.length ≤ 35184372088832) (hm : s.node.kids = []) (hn : s'.node.kids = []) : PC (cfg w) 42 [.agg s.row, .agg s'.row] (.bool (decide (s.node = s'.node ∧ s.kids = s'.kids))) := by
  have h1 := leafN hw hm hn
  have h2 := ints41 hw s.kids s'.kids hl hl'
  refine PC_of (args' := [.agg s.row, .agg s'.row]) hw.e42 hw.m42 (by simp [nrmA, nrm, RSl.row_nrm]) ?_
  have a1 := s.row_len
  have a2 := s.row_take7
  have a3 := s.row7
  have b1 := s'.row_len
  have b2 := s'.row_take7
  have b3 := s'.row7
  have c1 := Node.cells_len s.node
  have c2 := Node.cells_len s'.node
  have d1 : s.row.take 10 = s.row := List.take_of_length_le (by omega)
  have d2 : s'.row.take 10 = s'.row := List.take_of_length_le (by omega)
  generalize s.row = R at *
  generalize s'.row = R' at *
  generalize s.node.cells = C at *
  generalize s'.node.cells = C' at *
  by_cases hf : s.node = s'.node
  · have hk : decide (s.node = s'.node ∧ s.kids = s'.kids) = decide (s.kids = s'.kids) := by simp [hf]
    rw [hk]
    simp only [hf, decide_true] at h1
    generalize decide (s.kids = s'.kids) = B at *
    refine call_of_W (fn42 w) rfl ?_
    simp only [Tryd.f42, List.length_cons, List.length_nil, Nat.reduceAdd, Nat.reduceSub, List.cons_append, List.nil_append]
    repeat with_reducible (first | apply E0 | apply E1 | apply E2 | apply E3 | apply E4 | refine E5 (by decide) ?_ | apply E6 | apply E7 | apply E8 | apply E9 | apply Ea | apply Eb | apply Ec | apply Ed)
    refine W_region fun K hK => ?_
    simp only [KA, KB, KP, KQ, KM, simprocAttr, KT w, KI, hw.KF, a1, b1, d1, d2]
    refine hK _ _ ?_
    clear hK
    clear K
    repeat with_reducible (first | apply E0 | apply E1 | apply E2 | apply E3 | apply E4 | refine E5 (by decide) ?_ | apply E6 | apply E7 | apply E8 | apply E9 | apply Ea | apply Eb | apply Ec | apply Ed)
    refine W_region fun K hK => ?_
    simp only [KA, KB, KP, KQ, KM, simprocAttr, KT w, KI, hw.KF, h1, h2, a1, a2, a3, b1, b2, b3, c1, c2]
    refine hK _ _ ?_
    clear hK
    clear K
    repeat with_reducible (first | apply E0 | apply E1 | apply E2 | apply E3 | apply E4 | refine E5 (by decide) ?_ | apply E6 | apply E7 | apply E8 | apply E9 | apply Ea | apply Eb | apply Ec | apply Ed)
    refine AtEnd_of rfl ?_
    simp only [KA, KP, KQ, simprocAttr, KT w, KI, hw.KF, RS_some, aresults_nil, aresults_tmp, aresults_cell, one]
    exact FZ_bool
  · have hk : decide (s.node = s'.node ∧ s.kids = s'.kids) = false := by simp [hf]
    rw [hk]
    simp only [hf, decide_false] at h1
    refine call_of_W (fn42 w) rfl ?_
    simp only [Tryd.f42, List.length_cons, List.length_nil, Nat.reduceAdd, Nat.reduceSub, List.cons_append, List.nil_append]
    repeat with_reducible (first | apply E0 | apply E1 | apply E2 | apply E3 | apply E4 | refine E5 (by decide) ?_ | apply E6 | apply E7 | apply E8 | apply E9 | apply Ea | apply Eb | apply Ec | apply Ed)
    refine W_region fun K hK => ?_
    simp only [KA, KB, KP, KQ, KM, simprocAttr, KT w, KI, hw.KF, a1, b1, d1, d2]
    refine hK _ _ ?_
    clear hK
    clear K
    repeat with_reducible (first | apply E0 | apply E1 | apply E2 | apply E3 | apply E4 | refine E5 (by decide) ?_ | apply E6 | apply E7 | apply E8 | apply E9 | apply Ea | apply Eb | apply Ec | apply Ed)
    refine W_region fun K hK => ?_
    simp only [KA, KB, KP, KQ, KM, simprocAttr, KT w, KI, hw.KF, h1, a1, a2, a3, b1, b2, b3, c1, c2]
    refine hK _ _ ?_
    clear hK
    clear K
    repeat with_reducible (first | apply E0 | apply E1 | apply E2 | apply E3 | apply E4 | refine E5 (by decide) ?_ | apply E6 | apply E7 | apply E8 | apply E9 | apply Ea | apply Eb | apply Ec | apply Ed)
    refine AtEnd_of rfl ?_
    simp only [KA, KP, KQ, simprocAttr, KT w, KI, hw.KF, RS_some, aresults_nil, aresults_tmp, aresults_cell, one]
    exact FZ_bool
end Go.Am.R
