/- WHAT IS COMPARED; slices.Clone AS IT IS GIVEN. -/
import Derived.Test.YtbmfnoaogebjfaaDoorT12
import Derived.Laws.StructEq
set_option linter.unusedSimpArgs false
set_option linter.unusedVariables false
set_option maxRecDepth 20000
namespace Go.Am.R
open Go.Proofs Go.RowKit

theorem fits80' {w : Ways} {xs : List AV} (h : fitsT (cfg w) 80 xs = true) : ∃ a b c d e f g, xs = [.str a, .str b, .bool c, .int .i64 d, .int .i64 e, .int .i64 f, .str g] := by
  unfold fitsT at h
  rw [Tc80] at h
  simp only at h
  obtain ⟨x0, t0, rfl, k0, h⟩ := sameLeaves_cons h
  obtain ⟨x1, t1, rfl, k1, h⟩ := sameLeaves_cons h
  obtain ⟨x2, t2, rfl, k2, h⟩ := sameLeaves_cons h
  obtain ⟨x3, t3, rfl, k3, h⟩ := sameLeaves_cons h
  obtain ⟨x4, t4, rfl, k4, h⟩ := sameLeaves_cons h
  obtain ⟨x5, t5, rfl, k5, h⟩ := sameLeaves_cons h
  obtain ⟨x6, t6, rfl, k6, h⟩ := sameLeaves_cons h
  obtain rfl := sameLeaves_nil h
  obtain ⟨a, rfl⟩ := sameLeaf_str k0
  obtain ⟨b, rfl⟩ := sameLeaf_str k1
  obtain ⟨c, rfl⟩ := sameLeaf_bool k2
  obtain ⟨d, rfl⟩ := sameLeaf_int k3
  obtain ⟨e, rfl⟩ := sameLeaf_int k4
  obtain ⟨f, rfl⟩ := sameLeaf_int k5
  obtain ⟨g, rfl⟩ := sameLeaf_str k6
  exact ⟨a, b, c, d, e, f, g, rfl⟩
theorem repL_cells {G : Gh} {w : World} {a : List UInt8} {b : List UInt8} {c : Bool} {d : Int} {e : Int} {f : Int} {g : List UInt8} {vs : Array Value} (h : RepL G w [.str a, .str b, .bool c, .int .i64 d, .int .i64 e, .int .i64 f, .str g] vs.toList) :
    vs = #[.string ⟨a.toArray⟩, .string ⟨b.toArray⟩, .bool c, .int .i64 d, .int .i64 e, .int .i64 f, .string ⟨g.toArray⟩] := by
  obtain ⟨v0, l0, h0, r0, h⟩ := h.uncons
  obtain ⟨v1, l1, rfl, r1, h⟩ := h.uncons
  obtain ⟨v2, l2, rfl, r2, h⟩ := h.uncons
  obtain ⟨v3, l3, rfl, r3, h⟩ := h.uncons
  obtain ⟨v4, l4, rfl, r4, h⟩ := h.uncons
  obtain ⟨v5, l5, rfl, r5, h⟩ := h.uncons
  obtain ⟨v6, l6, rfl, r6, h⟩ := h.uncons
  obtain rfl := h.nil_inv
  rw [arr_eq h0, rep_str r0, rep_str r1, rep_bool r2, rep_int r3, rep_int r4, rep_int r5, rep_str r6]

theorem eq80 [Pin] {w : Ways} {xs : List AV} (h : fitsT (cfg w) 80 xs = true) : EqOk Tryd.prog 80 xs := by
  obtain ⟨a, b, c, d, e, f, g, rfl⟩ := fits80' h
  refine ⟨by kernel_rfl, ?_, ?_⟩
  · intro G W ys vs us r hr hv hu
    obtain ⟨y0, t0, q0, r0, rfl, k0, hr1, rfl⟩ := leavesEq_cons hr
    clear hr
    obtain ⟨y1, t1, q1, r1, rfl, k1, hr2, rfl⟩ := leavesEq_cons hr1
    clear hr1
    obtain ⟨y2, t2, q2, r2, rfl, k2, hr3, rfl⟩ := leavesEq_cons hr2
    clear hr2
    obtain ⟨y3, t3, q3, r3, rfl, k3, hr4, rfl⟩ := leavesEq_cons hr3
    clear hr3
    obtain ⟨y4, t4, q4, r4, rfl, k4, hr5, rfl⟩ := leavesEq_cons hr4
    clear hr4
    obtain ⟨y5, t5, q5, r5, rfl, k5, hr6, rfl⟩ := leavesEq_cons hr5
    clear hr5
    obtain ⟨y6, t6, q6, r6, rfl, k6, hr7, rfl⟩ := leavesEq_cons hr6
    clear hr6
    obtain ⟨rfl, rfl⟩ := leavesEq_nil hr7
    obtain ⟨a', rfl, rfl⟩ := leafEq_str k0
    obtain ⟨b', rfl, rfl⟩ := leafEq_str k1
    obtain ⟨c', rfl, rfl⟩ := leafEq_bool k2
    obtain ⟨d', rfl, rfl⟩ := leafEq_int k3
    obtain ⟨e', rfl, rfl⟩ := leafEq_int k4
    obtain ⟨f', rfl, rfl⟩ := leafEq_int k5
    obtain ⟨g', rfl, rfl⟩ := leafEq_str k6
    rw [repL_cells hv, repL_cells hu]
    show (Op.equalIn (9997 + 1 + 1 + 1) 80 _ _).run Tryd.prog W = _
    generalize 9997 = dd
    rw [run_equalIn_struct W _ _ _ _ (by kernel_rfl) (by kernel_rfl)]
    rw [show (Tryd.prog.fieldsOf 80).toList = [⟨ "kind", 9, 0, false, "", "bramble/arena", 0⟩, ⟨ "field", 9, 1, false, "", "bramble/arena", 16⟩, ⟨ "named", 4, 2, false, "", "bramble/arena", 32⟩, ⟨ "from", 3, 3, false, "", "bramble/arena", 40⟩, ⟨ "to", 3, 4, false, "", "bramble/arena", 48⟩, ⟨ "bad", 3, 5, false, "", "bramble/arena", 56⟩, ⟨ "kids", 9, 6, false, "", "bramble/arena", 64⟩] by kernel_rfl]
    have q3 : ∀ (n : Nat) (x y : Int), (Op.equalIn (n + 1) 3 (.int .i64 x) (.int .i64 y)).run Tryd.prog W = .ok (x == y) W := fun n x y => run_equalIn_int W n 3 .i64 .i64 x y Tryd.underlying3
    have q4 : ∀ (n : Nat) (x y : Bool), (Op.equalIn (n + 1) 4 (.bool x) (.bool y)).run Tryd.prog W = .ok (x == y) W := fun n x y => run_equalIn_bool' W n 4 x y Tryd.underlying4
    have q9 : ∀ (n : Nat) (x y : ByteArray), (Op.equalIn (n + 1) 9 (.string x) (.string y)).run Tryd.prog W = .ok (x.toList == y.toList) W := fun n x y => run_equalIn_string W n 9 x y Tryd.underlying9
    simp [Op.eqFields, Sem.run_bind, part, run_isAgg_ty Tryd.underlying3, run_isAgg_ty Tryd.underlying4, run_isAgg_ty Tryd.underlying9, tkOf, isAggK, q3, q4, q9, str_toList]
    cases ha : (a == a') <;> cases hb : (b == b') <;> cases hc : (c == c') <;> cases hd : (d == d') <;> cases he : (e == e') <;> cases hf : (f == f') <;> by_cases hg : g = g' <;> simp_all
  · intro G W vs r hr hv
    rw [repL_cells hv]
    rw [show (10000 : Nat) = 9997 + 1 + 1 + 1 from rfl]
    generalize 9997 = dd
    simp [Instr.checkKey, Sem.run_bind, run_underlying Tryd.underlying80, run_underlying Tryd.underlying3, run_underlying Tryd.underlying4, run_underlying Tryd.underlying9, part, run_isAgg_ty Tryd.underlying3, run_isAgg_ty Tryd.underlying4, run_isAgg_ty Tryd.underlying9, tkOf, isAggK]
end Go.Am.R
