/- HOW THE FUNCTIONS ARE CALLED; THE MACHINE IS SOUND FOR THIS PROGRAM. -/
import Derived.Test.YtghpjjhdbankhaaS0
import Derived.Test.YtghpjjhdbankhaaMf
set_option linter.unusedSimpArgs false
set_option linter.unusedVariables false
set_option maxRecDepth 20000
namespace Go.Am.B
open Go.Proofs Go.RowKit

def rawL : List Nat := [89, 97, 70, 71, 91, 92, 83, 94, 95, 37]
def tempL : List Nat := [73, 74, 84]
def modeOf (f : FuncId) : CM := if rawL.contains f then .raw else if tempL.contains f then .temp else .pure
/-- Nothing is taken as given. -/
def w0 : Ways := ⟨modeOf, fun _ => none, fun _ _ => false, fun t => t == 29⟩

theorem std0 : Std w0 := by constructor <;> first | rfl | exact fun _ _ _ _ => rfl | (constructor <;> rfl)

theorem fits29 {w : Ways} {xs : List AV} (h : fitsT (cfg w) 29 xs = true) : ∃ a b c d e f g, xs = [.int .i64 a, .int .i64 b, .int .i64 c, .str d, .int .i64 e, .int .i64 f, .int .i64 g] := by
  unfold fitsT at h
  rw [Tc29] at h
  simp only at h
  obtain ⟨x0, t0, rfl, k0, h⟩ := sameLeaves_cons h
  obtain ⟨x1, t1, rfl, k1, h⟩ := sameLeaves_cons h
  obtain ⟨x2, t2, rfl, k2, h⟩ := sameLeaves_cons h
  obtain ⟨x3, t3, rfl, k3, h⟩ := sameLeaves_cons h
  obtain ⟨x4, t4, rfl, k4, h⟩ := sameLeaves_cons h
  obtain ⟨x5, t5, rfl, k5, h⟩ := sameLeaves_cons h
  obtain ⟨x6, t6, rfl, k6, h⟩ := sameLeaves_cons h
  obtain rfl := sameLeaves_nil h
  obtain ⟨a, rfl⟩ := sameLeaf_int k0
  obtain ⟨b, rfl⟩ := sameLeaf_int k1
  obtain ⟨c, rfl⟩ := sameLeaf_int k2
  obtain ⟨d, rfl⟩ := sameLeaf_str k3
  obtain ⟨e, rfl⟩ := sameLeaf_int k4
  obtain ⟨f, rfl⟩ := sameLeaf_int k5
  obtain ⟨g, rfl⟩ := sameLeaf_int k6
  exact ⟨a, b, c, d, e, f, g, rfl⟩

theorem repL_cells {G : Gh} {w : World} {a b c e f g : Int} {d : List UInt8} {vs : Array Value} (h : RepL G w [.int .i64 a, .int .i64 b, .int .i64 c, .str d, .int .i64 e, .int .i64 f, .int .i64 g] vs.toList) :
    vs = #[.int .i64 a, .int .i64 b, .int .i64 c, .string ⟨d.toArray⟩, .int .i64 e, .int .i64 f, .int .i64 g] := by
  obtain ⟨v0, l0, h0, r0, h⟩ := h.uncons
  obtain ⟨v1, l1, rfl, r1, h⟩ := h.uncons
  obtain ⟨v2, l2, rfl, r2, h⟩ := h.uncons
  obtain ⟨v3, l3, rfl, r3, h⟩ := h.uncons
  obtain ⟨v4, l4, rfl, r4, h⟩ := h.uncons
  obtain ⟨v5, l5, rfl, r5, h⟩ := h.uncons
  obtain ⟨v6, l6, rfl, r6, h⟩ := h.uncons
  obtain rfl := h.nil_inv
  rw [arr_eq h0, rep_int r0, rep_int r1, rep_int r2, rep_str r3, rep_int r4, rep_int r5, rep_int r6]

theorem eq29 {w : Ways} {xs : List AV} (h : fitsT (cfg w) 29 xs = true) : EqOk Try.prog 29 xs := by
  obtain ⟨a, b, c, d, e, f, g, rfl⟩ := fits29 h
  refine ⟨by kernel_rfl, ?_, ?_⟩
  · intro G W ys vs us r hr hv hu
    obtain ⟨y0, t0, q0, r0, rfl, k0, hr1, rfl⟩ := leavesEq_cons hr
    clear hr
    obtain ⟨y1, t1, q1, r1, rfl, k1, hr2, rfl⟩ := leavesEq_cons hr1
    clear hr1
    obtain ⟨y2, t2, q2, r2, rfl, k2, hr3, rfl⟩ := leavesEq_cons hr2
    clear hr2
    obtain ⟨y3, t3, q3, r3, rfl, k3, hr4, rfl⟩ := leavesEq_cons hr3
    clear hr3
    obtain ⟨y4, t4, q4, r4, rfl, k4, hr5, rfl⟩ := leavesEq_cons hr4
    clear hr4
    obtain ⟨y5, t5, q5, r5, rfl, k5, hr6, rfl⟩ := leavesEq_cons hr5
    clear hr5
    obtain ⟨y6, t6, q6, r6, rfl, k6, hr7, rfl⟩ := leavesEq_cons hr6
    clear hr6
    obtain ⟨rfl, rfl⟩ := leavesEq_nil hr7
    obtain ⟨a', rfl, rfl⟩ := leafEq_int k0
    obtain ⟨b', rfl, rfl⟩ := leafEq_int k1
    obtain ⟨c', rfl, rfl⟩ := leafEq_int k2
    obtain ⟨d', rfl, rfl⟩ := leafEq_str k3
    obtain ⟨e', rfl, rfl⟩ := leafEq_int k4
    obtain ⟨f', rfl, rfl⟩ := leafEq_int k5
    obtain ⟨g', rfl, rfl⟩ := leafEq_int k6
    rw [repL_cells hv, repL_cells hu]
    show (Op.equalIn (9997 + 1 + 1 + 1) 29 _ _).run Try.prog W = _
    generalize 9997 = dd
    rw [run_equalIn_struct W _ _ _ _ (by kernel_rfl) (by kernel_rfl)]
    rw [show (Try.prog.fieldsOf 29).toList = [⟨ "Kind", 3, 0, false, "", "", 0⟩, ⟨ "Edit", 27, 1, false, "", "", 8⟩, ⟨ "H", 3, 4, false, "", "", 40⟩, ⟨ "From", 3, 5, false, "", "", 48⟩, ⟨ "To", 3, 6, false, "", "", 56⟩] by kernel_rfl]
    have p3 : ∀ (cs : Array Value) (off : Nat) (u : Value), cs[off]? = some u → (part 3 cs off).run Try.prog W = .ok u W := fun cs off u hu => by
      simp [part, Sem.run_bind, run_isAgg_ty Try.underlying3, tkOf, isAggK, hu]
    have p9 : ∀ (cs : Array Value) (off : Nat) (u : Value), cs[off]? = some u → (part 9 cs off).run Try.prog W = .ok u W := fun cs off u hu => by
      simp [part, Sem.run_bind, run_isAgg_ty Try.underlying9, tkOf, isAggK, hu]
    have p27 : ∀ (cs : Array Value) (off : Nat), (part 27 cs off).run Try.prog W = .ok (.agg (cs.extract off (off + 3))) W := fun cs off => by
      have hsz : ∃ i : TypeInfo, Try.prog.info? 27 = some i ∧ i.size = 3 := ⟨_, rfl, by kernel_rfl⟩
      obtain ⟨i, hi, h3⟩ := hsz
      simp [part, Sem.run_bind, run_isAgg_ty Try.underlying27, tkOf, isAggK, run_size_ty hi, h3]
    have q3 : ∀ (n : Nat) (x y : Int), (Op.equalIn (n + 1) 3 (.int .i64 x) (.int .i64 y)).run Try.prog W = .ok (x == y) W := fun n x y => run_equalIn_int W n 3 .i64 .i64 x y Try.underlying3
    have q9 : ∀ (n : Nat) (x y : ByteArray), (Op.equalIn (n + 1) 9 (.string x) (.string y)).run Try.prog W = .ok (x.toList == y.toList) W := fun n x y => run_equalIn_string W n 9 x y Try.underlying9
    have q27 : (Op.equalIn (dd + 1 + 1) 27 (.agg #[.int .i64 b, .int .i64 c, .string ⟨d.toArray⟩]) (.agg #[.int .i64 b', .int .i64 c', .string ⟨d'.toArray⟩])).run Try.prog W = .ok (b == b' && (c == c' && (d == d' && true))) W := by
      rw [run_equalIn_struct W _ _ _ _ (by kernel_rfl) (by kernel_rfl)]
      rw [show (Try.prog.fieldsOf 27).toList = [⟨ "At", 3, 0, false, "", "", 0⟩, ⟨ "Old", 3, 1, false, "", "", 8⟩, ⟨ "Text", 9, 2, false, "", "", 16⟩] by kernel_rfl]
      simp [Op.eqFields, Sem.run_bind, part, run_isAgg_ty Try.underlying3, run_isAgg_ty Try.underlying9, tkOf, isAggK, q3, q9, str_toList]
      cases hb : (b == b') <;> cases hc : (c == c') <;> cases hd : (d == d') <;> simp_all
    obtain ⟨i, hi, hi3⟩ : ∃ i : TypeInfo, Try.prog.info? 27 = some i ∧ i.size = 3 := ⟨_, rfl, by kernel_rfl⟩
    simp [Op.eqFields, Sem.run_bind, part, run_isAgg_ty Try.underlying3, run_isAgg_ty Try.underlying9, run_isAgg_ty Try.underlying27, run_size_ty hi, hi3, tkOf, isAggK, q3, q9, q27, str_toList]
    cases ha : (a == a') <;> cases hb : (b == b') <;> cases hc : (c == c') <;> cases hd : (d == d') <;> cases he : (e == e') <;> cases hf : (f == f') <;> by_cases hg : g = g' <;> simp_all
  · intro G W vs r hr hv
    rw [repL_cells hv]
    rw [show (10000 : Nat) = 9997 + 1 + 1 + 1 from rfl]
    generalize 9997 = dd
    obtain ⟨i, hi, hi3⟩ : ∃ i : TypeInfo, Try.prog.info? 27 = some i ∧ i.size = 3 := ⟨_, rfl, by kernel_rfl⟩
    simp [Instr.checkKey, Sem.run_bind, run_underlying Try.underlying29, run_underlying Try.underlying27, run_underlying Try.underlying3, run_underlying Try.underlying9, part, run_isAgg_ty Try.underlying3, run_isAgg_ty Try.underlying9, run_isAgg_ty Try.underlying27, run_size_ty hi, hi3, tkOf, isAggK]

theorem cfgOk0 : CfgOk Try.prog (cfg w0) where
  ty := fun t i h => by rw [cfgP_ty] at h; exact h
  fn := fun f g h => cfgP_fn h
  mixed := by kernel_rfl
  eqt := fun t xs h hf => by
    have : t = 29 := by simpa [cfgP_eqt, w0] using h
    subst this
    exact eq29 hf
  ext := fun f F h => by simp [cfgP_ext, w0] at h
end Go.Am.B
