/- PRINT TAKEN AS GIVEN; WHAT IS COMPARED; HOW THE FUNCTIONS ARE CALLED. -/
import Derived.Test.YtjdhcjhalkjamaaDoorR1
import Derived.Laws.StructEq
set_option linter.unusedVariables false
set_option linter.unusedSimpArgs false
set_option maxRecDepth 20000
namespace Go.Am.V
open Go.Proofs Go.RowKit

def insOf1 (r : List AV) : Option Ins := match r with | [.int .i64 a, .int .i64 b, .int .i64 c, .int .i64 d] => some ⟨a, b, c, d⟩ | _ => none
def insOf : Rows → Option (List Ins)
  | [] => some []
  | r :: rs => (insOf1 r).bind fun i => (insOf rs).map fun l => i :: l
theorem insOf_some : ∀ {rows : Rows} {p : List Ins}, insOf rows = some p → rows = inRows p
  | [], p, h => by simp [insOf] at h; subst h; rfl
  | r :: rs, p, h => by
    simp only [insOf, Option.bind_eq_some_iff, Option.map_eq_some_iff] at h
    obtain ⟨i, h1, l, h2, rfl⟩ := h
    have := insOf_some h2
    unfold insOf1 at h1
    split at h1
    · simp at h1; subst h1
      rw [this]; rfl
    · cases h1
theorem insOf_in : ∀ p : List Ins, insOf (inRows p) = some p
  | [] => rfl
  | i :: p => by
    have : inRows (i :: p) = inRow i :: inRows p := rfl
    rw [this, insOf, insOf_in p]
    rfl

def printF (args : List AV) : Option AV :=
  match args with
  | [.vec rows] => (insOf rows).bind fun p => if fitV p then some (.str (printV p)) else none
  | _ => none
theorem printF_in {p : List Ins} (hf : fitV p = true) : printF [.vec (inRows p)] = some (.str (printV p)) := by
  simp [printF, insOf_in, hf]

theorem ext_print [Pin] (hv : VarsOk) : ExtOk Tryd.prog 11 (.val printF) := by
  refine ext_of (enters_of Tryd.func11 (by kernel_rfl) rfl) fun args r hr G w vs hp hvs => ?_
  unfold printF at hr
  split at hr
  · rename_i rows
    simp only [Option.bind_eq_some_iff] at hr
    obtain ⟨p, h1, hr⟩ := hr
    split at hr
    · rename_i hf
      simp only [Option.some.injEq] at hr
      subst hr
      have hrows := insOf_some h1
      subst hrows
      obtain ⟨v, l, hvl, hrv, hl⟩ := hvs.uncons
      obtain rfl := hl.nil_inv
      have hvs' := arr_eq hvl
      subst hvs'
      have hlen := fitV_len hf
      obtain ⟨a, cap, rfl, hcap, _, hrows⟩ := rep_rows_inv hrv (.inl ⟨_, rfl, rfl⟩)
      rw [inRows_len] at hcap ⊢
      rcases hrows with he | ⟨b, o, es, rfl, hes, hat⟩
      · rw [← inRows_len, he] at hlen
        simp at hlen
      · obtain ⟨i0, hi0⟩ : ∃ i, p[0]? = some i := ⟨_, List.getElem?_eq_getElem (by omega)⟩
        have he4 : es = 4 := by
          have := hes 0 (inRow i0) (by rw [inRows_get, hi0]; rfl)
          rw [inRow_len] at this
          exact this.symm
        subst he4
        have hcell : ∀ (k : Nat) (i : Ins) (j : Nat) (n : Int), p[k]? = some i → (inRow i)[j]? = some (.int .i64 n) → w.cell? ⟨b, o + k * 4 + j, none⟩ = some (.int .i64 n) := fun k i j n hk hj => by
          obtain ⟨_, u, ⟨_, hu⟩, hr⟩ := hat k (inRow i) j (.int .i64 n) (by rw [inRows_get, hk]; rfl) hj
          rw [rep_int hr] at hu
          exact hu
        refine (print_calls w (hv.tab w hp) p hf b o cap ?_ ?_).mono fun e w' ⟨he, hb⟩ => ?_
        · exact World.block_lt_of_cell? w _ (hcell 0 i0 0 i0.op hi0 rfl)
        · exact fun k i hk => ⟨by simpa using hcell k i 0 i.op hk rfl, hcell k i 1 i.x hk rfl, hcell k i 2 i.y hk rfl, hcell k i 3 i.z hk rfl⟩
        · subst he
          exact ⟨hb, _, rfl, fun G w => .str _⟩
    · cases hr
  · cases hr

/-! ### What is compared -/
theorem fits25 {w : Ways} {xs : List AV} (h : fitsT (cfg w) 25 xs = true) : ∃ a b, xs = [.int .i64 a, .int .i64 b] := by
  unfold fitsT at h
  rw [Tc25] at h
  simp only at h
  obtain ⟨x0, t0, rfl, k0, h⟩ := sameLeaves_cons h
  obtain ⟨x1, t1, rfl, k1, h⟩ := sameLeaves_cons h
  obtain rfl := sameLeaves_nil h
  obtain ⟨a, rfl⟩ := sameLeaf_int k0
  obtain ⟨b, rfl⟩ := sameLeaf_int k1
  exact ⟨a, b, rfl⟩
theorem fits39 {w : Ways} {xs : List AV} (h : fitsT (cfg w) 39 xs = true) : ∃ a b c d, xs = [.int .i64 a, .int .i64 b, .int .i64 c, .int .i64 d] := by
  unfold fitsT at h
  rw [Tc39] at h
  simp only at h
  obtain ⟨x0, t0, rfl, k0, h⟩ := sameLeaves_cons h
  obtain ⟨x1, t1, rfl, k1, h⟩ := sameLeaves_cons h
  obtain ⟨x2, t2, rfl, k2, h⟩ := sameLeaves_cons h
  obtain ⟨x3, t3, rfl, k3, h⟩ := sameLeaves_cons h
  obtain rfl := sameLeaves_nil h
  obtain ⟨a, rfl⟩ := sameLeaf_int k0
  obtain ⟨b, rfl⟩ := sameLeaf_int k1
  obtain ⟨c, rfl⟩ := sameLeaf_int k2
  obtain ⟨d, rfl⟩ := sameLeaf_int k3
  exact ⟨a, b, c, d, rfl⟩
theorem repL_i2 {G : Gh} {w : World} {a b : Int} {vs : Array Value} (h : RepL G w [.int .i64 a, .int .i64 b] vs.toList) : vs = #[.int .i64 a, .int .i64 b] := by
  obtain ⟨v0, l0, h0, r0, h⟩ := h.uncons
  obtain ⟨v1, l1, rfl, r1, h⟩ := h.uncons
  obtain rfl := h.nil_inv
  rw [arr_eq h0, rep_int r0, rep_int r1]
theorem repL_i4 {G : Gh} {w : World} {a b c d : Int} {vs : Array Value} (h : RepL G w [.int .i64 a, .int .i64 b, .int .i64 c, .int .i64 d] vs.toList) : vs = #[.int .i64 a, .int .i64 b, .int .i64 c, .int .i64 d] := by
  obtain ⟨v0, l0, h0, r0, h⟩ := h.uncons
  obtain ⟨v1, l1, rfl, r1, h⟩ := h.uncons
  obtain ⟨v2, l2, rfl, r2, h⟩ := h.uncons
  obtain ⟨v3, l3, rfl, r3, h⟩ := h.uncons
  obtain rfl := h.nil_inv
  rw [arr_eq h0, rep_int r0, rep_int r1, rep_int r2, rep_int r3]

theorem eq25 [Pin] {w : Ways} {xs : List AV} (h : fitsT (cfg w) 25 xs = true) : EqOk Tryd.prog 25 xs := by
  obtain ⟨a, b, rfl⟩ := fits25 h
  refine ⟨by kernel_rfl, ?_, ?_⟩
  · intro G W ys vs us r hr hv hu
    obtain ⟨y0, t0, q0, r0, rfl, k0, hr1, rfl⟩ := leavesEq_cons hr
    obtain ⟨y1, t1, q1, r1, rfl, k1, hr2, rfl⟩ := leavesEq_cons hr1
    obtain ⟨rfl, rfl⟩ := leavesEq_nil hr2
    obtain ⟨a', rfl, rfl⟩ := leafEq_int k0
    obtain ⟨b', rfl, rfl⟩ := leafEq_int k1
    rw [repL_i2 hv, repL_i2 hu]
    show (Op.equalIn (9997 + 1 + 1 + 1) 25 _ _).run Tryd.prog W = _
    generalize 9997 = dd
    rw [run_equalIn_struct W _ _ _ _ (by kernel_rfl) (by kernel_rfl)]
    rw [show (Tryd.prog.fieldsOf 25).toList = [⟨ "Err", 23, 0, false, "", "", 0⟩, ⟨ "At", 3, 1, false, "", "", 8⟩] by kernel_rfl]
    have q3 : ∀ (n : Nat) (x y : Int), (Op.equalIn (n + 1) 3 (.int .i64 x) (.int .i64 y)).run Tryd.prog W = .ok (x == y) W := fun n x y => run_equalIn_int W n 3 .i64 .i64 x y Tryd.underlying3
    have q23 : ∀ (n : Nat) (x y : Int), (Op.equalIn (n + 1) 23 (.int .i64 x) (.int .i64 y)).run Tryd.prog W = .ok (x == y) W := fun n x y => run_equalIn_int W n 23 .i64 .i64 x y Tryd.underlying23
    simp [Op.eqFields, Sem.run_bind, part, run_isAgg_ty Tryd.underlying3, run_isAgg_ty Tryd.underlying23, tkOf, isAggK, q3, q23]
    cases ha : (a == a') <;> cases hb : (b == b') <;> simp_all
  · intro G W vs r hr hv
    rw [repL_i2 hv]
    rw [show (10000 : Nat) = 9997 + 1 + 1 + 1 from rfl]
    generalize 9997 = dd
    simp [Instr.checkKey, Sem.run_bind, run_underlying Tryd.underlying25, run_underlying Tryd.underlying3, run_underlying Tryd.underlying23, part, run_isAgg_ty Tryd.underlying3, run_isAgg_ty Tryd.underlying23, tkOf, isAggK]

theorem eq39 [Pin] {w : Ways} {xs : List AV} (h : fitsT (cfg w) 39 xs = true) : EqOk Tryd.prog 39 xs := by
  obtain ⟨a, b, c, d, rfl⟩ := fits39 h
  refine ⟨by kernel_rfl, ?_, ?_⟩
  · intro G W ys vs us r hr hv hu
    obtain ⟨y0, t0, q0, r0, rfl, k0, hr1, rfl⟩ := leavesEq_cons hr
    obtain ⟨y1, t1, q1, r1, rfl, k1, hr2, rfl⟩ := leavesEq_cons hr1
    obtain ⟨y2, t2, q2, r2, rfl, k2, hr3, rfl⟩ := leavesEq_cons hr2
    obtain ⟨y3, t3, q3, r3, rfl, k3, hr4, rfl⟩ := leavesEq_cons hr3
    obtain ⟨rfl, rfl⟩ := leavesEq_nil hr4
    obtain ⟨a', rfl, rfl⟩ := leafEq_int k0
    obtain ⟨b', rfl, rfl⟩ := leafEq_int k1
    obtain ⟨c', rfl, rfl⟩ := leafEq_int k2
    obtain ⟨d', rfl, rfl⟩ := leafEq_int k3
    rw [repL_i4 hv, repL_i4 hu]
    show (Op.equalIn (9997 + 1 + 1 + 1) 39 _ _).run Tryd.prog W = _
    generalize 9997 = dd
    rw [run_equalIn_struct W _ _ _ _ (by kernel_rfl) (by kernel_rfl)]
    rw [show (Tryd.prog.fieldsOf 39).toList = [⟨ "Op", 3, 0, false, "", "", 0⟩, ⟨ "X", 3, 1, false, "", "", 8⟩, ⟨ "Y", 3, 2, false, "", "", 16⟩, ⟨ "Z", 3, 3, false, "", "", 24⟩] by kernel_rfl]
    have q3 : ∀ (n : Nat) (x y : Int), (Op.equalIn (n + 1) 3 (.int .i64 x) (.int .i64 y)).run Tryd.prog W = .ok (x == y) W := fun n x y => run_equalIn_int W n 3 .i64 .i64 x y Tryd.underlying3
    simp [Op.eqFields, Sem.run_bind, part, run_isAgg_ty Tryd.underlying3, tkOf, isAggK, q3]
    cases ha : (a == a') <;> cases hb : (b == b') <;> cases hc : (c == c') <;> cases hd : (d == d') <;> simp_all
  · intro G W vs r hr hv
    rw [repL_i4 hv]
    rw [show (10000 : Nat) = 9997 + 1 + 1 + 1 from rfl]
    generalize 9997 = dd
    simp [Instr.checkKey, Sem.run_bind, run_underlying Tryd.underlying39, run_underlying Tryd.underlying3, part, run_isAgg_ty Tryd.underlying3, tkOf, isAggK]

/-! ### How the functions are called -/
def extV (f : FuncId) : Option XT := if f = 11 then some (.val printF) else if f = 26 then some (.push opsF) else if f = 27 then some (.val itoaF) else if f = 36 then some (.val idxF) else if f = 37 then some (.val atoiF) else none
def modeV (f : FuncId) : CM := if [18, 34, 45, 46, 47, 48, 49, 50, 51, 19, 20, 35].contains f then .raw else if [30, 43, 31].contains f then .temp else .pure
def vw : Ways := ⟨modeV, extV, fun f r => f == 20, fun t => t == 25 || t == 39⟩
theorem stdV : Std vw := by
  constructor <;> first | rfl | (exact fun f r h => by simpa [vw] using h) | (exact fun r => rfl)
theorem cfgOkV [Pin] (hv : VarsOk) : CfgOk Tryd.prog (cfg vw) where
  ty := fun t i h => by rw [cfgP_ty] at h; exact h
  fn := fun f g h => cfgP_fn h
  mixed := by kernel_rfl
  eqt := fun t xs h hf => by
    have : t = 25 ∨ t = 39 := by simpa [cfgP_eqt, vw] using h
    rcases this with rfl | rfl
    · exact eq25 hf
    · exact eq39 hf
  ext := fun f F h => by
    simp only [cfgP_ext, vw, extV] at h
    split at h
    · rename_i hf; subst hf; cases h; exact ext_print hv
    · split at h
      · rename_i hf; subst hf; cases h; exact ext_ops
      · split at h
        · rename_i hf; subst hf; cases h; exact ext_itoa hv
        · split at h
          · rename_i hf; subst hf; cases h; exact ext_idx
          · split at h
            · rename_i hf; subst hf; cases h; exact ext_atoi hv
            · cases h
end Go.Am.V
