/- HOW THE FUNCTIONS ARE CALLED. -/
import Derived.Test.YtbmfnoaogebjfaaDoorT10
import Derived.Test.YtbmfnoaogebjfaaDoorT11
import Derived.Laws.StructEq
set_option linter.unusedSimpArgs false
set_option linter.unusedVariables false
namespace Go.Am.R
open Go.Proofs

def modeA (f : FuncId) : CM := if [32, 33, 34, 35, 36, 38, 40, 44, 60, 61, 62, 63].contains f then .raw else .pure
def extA0 (f : FuncId) : Option XT := if f = 46 then some (.val keyF) else none
def extA (f : FuncId) : Option XT := if f = 46 then some (.val keyF) else if f = 60 then some (.push (cloneF 10 128)) else if f = 61 then some (.push (cloneF 1 8)) else none
def mutsA (f r : Nat) : Bool := [12, 13, 35, 60, 61, 62].contains f || (f == 34 && r == 25)
def vw0 : Ways := ⟨modeA, extA0, mutsA, fun t => t == 80⟩
def vw : Ways := ⟨modeA, extA, mutsA, fun t => t == 80⟩
theorem stdV0 : Std vw0 := by constructor <;> first | rfl | (exact fun r => rfl)
theorem stdV : Std vw := by constructor <;> first | rfl | (exact fun r => rfl)
end Go.Am.R

/- THE EXAMPLE, by the kernel. -/
set_option linter.unusedVariables false
namespace Go.Am.R
open Go.Proofs
theorem aw11 : ((run (cfg vw) 60).call 11 [] St.nil).map Prod.fst = some (.bool true) := by kernel_rfl
theorem awake11 : PC (cfg vw) 11 [] (.bool true) := by
  have h := aw11
  simp only [Option.map_eq_some_iff] at h
  obtain ⟨⟨r, S⟩, h1, h2⟩ := h
  refine PC_of (args' := []) stdV.e11 stdV.m11 rfl ⟨r, S, lim_of_run h1, ?_⟩
  simp only at h2
  subst h2
  exact FZ_bool
end Go.Am.R

/- WHAT IS COMPARED; slices.Clone AS IT IS GIVEN. -/
set_option linter.unusedSimpArgs false
set_option linter.unusedVariables false
set_option maxRecDepth 20000
namespace Go.Am.R
open Go.Proofs Go.RowKit

theorem fits80' {w : Ways} {xs : List AV} (h : fitsT (cfg w) 80 xs = true) : ∃ a b c d e f g, xs = [.str a, .str b, .bool c, .int .i64 d, .int .i64 e, .int .i64 f, .str g] := by
  unfold fitsT at h
  rw [Tc80] at h
  simp only at h
  obtain ⟨x0, t0, rfl, k0, h⟩ := sameLeaves_cons h
  obtain ⟨x1, t1, rfl, k1, h⟩ := sameLeaves_cons h
  obtain ⟨x2, t2, rfl, k2, h⟩ := sameLeaves_cons h
  obtain ⟨x3, t3, rfl, k3, h⟩ := sameLeaves_cons h
  obtain ⟨x4, t4, rfl, k4, h⟩ := sameLeaves_cons h
  obtain ⟨x5, t5, rfl, k5, h⟩ := sameLeaves_cons h
  obtain ⟨x6, t6, rfl, k6, h⟩ := sameLeaves_cons h
  obtain rfl := sameLeaves_nil h
  obtain ⟨a, rfl⟩ := sameLeaf_str k0
  obtain ⟨b, rfl⟩ := sameLeaf_str k1
  obtain ⟨c, rfl⟩ := sameLeaf_bool k2
  obtain ⟨d, rfl⟩ := sameLeaf_int k3
  obtain ⟨e, rfl⟩ := sameLeaf_int k4
  obtain ⟨f, rfl⟩ := sameLeaf_int k5
  obtain ⟨g, rfl⟩ := sameLeaf_str k6
  exact ⟨a, b, c, d, e, f, g, rfl⟩
theorem repL_cells {G : Gh} {w : World} {a : List UInt8} {b : List UInt8} {c : Bool} {d : Int} {e : Int} {f : Int} {g : List UInt8} {vs : Array Value} (h : RepL G w [.str a, .str b, .bool c, .int .i64 d, .int .i64 e, .int .i64 f, .str g] vs.toList) :
    vs = #[.string ⟨a.toArray⟩, .string ⟨b.toArray⟩, .bool c, .int .i64 d, .int .i64 e, .int .i64 f, .string ⟨g.toArray⟩] := by
  obtain ⟨v0, l0, h0, r0, h⟩ := h.uncons
  obtain ⟨v1, l1, rfl, r1, h⟩ := h.uncons
  obtain ⟨v2, l2, rfl, r2, h⟩ := h.uncons
  obtain ⟨v3, l3, rfl, r3, h⟩ := h.uncons
  obtain ⟨v4, l4, rfl, r4, h⟩ := h.uncons
  obtain ⟨v5, l5, rfl, r5, h⟩ := h.uncons
  obtain ⟨v6, l6, rfl, r6, h⟩ := h.uncons
  obtain rfl := h.nil_inv
  rw [arr_eq h0, rep_str r0, rep_str r1, rep_bool r2, rep_int r3, rep_int r4, rep_int r5, rep_str r6]

theorem eq80 [Pin] {w : Ways} {xs : List AV} (h : fitsT (cfg w) 80 xs = true) : EqOk Tryd.prog 80 xs := by
  obtain ⟨a, b, c, d, e, f, g, rfl⟩ := fits80' h
  refine ⟨by kernel_rfl, ?_, ?_⟩
  · intro G W ys vs us r hr hv hu
    obtain ⟨y0, t0, q0, r0, rfl, k0, hr1, rfl⟩ := leavesEq_cons hr
    clear hr
    obtain ⟨y1, t1, q1, r1, rfl, k1, hr2, rfl⟩ := leavesEq_cons hr1
    clear hr1
    obtain ⟨y2, t2, q2, r2, rfl, k2, hr3, rfl⟩ := leavesEq_cons hr2
    clear hr2
    obtain ⟨y3, t3, q3, r3, rfl, k3, hr4, rfl⟩ := leavesEq_cons hr3
    clear hr3
    obtain ⟨y4, t4, q4, r4, rfl, k4, hr5, rfl⟩ := leavesEq_cons hr4
    clear hr4
    obtain ⟨y5, t5, q5, r5, rfl, k5, hr6, rfl⟩ := leavesEq_cons hr5
    clear hr5
    obtain ⟨y6, t6, q6, r6, rfl, k6, hr7, rfl⟩ := leavesEq_cons hr6
    clear hr6
    obtain ⟨rfl, rfl⟩ := leavesEq_nil hr7
    obtain ⟨a', rfl, rfl⟩ := leafEq_str k0
    obtain ⟨b', rfl, rfl⟩ := leafEq_str k1
    obtain ⟨c', rfl, rfl⟩ := leafEq_bool k2
    obtain ⟨d', rfl, rfl⟩ := leafEq_int k3
    obtain ⟨e', rfl, rfl⟩ := leafEq_int k4
    obtain ⟨f', rfl, rfl⟩ := leafEq_int k5
    obtain ⟨g', rfl, rfl⟩ := leafEq_str k6
    rw [repL_cells hv, repL_cells hu]
    show (Op.equalIn (9997 + 1 + 1 + 1) 80 _ _).run Tryd.prog W = _
    generalize 9997 = dd
    rw [run_equalIn_struct W _ _ _ _ (by kernel_rfl) (by kernel_rfl)]
    rw [show (Tryd.prog.fieldsOf 80).toList = [⟨ "kind", 9, 0, false, "", "bramble/arena", 0⟩, ⟨ "field", 9, 1, false, "", "bramble/arena", 16⟩, ⟨ "named", 4, 2, false, "", "bramble/arena", 32⟩, ⟨ "from", 3, 3, false, "", "bramble/arena", 40⟩, ⟨ "to", 3, 4, false, "", "bramble/arena", 48⟩, ⟨ "bad", 3, 5, false, "", "bramble/arena", 56⟩, ⟨ "kids", 9, 6, false, "", "bramble/arena", 64⟩] by kernel_rfl]
    have q3 : ∀ (n : Nat) (x y : Int), (Op.equalIn (n + 1) 3 (.int .i64 x) (.int .i64 y)).run Tryd.prog W = .ok (x == y) W := fun n x y => run_equalIn_int W n 3 .i64 .i64 x y Tryd.underlying3
    have q4 : ∀ (n : Nat) (x y : Bool), (Op.equalIn (n + 1) 4 (.bool x) (.bool y)).run Tryd.prog W = .ok (x == y) W := fun n x y => run_equalIn_bool' W n 4 x y Tryd.underlying4
    have q9 : ∀ (n : Nat) (x y : ByteArray), (Op.equalIn (n + 1) 9 (.string x) (.string y)).run Tryd.prog W = .ok (x.toList == y.toList) W := fun n x y => run_equalIn_string W n 9 x y Tryd.underlying9
    simp [Op.eqFields, Sem.run_bind, part, run_isAgg_ty Tryd.underlying3, run_isAgg_ty Tryd.underlying4, run_isAgg_ty Tryd.underlying9, tkOf, isAggK, q3, q4, q9, str_toList]
    cases ha : (a == a') <;> cases hb : (b == b') <;> cases hc : (c == c') <;> cases hd : (d == d') <;> cases he : (e == e') <;> cases hf : (f == f') <;> by_cases hg : g = g' <;> simp_all
  · intro G W vs r hr hv
    rw [repL_cells hv]
    rw [show (10000 : Nat) = 9997 + 1 + 1 + 1 from rfl]
    generalize 9997 = dd
    simp [Instr.checkKey, Sem.run_bind, run_underlying Tryd.underlying80, run_underlying Tryd.underlying3, run_underlying Tryd.underlying4, run_underlying Tryd.underlying9, part, run_isAgg_ty Tryd.underlying3, run_isAgg_ty Tryd.underlying4, run_isAgg_ty Tryd.underlying9, tkOf, isAggK]
end Go.Am.R

/- slices.Clone AS IT IS GIVEN; THE MACHINE IS SOUND. -/
set_option linter.unusedSimpArgs false
set_option linter.unusedVariables false
set_option maxRecDepth 20000
namespace Go.Am.R
open Go.Proofs Go.RowKit

variable [Pin]

theorem cfgOk0 (hk : ExtOk Tryd.prog 46 (.val keyF)) : CfgOk Tryd.prog (cfg vw0) where
  ty := fun t i h => by rw [cfgP_ty] at h; exact h
  fn := fun f g h => cfgP_fn h
  mixed := by kernel_rfl
  eqt := fun t xs h hf => by
    have : t = 80 := by simpa [cfgP_eqt, vw0] using h
    subst this
    exact eq80 hf
  ext := fun f F h => by
    rw [cfgP_ext] at h
    have h' : extA0 f = some F := h
    unfold extA0 at h'
    split at h'
    · rename_i hf; subst hf; cases h'; exact hk
    · cases h'

theorem push_dead {G : Gh} {S : St} {w : World} (h : Wrel G S w) : Wrel G (S.push .dead) w ∧ Step G S w G (S.push .dead) w :=
  push_step h ⟨Nat.le_refl _, rfl, rfl, rfl, fun _ _ => rfl⟩ (.refl G) (fun o b hb => .inl hb) (fun b b' h1 h2 => h.fblk _ _ _ h1 h2) (fun o g s hs => .inl hs) (fun g s s' h1 h2 => h.fseg _ _ _ _ h1 h2) (fun b f hi => .inl hi) (fun b hb => hb.elim) trivial
omit [Pin] in
theorem rep_empty {G : Gh} {W : World} {v : Value} (h : Rep G W (.vec []) v) : Rep G W .nils v ∨ Rep G W .emp v := by
  cases h with
  | vec0 a cap h0 =>
    cases a with
    | none => rw [h0 rfl]; exact .inl .nils
    | some a => exact .inr (.emp _ _)
  | vec _ es b p cap => exact .inr (.emp _ _)

theorem ext_clone (h0 : CfgOk Tryd.prog (cfg vw0)) {f es bytes : Nat} (h1 : ∀ S, (lim (cfg vw0)).call f [.nils] S = some (.nils, S)) (h2 : ∀ S, (lim (cfg vw0)).call f [.emp] S = some (.lit [], S))
    (h3 : ∀ (r : List AV) (rs : Rows), headOk es (r :: rs) = true → capOk (rs.length + 1) bytes = true → ∀ S, (lim (cfg vw0)).call f [.vec (r :: rs)] S = some (.sref S.n 0 0 (rs.length + 1), S.push (.seq 0 es (r :: rs) 0))) : ExtOk Tryd.prog f (.push (cloneF es bytes)) := by
  intro G S S' W args vs r hr hW hv
  simp only [XT.run, Option.map_eq_some_iff, Prod.mk.injEq] at hr
  obtain ⟨⟨r', o⟩, hc, rfl, rfl⟩ := hr
  unfold cloneF at hc
  split at hc
  · cases hc
    obtain ⟨v, l, hvl, hrv, hl⟩ := hv.uncons
    obtain rfl := hl.nil_inv
    have fin : ∀ (y z : AV), Rep G W y v → (lim (cfg vw0)).call f [y] S = some (z, S) → (∀ G' W' u, Rep G' W' z u → Rep G' W' (.lit []) u) →
        (callFunc f vs).run Tryd.prog W = .ok (.enter f vs) W ∧ Calls Tryd.prog f vs W fun e w' => ∃ G' u, e = .returned u ∧ Wrel G' (S.push .dead) w' ∧ Step G S W G' (S.push .dead) w' ∧ Rep G' w' (.lit []) u := by
      intro y z hy hcall hz
      obtain ⟨c1, c2⟩ := lim_sound h0 hcall G W vs hW (by rw [hvl]; exact .cons hy (.nil _ _))
      refine ⟨c1, c2.mono fun e w' ⟨G', u, he, hW', hst, hu⟩ => ?_⟩
      obtain ⟨k1, k2⟩ := push_dead hW'
      exact ⟨G', u, he, k1, hst.trans k2, hz _ _ _ hu⟩
    rcases rep_empty hrv with h | h
    · exact fin _ _ h (h1 S) fun G' W' u hu => by cases hu; exact .lit0 _
    · exact fin _ _ h (h2 S) fun G' W' u hu => hu
  · rename_i r rs
    split at hc
    · rename_i hq
      cases hc
      obtain ⟨c1, c2⟩ := lim_sound h0 (h3 r rs hq.1 hq.2 S) G W vs hW hv
      exact ⟨c1, c2⟩
    · cases hc
  · cases hc

theorem cfgOkA (hk : ExtOk Tryd.prog 46 (.val keyF)) : CfgOk Tryd.prog (cfg vw) where
  ty := fun t i h => by rw [cfgP_ty] at h; exact h
  fn := fun f g h => cfgP_fn h
  mixed := by kernel_rfl
  eqt := fun t xs h hf => by
    have : t = 80 := by simpa [cfgP_eqt, vw] using h
    subst this
    exact eq80 hf
  ext := fun f F h => by
    rw [cfgP_ext] at h
    have h' : extA f = some F := h
    unfold extA at h'
    split at h'
    · rename_i hf; subst hf; cases h'; exact hk
    · split at h'
      · rename_i hf; subst hf; cases h'
        exact ext_clone (cfgOk0 hk) (fun S => clone60_nils S stdV0) (fun S => clone60_emp S stdV0) (fun r rs a b S => clone60_cons stdV0 r rs a b S)
      · split at h'
        · rename_i hf; subst hf; cases h'
          exact ext_clone (cfgOk0 hk) (fun S => clone61_nils S stdV0) (fun S => clone61_emp S stdV0) (fun r rs a b S => clone61_cons stdV0 r rs a b S)
        · cases h'
end Go.Am.R

