/- cursor.with, ITS ROW ONE'S OWN; THE MACHINE IS SOUND WITH IT. -/
import Derived.Test.YtghpjjhdbankhaaD0
set_option linter.unusedSimpArgs false
set_option linter.unusedVariables false
set_option maxRecDepth 20000
namespace Go.Am.B
open Go.Proofs Go.IntWalk Go.RowKit

section
variable {w : Ways}
theorem cl2_nils (S : St) : (lim (cfg w)).call 77 [.nils] S = some (.nils, S) := clone77_nils S
theorem cl2_emp (S : St) : (lim (cfg w)).call 77 [.emp] S = some (.lit [], S) := clone77_emp S
theorem cl2_cons (hm : w.muts 77 3 = true) (r0 : List AV) (rs : Rows) (h0 : (r0.length == 1) = true) (S : St) (hl : rs.length ≤ 17592186044410) : (lim (cfg w)).call 77 [.vec (r0 :: rs)] S = some (.sref S.n 0 0 (rs.length + 1), S.push (.seq 0 1 (r0 :: rs) 0)) := by
  have hl2 : (rs.length + 1 + (rs.length + 1) / 4 + 1000) * 8 ≤ 281474976710656 := by omega
  refine call_eq_of ?_
  refine call_of_W (fn77 w) rfl ?_
  simp only [Try.f77, List.length_cons, List.length_nil, ↓reduceIte, Int.reduceLT, Int.reduceLE, Int.reduceAdd, Int.reduceSub, Int.reduceNeg, Int.reduceMul, Int.reduceToNat, Int.reduceEq, Int.reduceNe, Int.reduceGT, Int.reduceGE, Nat.reducePow, IntKind.bits, Nat.reduceAdd, Nat.reduceSub, List.cons_append, List.nil_append]
  repeat with_reducible (first | refine E0 ?_ | refine E1 ?_ | refine E2 ?_ | refine E3 ?_ | refine E4 ?_ | refine E5 (by decide) ?_ | refine E6 ?_ | refine E7 ?_ | refine E8 ?_ | refine E9 ?_ | refine Ea ?_ | refine Eb ?_ | refine Ec ?_ | refine Ed ?_)
  refine W_region fun K hK => ?_
  simp only [KA, KB, KP, KQ, reduceCtorEq, ↓reduceIte, Int.reduceLT, Int.reduceLE, Int.reduceAdd, Int.reduceSub, Int.reduceNeg, Int.reduceMul, Int.reduceToNat, Int.reduceEq, Int.reduceNe, Int.reduceGT, Int.reduceGE, Nat.reducePow, Nat.reduceAdd, Nat.reduceSub, Nat.reduceLT, Nat.reduceMul, Nat.reduceDiv, Nat.reduceEqDiff, Nat.reduceLeDiff, KT w]
  refine hK _ _ ?_
  clear hK
  clear K
  repeat with_reducible (first | refine E0 ?_ | refine E1 ?_ | refine E2 ?_ | refine E3 ?_ | refine E4 ?_ | refine E5 (by decide) ?_ | refine E6 ?_ | refine E7 ?_ | refine E8 ?_ | refine E9 ?_ | refine Ea ?_ | refine Eb ?_ | refine Ec ?_ | refine Ed ?_)
  refine W_region fun K hK => ?_
  simp only [KA, KB, KP, KQ, reduceCtorEq, ↓reduceIte, Int.reduceLT, Int.reduceLE, Int.reduceAdd, Int.reduceSub, Int.reduceNeg, Int.reduceMul, Int.reduceToNat, Int.reduceEq, Int.reduceNe, Int.reduceGT, Int.reduceGE, Nat.reducePow, Nat.reduceAdd, Nat.reduceSub, Nat.reduceLT, Nat.reduceMul, Nat.reduceDiv, Nat.reduceEqDiff, Nat.reduceLeDiff, KT w]
  refine hK _ _ ?_
  clear hK
  clear K
  repeat with_reducible (first | refine E0 ?_ | refine E1 ?_ | refine E2 ?_ | refine E3 ?_ | refine E4 ?_ | refine E5 (by decide) ?_ | refine E6 ?_ | refine E7 ?_ | refine E8 ?_ | refine E9 ?_ | refine Ea ?_ | refine Eb ?_ | refine Ec ?_ | refine Ed ?_)
  refine W_condF (by simp only [KA, KP, KQ, reduceCtorEq, ↓reduceIte, Int.reduceLT, Int.reduceLE, Int.reduceAdd, Int.reduceSub, Int.reduceNeg, Int.reduceMul, Int.reduceToNat, Int.reduceEq, Int.reduceNe, Int.reduceGT, Int.reduceGE, Nat.reducePow, Nat.reduceAdd, Nat.reduceSub, Nat.reduceLT, Nat.reduceMul, Nat.reduceDiv, Nat.reduceEqDiff, Nat.reduceLeDiff, KT w]) ?_
  repeat with_reducible (first | refine E0 ?_ | refine E1 ?_ | refine E2 ?_ | refine E3 ?_ | refine E4 ?_ | refine E5 (by decide) ?_ | refine E6 ?_ | refine E7 ?_ | refine E8 ?_ | refine E9 ?_ | refine Ea ?_ | refine Eb ?_ | refine Ec ?_ | refine Ed ?_)
  refine W_region fun K hK => ?_
  simp only [KA, KB, KP, KQ, reduceCtorEq, ↓reduceIte, Int.reduceLT, Int.reduceLE, Int.reduceAdd, Int.reduceSub, Int.reduceNeg, Int.reduceMul, Int.reduceToNat, Int.reduceEq, Int.reduceNe, Int.reduceGT, Int.reduceGE, Nat.reducePow, Nat.reduceAdd, Nat.reduceSub, Nat.reduceLT, Nat.reduceMul, Nat.reduceDiv, Nat.reduceEqDiff, Nat.reduceLeDiff, KT w, h0, hl2, hm]
  refine hK _ _ ?_
  clear hK
  clear K
  repeat with_reducible (first | refine E0 ?_ | refine E1 ?_ | refine E2 ?_ | refine E3 ?_ | refine E4 ?_ | refine E5 (by decide) ?_ | refine E6 ?_ | refine E7 ?_ | refine E8 ?_ | refine E9 ?_ | refine Ea ?_ | refine Eb ?_ | refine Ec ?_ | refine Ed ?_)
  refine AtEnd_of rfl ?_
  simp only [KA, KP, KQ, reduceCtorEq, ↓reduceIte, Int.reduceLT, Int.reduceLE, Int.reduceAdd, Int.reduceSub, Int.reduceNeg, Int.reduceMul, Int.reduceToNat, Int.reduceEq, Int.reduceNe, Int.reduceGT, Int.reduceGE, Nat.reducePow, Nat.reduceAdd, Nat.reduceSub, Nat.reduceLT, Nat.reduceMul, Nat.reduceDiv, Nat.reduceEqDiff, Nat.reduceLeDiff, KT w, RS_some, aresults_nil, aresults_tmp, aresults_cell, one]

theorem with2_nils (hw : TwoA w) (k : Int) (S : St) : (lim (cfg w)).call 75 [.nils, .int .i64 k] S = some (.sref S.n 0 0 1, S.push (.seq 0 1 [[.int .i64 k]] 0)) := by
  have h := cl2_nils (w := w) S
  rw [← callF_raw (c := cfg w) (by rw [cfgP_ext]; exact hw.KF.2.2.2.1) (by rw [cfgP_mode]; exact hw.KF.2.1)] at h
  refine call_eq_of ?_
  refine call_of_W (fn75 w) rfl ?_
  simp only [Try.f75, List.length_cons, List.length_nil, ↓reduceIte, Int.reduceLT, Int.reduceLE, Int.reduceAdd, Int.reduceSub, Int.reduceNeg, Int.reduceMul, Int.reduceToNat, Int.reduceEq, Int.reduceNe, Int.reduceGT, Int.reduceGE, Nat.reducePow, IntKind.bits, Nat.reduceAdd, Nat.reduceSub, List.cons_append, List.nil_append]
  repeat with_reducible (first | refine E0 ?_ | refine E1 ?_ | refine E2 ?_ | refine E3 ?_ | refine E4 ?_ | refine E5 (by decide) ?_ | refine E6 ?_ | refine E7 ?_ | refine E8 ?_ | refine E9 ?_ | refine Ea ?_ | refine Eb ?_ | refine Ec ?_ | refine Ed ?_)
  refine W_region fun K hK => ?_
  simp only [KA, KB, KP, KQ, reduceCtorEq, ↓reduceIte, Int.reduceLT, Int.reduceLE, Int.reduceAdd, Int.reduceSub, Int.reduceNeg, Int.reduceMul, Int.reduceToNat, Int.reduceEq, Int.reduceNe, Int.reduceGT, Int.reduceGE, Nat.reducePow, Nat.reduceAdd, Nat.reduceSub, Nat.reduceLT, Nat.reduceMul, Nat.reduceDiv, Nat.reduceEqDiff, Nat.reduceLeDiff, KT w, hw.KF]
  refine hK _ _ ?_
  clear hK
  clear K
  repeat with_reducible (first | refine E0 ?_ | refine E1 ?_ | refine E2 ?_ | refine E3 ?_ | refine E4 ?_ | refine E5 (by decide) ?_ | refine E6 ?_ | refine E7 ?_ | refine E8 ?_ | refine E9 ?_ | refine Ea ?_ | refine Eb ?_ | refine Ec ?_ | refine Ed ?_)
  refine W_region fun K hK => ?_
  simp only [KA, KB, KP, KQ, reduceCtorEq, ↓reduceIte, Int.reduceLT, Int.reduceLE, Int.reduceAdd, Int.reduceSub, Int.reduceNeg, Int.reduceMul, Int.reduceToNat, Int.reduceEq, Int.reduceNe, Int.reduceGT, Int.reduceGE, Nat.reducePow, Nat.reduceAdd, Nat.reduceSub, Nat.reduceLT, Nat.reduceMul, Nat.reduceDiv, Nat.reduceEqDiff, Nat.reduceLeDiff, KT w, hw.KF, h]
  refine hK _ _ ?_
  clear hK
  clear K
  repeat with_reducible (first | refine E0 ?_ | refine E1 ?_ | refine E2 ?_ | refine E3 ?_ | refine E4 ?_ | refine E5 (by decide) ?_ | refine E6 ?_ | refine E7 ?_ | refine E8 ?_ | refine E9 ?_ | refine Ea ?_ | refine Eb ?_ | refine Ec ?_ | refine Ed ?_)
  refine AtEnd_of rfl ?_
  simp only [KA, KP, KQ, reduceCtorEq, ↓reduceIte, Int.reduceLT, Int.reduceLE, Int.reduceAdd, Int.reduceSub, Int.reduceNeg, Int.reduceMul, Int.reduceToNat, Int.reduceEq, Int.reduceNe, Int.reduceGT, Int.reduceGE, Nat.reducePow, Nat.reduceAdd, Nat.reduceSub, Nat.reduceLT, Nat.reduceMul, Nat.reduceDiv, Nat.reduceEqDiff, Nat.reduceLeDiff, KT w, hw.KF, RS_some, aresults_nil, aresults_tmp, aresults_cell, one]
theorem with2_emp (hw : TwoA w) (k : Int) (S : St) : (lim (cfg w)).call 75 [.emp, .int .i64 k] S = some (.sref S.n 0 0 1, S.push (.seq 0 1 [[.int .i64 k]] 0)) := by
  have h := cl2_emp (w := w) S
  rw [← callF_raw (c := cfg w) (by rw [cfgP_ext]; exact hw.KF.2.2.2.1) (by rw [cfgP_mode]; exact hw.KF.2.1)] at h
  refine call_eq_of ?_
  refine call_of_W (fn75 w) rfl ?_
  simp only [Try.f75, List.length_cons, List.length_nil, ↓reduceIte, Int.reduceLT, Int.reduceLE, Int.reduceAdd, Int.reduceSub, Int.reduceNeg, Int.reduceMul, Int.reduceToNat, Int.reduceEq, Int.reduceNe, Int.reduceGT, Int.reduceGE, Nat.reducePow, IntKind.bits, Nat.reduceAdd, Nat.reduceSub, List.cons_append, List.nil_append]
  repeat with_reducible (first | refine E0 ?_ | refine E1 ?_ | refine E2 ?_ | refine E3 ?_ | refine E4 ?_ | refine E5 (by decide) ?_ | refine E6 ?_ | refine E7 ?_ | refine E8 ?_ | refine E9 ?_ | refine Ea ?_ | refine Eb ?_ | refine Ec ?_ | refine Ed ?_)
  refine W_region fun K hK => ?_
  simp only [KA, KB, KP, KQ, reduceCtorEq, ↓reduceIte, Int.reduceLT, Int.reduceLE, Int.reduceAdd, Int.reduceSub, Int.reduceNeg, Int.reduceMul, Int.reduceToNat, Int.reduceEq, Int.reduceNe, Int.reduceGT, Int.reduceGE, Nat.reducePow, Nat.reduceAdd, Nat.reduceSub, Nat.reduceLT, Nat.reduceMul, Nat.reduceDiv, Nat.reduceEqDiff, Nat.reduceLeDiff, KT w, hw.KF]
  refine hK _ _ ?_
  clear hK
  clear K
  repeat with_reducible (first | refine E0 ?_ | refine E1 ?_ | refine E2 ?_ | refine E3 ?_ | refine E4 ?_ | refine E5 (by decide) ?_ | refine E6 ?_ | refine E7 ?_ | refine E8 ?_ | refine E9 ?_ | refine Ea ?_ | refine Eb ?_ | refine Ec ?_ | refine Ed ?_)
  refine W_region fun K hK => ?_
  simp only [KA, KB, KP, KQ, reduceCtorEq, ↓reduceIte, Int.reduceLT, Int.reduceLE, Int.reduceAdd, Int.reduceSub, Int.reduceNeg, Int.reduceMul, Int.reduceToNat, Int.reduceEq, Int.reduceNe, Int.reduceGT, Int.reduceGE, Nat.reducePow, Nat.reduceAdd, Nat.reduceSub, Nat.reduceLT, Nat.reduceMul, Nat.reduceDiv, Nat.reduceEqDiff, Nat.reduceLeDiff, KT w, hw.KF, h]
  refine hK _ _ ?_
  clear hK
  clear K
  repeat with_reducible (first | refine E0 ?_ | refine E1 ?_ | refine E2 ?_ | refine E3 ?_ | refine E4 ?_ | refine E5 (by decide) ?_ | refine E6 ?_ | refine E7 ?_ | refine E8 ?_ | refine E9 ?_ | refine Ea ?_ | refine Eb ?_ | refine Ec ?_ | refine Ed ?_)
  refine AtEnd_of rfl ?_
  simp only [KA, KP, KQ, reduceCtorEq, ↓reduceIte, Int.reduceLT, Int.reduceLE, Int.reduceAdd, Int.reduceSub, Int.reduceNeg, Int.reduceMul, Int.reduceToNat, Int.reduceEq, Int.reduceNe, Int.reduceGT, Int.reduceGE, Nat.reducePow, Nat.reduceAdd, Nat.reduceSub, Nat.reduceLT, Nat.reduceMul, Nat.reduceDiv, Nat.reduceEqDiff, Nat.reduceLeDiff, KT w, hw.KF, RS_some, aresults_nil, aresults_tmp, aresults_cell, one]
theorem with2_cons (hw : TwoA w) (r0 : List AV) (rs : Rows) (k : Int) (h0 : (r0.length == 1) = true) (S : St) (hS : S.ok) (hb : S.base ≤ S.n) (hl : rs.length ≤ 17592186044400) : (lim (cfg w)).call 75 [.vec (r0 :: rs), .int .i64 k] S = some (.sref S.n 1 0 (rs.length + 2), S.push (.seq 1 1 (r0 :: rs ++ [[.int .i64 k]]) 0)) := by
  have hl2 : (rs.length + 1 + 1 + (rs.length + 1 + 1) / 4 + 1000) * 8 ≤ 281474976710656 := by omega
  have h := cl2_cons (w := w) (by rw [hw.e]; rfl) r0 rs h0 S (by omega)
  rw [← callF_raw (c := cfg w) (by rw [cfgP_ext]; exact hw.KF.2.2.2.1) (by rw [cfgP_mode]; exact hw.KF.2.1)] at h
  refine call_eq_of ?_
  refine call_of_W (fn75 w) rfl ?_
  simp only [Try.f75, List.length_cons, List.length_nil, ↓reduceIte, Int.reduceLT, Int.reduceLE, Int.reduceAdd, Int.reduceSub, Int.reduceNeg, Int.reduceMul, Int.reduceToNat, Int.reduceEq, Int.reduceNe, Int.reduceGT, Int.reduceGE, Nat.reducePow, IntKind.bits, Nat.reduceAdd, Nat.reduceSub, List.cons_append, List.nil_append]
  repeat with_reducible (first | refine E0 ?_ | refine E1 ?_ | refine E2 ?_ | refine E3 ?_ | refine E4 ?_ | refine E5 (by decide) ?_ | refine E6 ?_ | refine E7 ?_ | refine E8 ?_ | refine E9 ?_ | refine Ea ?_ | refine Eb ?_ | refine Ec ?_ | refine Ed ?_)
  refine W_region fun K hK => ?_
  simp only [KA, KB, KP, KQ, reduceCtorEq, ↓reduceIte, Int.reduceLT, Int.reduceLE, Int.reduceAdd, Int.reduceSub, Int.reduceNeg, Int.reduceMul, Int.reduceToNat, Int.reduceEq, Int.reduceNe, Int.reduceGT, Int.reduceGE, Nat.reducePow, Nat.reduceAdd, Nat.reduceSub, Nat.reduceLT, Nat.reduceMul, Nat.reduceDiv, Nat.reduceEqDiff, Nat.reduceLeDiff, KT w, hw.KF]
  refine hK _ _ ?_
  clear hK
  clear K
  repeat with_reducible (first | refine E0 ?_ | refine E1 ?_ | refine E2 ?_ | refine E3 ?_ | refine E4 ?_ | refine E5 (by decide) ?_ | refine E6 ?_ | refine E7 ?_ | refine E8 ?_ | refine E9 ?_ | refine Ea ?_ | refine Eb ?_ | refine Ec ?_ | refine Ed ?_)
  refine W_region fun K hK => ?_
  simp only [KA, KB, KP, KQ, reduceCtorEq, ↓reduceIte, Int.reduceLT, Int.reduceLE, Int.reduceAdd, Int.reduceSub, Int.reduceNeg, Int.reduceMul, Int.reduceToNat, Int.reduceEq, Int.reduceNe, Int.reduceGT, Int.reduceGE, Nat.reducePow, Nat.reduceAdd, Nat.reduceSub, Nat.reduceLT, Nat.reduceMul, Nat.reduceDiv, Nat.reduceEqDiff, Nat.reduceLeDiff, KT w, hw.KF, h, hb, hl2, hS]
  refine hK _ _ ?_
  clear hK
  clear K
  repeat with_reducible (first | refine E0 ?_ | refine E1 ?_ | refine E2 ?_ | refine E3 ?_ | refine E4 ?_ | refine E5 (by decide) ?_ | refine E6 ?_ | refine E7 ?_ | refine E8 ?_ | refine E9 ?_ | refine Ea ?_ | refine Eb ?_ | refine Ec ?_ | refine Ed ?_)
  refine AtEnd_of rfl ?_
  simp only [KA, KP, KQ, reduceCtorEq, ↓reduceIte, Int.reduceLT, Int.reduceLE, Int.reduceAdd, Int.reduceSub, Int.reduceNeg, Int.reduceMul, Int.reduceToNat, Int.reduceEq, Int.reduceNe, Int.reduceGT, Int.reduceGE, Nat.reducePow, Nat.reduceAdd, Nat.reduceSub, Nat.reduceLT, Nat.reduceMul, Nat.reduceDiv, Nat.reduceEqDiff, Nat.reduceLeDiff, KT w, hw.KF, RS_some, aresults_nil, aresults_tmp, aresults_cell, one]
end

theorem ext_with : ExtOk Try.prog 75 (.push withE) := by
  intro G S S' W args vs r hr hW hv
  have hargs : ∃ rows k, args = [.vec rows, .int .i64 k] ∧ headOk 1 rows = true ∧ rows.length ≤ 17592186044400 ∧ r = .sref S.n (if rows.isEmpty then 0 else 1) 0 (rows.length + 1) ∧ S' = S.push (.seq (if rows.isEmpty then 0 else 1) 1 (rows ++ [[.int .i64 k]]) 0) := by
    simp only [XT.run, Option.map_eq_some_iff, Prod.mk.injEq] at hr
    obtain ⟨⟨r', o⟩, hc, rfl, rfl⟩ := hr
    unfold withE at hc
    split at hc
    · rename_i rows k
      split at hc
      · rename_i hq
        simp only [Option.some.injEq, Prod.mk.injEq] at hc
        obtain ⟨rfl, rfl⟩ := hc
        exact ⟨rows, k, rfl, hq.1, hq.2, rfl, rfl⟩
      · simp at hc
    · simp at hc
  obtain ⟨rows, k, rfl, hhd, hl, rfl, rfl⟩ := hargs
  have hsok : S.ok := hW.len
  have hsb : S.base ≤ S.n := hW.base
  obtain ⟨v, l, hvl, hrv, hl1⟩ := hv.uncons
  obtain ⟨u, l2, rfl, hru, hl2⟩ := hl1.uncons
  obtain rfl := hl2.nil_inv
  have fin : ∀ (y z : AV) (S2 : St), Rep G W y v → (lim (cfg w2a)).call 75 [y, .int .i64 k] S = some (z, S2) →
      (callFunc 75 vs).run Try.prog W = .ok (.enter 75 vs) W ∧ Calls Try.prog 75 vs W fun e w' => ∃ G' u, e = .returned u ∧ Wrel G' S2 w' ∧ Step G S W G' S2 w' ∧ Rep G' w' z u := by
    intro y z S2 hy hcall
    exact lim_sound cfgOk2a hcall G W vs hW (by rw [hvl]; exact .cons hy (.cons hru (.nil _ _)))
  cases rows with
  | nil =>
    rcases rep_empty (.inl rfl) hrv with h | h
    · exact fin _ _ _ h (with2_nils ⟨rfl⟩ k S)
    · exact fin _ _ _ h (with2_emp ⟨rfl⟩ k S)
  | cons r0 rs =>
    simp only [headOk] at hhd
    exact fin _ _ _ hrv (with2_cons ⟨rfl⟩ r0 rs k hhd S hsok hsb (by simp at hl; omega))

theorem cfgOk2 : CfgOk Try.prog (cfg w2) where
  ty := fun t i h => by rw [cfgP_ty] at h; exact h
  fn := fun f g h => cfgP_fn h
  mixed := by kernel_rfl
  eqt := fun t xs h hf => by
    have : t = 29 := by simpa [cfgP_eqt, w2] using h
    subst this
    exact eq29 hf
  ext := fun f F h => by
    rw [cfgP_ext] at h
    have h' : ext2 f = some F := h
    unfold ext2 at h'
    split at h'
    · rename_i hf
      simp only [Option.some.injEq] at h'
      subst h' hf
      exact ext_clone clone77_nils clone77_emp
    · split at h'
      · rename_i hf
        simp only [Option.some.injEq] at h'
        subst h' hf
        exact ext_with
      · split at h'
        · rename_i hf
          simp only [Option.some.injEq] at h'
          subst h' hf
          refine ext_val cfgOk1 fun a v h => ?_
          unfold awE at h
          split at h
          · simp only [Option.some.injEq] at h
            subst h
            exact awake27_ok
          · simp at h
        · simp at h'

/-- The ways of the next texts. -/
structure Two (w : Ways) : Prop where
  e : w = w2
theorem Two.B {w : Ways} (h : Two w) : StdB w := by rw [h.e]; constructor <;> rfl
theorem Two.KF {w : Ways} (h : Two w) : type_of% h.B.KF ∧ (w.mode 9 = .pure ∧ w.ext 9 = none ∧ w.mode 37 = .raw ∧ w.ext 37 = none ∧ w.mode 38 = .raw ∧ w.ext 38 = none ∧ w.mode 41 = .raw ∧ w.ext 41 = none ∧ w.mode 43 = .temp ∧ w.ext 43 = none ∧ w.mode 52 = .temp ∧ w.ext 52 = none ∧
    w.mode 76 = .raw ∧ w.ext 76 = none ∧ w.mode 79 = .raw ∧ w.ext 79 = none ∧ w.ext 75 = some (.push withE) ∧ w.mode 77 = .raw ∧ w.ext 77 = some (.push cloneE) ∧ w.muts 77 3 = true ∧ w.muts 79 4 = true) := by
  refine ⟨h.B.KF, ?_⟩
  rw [h.e]; exact ⟨rfl, rfl, rfl, rfl, rfl, rfl, rfl, rfl, rfl, rfl, rfl, rfl, rfl, rfl, rfl, rfl, rfl, rfl, rfl, rfl, rfl⟩

theorem Two.m9 {w : Ways} (h : Two w) : w.mode 9 = .pure := by rw [h.e]; rfl
theorem Two.e9 {w : Ways} (h : Two w) : w.ext 9 = none := by rw [h.e]; rfl
theorem Two.m37 {w : Ways} (h : Two w) : w.mode 37 = .raw := by rw [h.e]; rfl
theorem Two.e37 {w : Ways} (h : Two w) : w.ext 37 = none := by rw [h.e]; rfl
theorem Two.m38 {w : Ways} (h : Two w) : w.mode 38 = .raw := by rw [h.e]; rfl
theorem Two.e38 {w : Ways} (h : Two w) : w.ext 38 = none := by rw [h.e]; rfl
theorem Two.m41 {w : Ways} (h : Two w) : w.mode 41 = .raw := by rw [h.e]; rfl
theorem Two.e41 {w : Ways} (h : Two w) : w.ext 41 = none := by rw [h.e]; rfl
theorem Two.m43 {w : Ways} (h : Two w) : w.mode 43 = .temp := by rw [h.e]; rfl
theorem Two.e43 {w : Ways} (h : Two w) : w.ext 43 = none := by rw [h.e]; rfl
theorem Two.m52 {w : Ways} (h : Two w) : w.mode 52 = .temp := by rw [h.e]; rfl
theorem Two.e52 {w : Ways} (h : Two w) : w.ext 52 = none := by rw [h.e]; rfl
theorem Two.m76 {w : Ways} (h : Two w) : w.mode 76 = .raw := by rw [h.e]; rfl
theorem Two.e76 {w : Ways} (h : Two w) : w.ext 76 = none := by rw [h.e]; rfl
theorem Two.m79 {w : Ways} (h : Two w) : w.mode 79 = .raw := by rw [h.e]; rfl
theorem Two.e79 {w : Ways} (h : Two w) : w.ext 79 = none := by rw [h.e]; rfl
theorem Two.m77 {w : Ways} (h : Two w) : w.mode 77 = .raw := by rw [h.e]; rfl
theorem Two.e75 {w : Ways} (h : Two w) : w.ext 75 = some (.push withE) := by rw [h.e]; rfl
theorem Two.e77 {w : Ways} (h : Two w) : w.ext 77 = some (.push cloneE) := by rw [h.e]; rfl
theorem awake27_ok2 {w : Ways} (h : Two w) : PC (cfg w) 27 [] (.bool true) := fun S => by
  have he : (cfg w).ext 27 = some (.val awE) := by rw [cfgP_ext, h.e]; rfl
  simp [callF, he, XT.run, awE]
end Go.Am.B
