/- THE ABSTRACT MACHINE, TWENTY-SECOND FILE: code, loops, runs. -/
import Derived.Test.YtghpjjhdbankhaaAm20
set_option linter.unusedSimpArgs false
set_option linter.unusedVariables false
namespace Go.Am
open Go.RowKit
variable {P : Program} {c : Cfg}

/-- Regions whose order is open. -/
def DrawOk (P : Program) (c : Cfg) (R : Rec) : Prop :=
  ∀ fid rid ops tm S tm' S', aregion c R fid rid ops true tm S = some (tm', S') → RegOk P rid ops true tm S tm' S'

theorem seq_ok {x y : Code} {fr fr1 fr2 : Fr} {S S1 S2 : St} {ex : Ex} (h1 : CodeOk P x fr S .nrm fr1 S1) (h2 : CodeOk P y fr1 S1 ex fr2 S2) : CodeOk P (.seq x y) fr S ex fr2 S2 := by
  obtain ⟨a1, a2, a3⟩ := h1
  obtain ⟨b1, b2, b3⟩ := h2
  refine ⟨b1.trans a1, b2.trans a2, fun G w a rd Q hW ht hd hr hQ => wpIn_seq (a3 G w a rd _ hW ht hd hr fun G1 w1 a1' hW1 hst1 ht1 hd1 => ?_)⟩
  exact b3 G1 w1 a1' rd Q hW1 ht1 hd1 (by rw [a2]; exact hr.mono hst1.le) fun G' w' a' hW' hst' ht' hd' => hQ G' w' a' hW' (hst1.trans hst') ht' hd'

theorem seq_left {x y : Code} {fr fr1 : Fr} {S S1 : St} {ex : Ex} (hx : ex ≠ .nrm) (h1 : CodeOk P x fr S ex fr1 S1) : CodeOk P (.seq x y) fr S ex fr1 S1 := by
  obtain ⟨a1, a2, a3⟩ := h1
  refine ⟨a1, a2, fun G w a rd Q hW ht hd hr hQ => wpIn_seq (a3 G w a rd _ hW ht hd hr fun G1 w1 a1' hW1 hst1 ht1 hd1 => ?_)⟩
  have := hQ G1 w1 a1' hW1 hst1 ht1 hd1
  cases ex <;> first | exact absurd rfl hx | exact this

theorem loop_of (b : Code) {fr fr' : Fr} {S S' : St} {ex : Ex} (h : LoopOk P b fr S ex fr' S') : CodeOk P (.loop b) fr S ex fr' S' := by
  obtain ⟨h1, h2, m, h3⟩ := h
  exact ⟨h1, h2, fun G w a rd Q hW ht hd hr hQ => wpIn_loop_rounds m (h3 G w a rd Q hW ht hd hr hQ)⟩

theorem loop_more (b : Code) {fr fr1 fr' : Fr} {S S1 S' : St} {ex : Ex} (h1 : CodeOk P b fr S .nrm fr1 S1) (h : LoopOk P b fr1 S1 ex fr' S') : LoopOk P b fr S ex fr' S' := by
  obtain ⟨a1, a2, a3⟩ := h1
  obtain ⟨b1, b2, m, b3⟩ := h
  refine ⟨b1.trans a1, b2.trans a2, m + 1, fun G w a rd Q hW ht hd hr hQ => ?_⟩
  rw [roundsIn_succ]
  refine a3 G w a rd _ hW ht hd hr fun G1 w1 a1' hW1 hst1 ht1 hd1 => ?_
  exact b3 G1 w1 a1' rd Q hW1 ht1 hd1 (by rw [a2]; exact hr.mono hst1.le) fun G' w' a' hW' hst' ht' hd' => hQ G' w' a' hW' (hst1.trans hst') ht' hd'

theorem loop_last (b : Code) {fr fr' : Fr} {S S' : St} {ex : Ex} (hx : ex ≠ .nrm) (h1 : CodeOk P b fr S ex fr' S') : LoopOk P b fr S ex fr' S' := by
  obtain ⟨a1, a2, a3⟩ := h1
  refine ⟨a1, a2, 1, fun G w a rd Q hW ht hd hr hQ => ?_⟩
  rw [roundsIn_succ]
  refine a3 G w a rd _ hW ht hd hr fun G1 w1 a1' hW1 hst1 ht1 hd1 => ?_
  have := hQ G1 w1 a1' hW1 hst1 ht1 hd1
  cases ex <;> first | exact absurd rfl hx | exact this

theorem exec_ok (hc : CfgOk P c) {R : Rec} (hR : RecOk P R) (hD : DrawOk P c R) :
    ∀ (code : Code) (fr : Fr) (S : St) (ex : Ex) (fr' : Fr) (S' : St), execS c R code fr S = some (ex, fr', S') → CodeOk P code fr S ex fr' S' ∧ ∀ b, code = .loop b → LoopOk P b fr S ex fr' S' := by
  intro code
  induction code with
  | skip =>
    intro fr S ex fr' S' h
    simp only [execS, Option.some.injEq, Prod.mk.injEq] at h
    obtain ⟨rfl, rfl, rfl⟩ := h
    exact ⟨⟨rfl, rfl, fun G w a rd Q hW ht hd hr hQ => wpIn_skip (hQ G w a hW (.refl _ _ _) ht hd)⟩, by simp⟩
  | region id ops draw =>
    intro fr S ex fr' S' h
    simp only [execS, Option.map_eq_some_iff, Prod.mk.injEq] at h
    obtain ⟨⟨tm, S1⟩, h, rfl, rfl, rfl⟩ := h
    have hreg : RegOk P id ops draw fr.tmps S tm S1 := by
      cases draw with
      | false => exact region_ok hc hR h
      | true => exact hD _ _ _ _ _ _ _ h
    exact ⟨⟨rfl, rfl, fun G w a rd Q hW ht hd hr hQ => hreg G w a rd Q hW ht fun G' w' a' hW' hst' ht' hd' => hQ G' w' a' hW' hst' ht' (by rw [hd']; exact hd.mono hst'.le)⟩, by simp⟩
  | seq x y ihx ihy =>
    intro fr S ex fr' S' h
    refine ⟨?_, by simp⟩
    simp only [execS, Option.bind_eq_some_iff] at h
    obtain ⟨⟨ex1, fr1, S1⟩, h1, h⟩ := h
    split at h
    · rename_i he
      simp only at he
      subst he
      exact seq_ok (ihx _ _ _ _ _ h1).1 (ihy _ _ _ _ _ h).1
    · rename_i he
      simp only [Option.some.injEq, Prod.mk.injEq] at h
      obtain ⟨rfl, rfl, rfl⟩ := h
      exact seq_left he (ihx _ _ _ _ _ h1).1
  | cond x y z ihy ihz =>
    intro fr S ex fr' S' h
    refine ⟨?_, by simp⟩
    rw [execS] at h
    split at h
    · rename_i he
      obtain ⟨a1, a2, a3⟩ := (ihy _ _ _ _ _ h).1
      exact ⟨a1, a2, fun G w a rd Q hW ht hd hr hQ => wpIn_cond_true (rep_bool_inv (evalT_rep ht he)) (a3 G w a rd Q hW ht hd hr hQ)⟩
    · rename_i he
      obtain ⟨a1, a2, a3⟩ := (ihz _ _ _ _ _ h).1
      exact ⟨a1, a2, fun G w a rd Q hW ht hd hr hQ => wpIn_cond_false (rep_bool_inv (evalT_rep ht he)) (a3 G w a rd Q hW ht hd hr hQ)⟩
    · simp at h
  | block id b ih =>
    intro fr S ex fr' S' h
    refine ⟨?_, by simp⟩
    simp only [execS, Option.map_eq_some_iff] at h
    obtain ⟨⟨ex1, fr1, S1⟩, h1, h⟩ := h
    obtain ⟨a1, a2, a3⟩ := (ih _ _ _ _ _ h1).1
    unfold exitBlock at h
    split at h
    · rename_i he
      simp only at he
      simp only [Prod.mk.injEq] at h
      obtain ⟨rfl, rfl, rfl⟩ := h
      subst he
      refine ⟨a1, a2, fun G w a rd Q hW ht hd hr hQ => wpIn_block (a3 G w a rd _ hW ht hd hr fun G' w' a' hW' hst' ht' hd' => ?_)⟩
      have := hQ G' w' a' hW' hst' ht' hd'
      simpa [Exit.inBlock, toExit] using this
    · rename_i he
      simp only at he
      simp only [Prod.mk.injEq] at h
      obtain ⟨rfl, rfl, rfl⟩ := h
      refine ⟨a1, a2, fun G w a rd Q hW ht hd hr hQ => wpIn_block (a3 G w a rd _ hW ht hd hr fun G' w' a' hW' hst' ht' hd' => ?_)⟩
      have := hQ G' w' a' hW' hst' ht' hd'
      cases ex1 with
      | exit id' =>
        have hne : id' ≠ id := fun e => he (by rw [e])
        simpa [Exit.inBlock, toExit, hne] using this
      | _ => exact this
  | loop b ih =>
    intro fr S ex fr' S' h
    have hl : LoopOk P b fr S ex fr' S' := by
      simp only [execS, Option.bind_eq_some_iff] at h
      obtain ⟨⟨ex1, fr1, S1⟩, h1, h⟩ := h
      split at h
      · rename_i he
        simp only at he
        subst he
        exact loop_more b (ih _ _ _ _ _ h1).1 (hR.loop _ _ _ _ _ _ h)
      · rename_i he
        simp only [Option.some.injEq, Prod.mk.injEq] at h
        obtain ⟨rfl, rfl, rfl⟩ := h
        exact loop_last b he (ih _ _ _ _ _ h1).1
    exact ⟨loop_of b hl, fun b' e => by cases e; exact hl⟩
  | exit id =>
    intro fr S ex fr' S' h
    simp only [execS, Option.some.injEq, Prod.mk.injEq] at h
    obtain ⟨rfl, rfl, rfl⟩ := h
    exact ⟨⟨rfl, rfl, fun G w a rd Q hW ht hd hr hQ => wpIn_exit (hQ G w a hW (.refl _ _ _) ht hd)⟩, by simp⟩
  | goto l =>
    intro fr S ex fr' S' h
    simp only [execS, Option.some.injEq, Prod.mk.injEq] at h
    obtain ⟨rfl, rfl, rfl⟩ := h
    exact ⟨⟨rfl, rfl, fun G w a rd Q hW ht hd hr hQ => wpIn_goto (hQ G w a hW (.refl _ _ _) ht hd)⟩, by simp⟩
  | label l =>
    intro fr S ex fr' S' h
    simp only [execS, Option.some.injEq, Prod.mk.injEq] at h
    obtain ⟨rfl, rfl, rfl⟩ := h
    exact ⟨⟨rfl, rfl, fun G w a rd Q hW ht hd hr hQ => wpIn_label (hQ G w a hW (.refl _ _ _) ht hd)⟩, by simp⟩
  | ret =>
    intro fr S ex fr' S' h
    simp only [execS, Option.some.injEq, Prod.mk.injEq] at h
    obtain ⟨rfl, rfl, rfl⟩ := h
    exact ⟨⟨rfl, rfl, fun G w a rd Q hW ht hd hr hQ => wpIn_ret (hQ G w a hW (.refl _ _ _) ht hd)⟩, by simp⟩
  | rangeFunc g ps asg body =>
    intro fr S ex fr' S' h
    exact ⟨rangeFunc_ok hc hR h, by simp⟩
  | scope b =>
    intro fr S ex fr' S' h
    simp [execS] at h
  | refuse s =>
    intro fr S ex fr' S' h
    simp [execS] at h

/-- **THE ABSTRACT MACHINE IS SOUND.** -/
theorem run_ok (hc : CfgOk P c) (hD : ∀ R, RecOk P R → DrawOk P c R) : ∀ n, RecOk P (run c n)
  | 0 => ⟨fun _ _ _ _ _ _ h => by simp [run] at h, fun _ _ _ _ _ _ h => by simp [run] at h, fun _ _ _ _ _ h => by simp [run] at h⟩
  | n + 1 => by
    have ih := run_ok hc hD n
    exact ⟨fun code fr S ex fr' S' h => (exec_ok hc ih (hD _ ih) code fr S ex fr' S' h).1, fun b fr S ex fr' S' h => (exec_ok hc ih (hD _ ih) (.loop b) fr S ex fr' S' h).2 b rfl,
      fun f args S r S' h => callS_ok hc ih.code h⟩

end Go.Am
