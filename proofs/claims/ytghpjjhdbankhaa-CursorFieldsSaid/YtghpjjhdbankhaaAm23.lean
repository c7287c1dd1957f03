/- THE ABSTRACT MACHINE, TWENTY-FOURTH FILE: operations that turn memory, and what they turn. -/
import Derived.Test.YtghpjjhdbankhaaAm22
set_option linter.unusedSimpArgs false
set_option linter.unusedVariables false
namespace Go.Am
open Go.RowKit
variable {P : Program} {c : Cfg}

def Ft.has : Ft → Nat → Prop
  | .all, _ => True
  | .ids l, o => o ∈ l

theorem St.ext_get {S C : St} (hS : S.h.length = S.n) (hC : C.h.length = C.n) (hn : C.n = S.n) (hb : C.base = S.base) (h : ∀ o, C.get o = S.get o) : C = S := by
  obtain ⟨h1, n1, b1⟩ := S
  obtain ⟨h2, n2, b2⟩ := C
  simp only at hS hC hn hb
  subst hn hb
  congr 1
  apply List.ext_getElem?
  intro k
  by_cases hk : k < n2
  · have := h (n2 - 1 - k)
    simp only [St.get] at this
    rw [if_pos (by omega), if_pos (by omega), show n2 - 1 - (n2 - 1 - k) = k by omega] at this
    exact this
  · rw [List.getElem?_eq_none (by omega), List.getElem?_eq_none (by omega)]

/-- What has been done to S has been done to C. -/
structure Alike (ft : Foot) (S S1 C C1 : St) : Prop where
  len : C1.h.length = C1.n
  lenS : S1.h.length = S1.n
  base : C1.base = C.base
  baseS : S1.base = S.base
  on : ∀ o, ft.T.has o → C1.get o = S1.get o
  off : ∀ o, ¬ ft.T.has o → C1.get o = C.get o ∧ S1.get o = S.get o
  num : ft.N = true → C1.n = S1.n
  nonum : ft.N = false → C1.n = C.n ∧ S1.n = S.n

theorem Alike.same {ft : Foot} {S C : St} (hS : S.h.length = S.n) (hC : C.h.length = C.n) (hT : ∀ o, ft.T.has o → C.get o = S.get o) (hN : ft.N = true → C.n = S.n) : Alike ft S S C C :=
  ⟨hC, hS, rfl, rfl, hT, fun _ _ => ⟨rfl, rfl⟩, hN, fun _ => ⟨rfl, rfl⟩⟩

theorem alike_set {S C : St} {o : Nat} {a a0 : AObj} (hS : S.h.length = S.n) (hC : C.h.length = C.n) (hs : S.get o = some a0) (hc : C.get o = some a0) (F : Ft) : Alike ⟨F, .ids [o], false⟩ S (S.set o a) C (C.set o a) := by
  have h1 := St.get_lt hs
  have h2 := St.get_lt hc
  refine ⟨by simp [St.set, hC], by simp [St.set, hS], rfl, rfl, fun o' ho => ?_, fun o' ho => ?_, fun h => by simp at h, fun _ => ⟨rfl, rfl⟩⟩
  · have ho : o' ∈ [o] := ho
    simp at ho
    subst ho
    rw [St.get_set_same hC a h2, St.get_set_same hS a h1]
  · have ho : ¬ o' ∈ [o] := ho
    simp at ho
    exact ⟨St.get_set_other a h2 ho, St.get_set_other a h1 ho⟩

theorem alike_push {S C : St} {a : AObj} (hS : S.h.length = S.n) (hC : C.h.length = C.n) (hn : C.n = S.n) (F : Ft) : Alike ⟨F, .ids [S.n], true⟩ S (S.push a) C (C.push a) := by
  have key : ∀ (X : St) (o' : Nat), X.h.length = X.n → o' ≠ X.n → (X.push a).get o' = X.get o' := fun X o' hX ho => by
    rcases Nat.lt_or_ge o' X.n with h | h
    · exact St.get_push_old a h
    · have h0 : X.get o' = none := by
        unfold St.get
        rw [if_neg (by omega)]
      rw [h0]
      cases hg : (X.push a).get o' with
      | none => rfl
      | some q => rcases St.get_push hg with h' | h' <;> omega
  refine ⟨by simp [St.push, hC], by simp [St.push, hS], rfl, rfl, fun o' ho => ?_, fun o' ho => ?_, fun _ => by simp [St.push, hn], fun h => by simp at h⟩
  · have ho : o' ∈ [S.n] := ho
    simp at ho
    subst ho
    have h1 := St.get_push_new C a
    rw [hn] at h1
    rw [h1, St.get_push_new S a]
  · have ho : ¬ o' ∈ [S.n] := ho
    simp at ho
    exact ⟨key C o' hC (by rw [hn]; exact ho), key S o' hS ho⟩

theorem frz1_nil {S : St} {x y : AV} {l : List (Nat × Nat)} (h : frz1 St.nil x = some (y, l)) : l = [] ∧ frz1 S x = some (y, []) := by
  cases x <;> simp only [frz1] at h ⊢ <;> first
    | (simp only [Option.map_eq_some_iff, Prod.mk.injEq] at h
       obtain ⟨v, hv, hy, hl⟩ := h
       subst hy
       subst hl
       exact ⟨rfl, by rw [hv]; rfl⟩)
    | (simp [St.rows, St.get, St.nil] at h)

theorem frzL_nil {S : St} : ∀ {xs ys : List AV} {l : List (Nat × Nat)}, frzL St.nil xs = some (ys, l) → l = [] ∧ frzL S xs = some (ys, [])
  | [], ys, l, h => by
    simp only [frzL, Option.some.injEq, Prod.mk.injEq] at h
    obtain ⟨rfl, rfl⟩ := h
    exact ⟨rfl, rfl⟩
  | x :: xs, ys, l, h => by
    simp only [frzL, Option.bind_eq_some_iff, Option.map_eq_some_iff, Prod.mk.injEq] at h
    obtain ⟨⟨a, la⟩, ha, ⟨b, lb⟩, hb, rfl, rfl⟩ := h
    obtain ⟨rfl, h1⟩ := frz1_nil (S := S) ha
    obtain ⟨rfl, h2⟩ := frzL_nil (S := S) hb
    exact ⟨rfl, by simp only [frzL, h1, h2, Option.bind_some, Option.map_some, List.append_nil]⟩

theorem frzA_nil {S : St} {x y : AV} {l : List (Nat × Nat)} (h : frzA St.nil x = some (y, l)) : l = [] ∧ frzA S x = some (y, []) := by
  unfold frzA at h ⊢
  split at h
  · simp only [Option.map_eq_some_iff, Prod.mk.injEq] at h
    obtain ⟨⟨a, la⟩, ha, rfl, rfl⟩ := h
    obtain ⟨rfl, h1⟩ := frzL_nil (S := S) ha
    exact ⟨rfl, by simp only [h1, Option.map_some]⟩
  · obtain ⟨rfl, h1⟩ := frz1_nil (S := S) h
    exact ⟨rfl, h1⟩

theorem frzLA_nil {S : St} : ∀ {xs ys : List AV} {l : List (Nat × Nat)}, frzLA St.nil xs = some (ys, l) → l = [] ∧ frzLA S xs = some (ys, [])
  | [], ys, l, h => by
    simp only [frzLA, Option.some.injEq, Prod.mk.injEq] at h
    obtain ⟨rfl, rfl⟩ := h
    exact ⟨rfl, rfl⟩
  | x :: xs, ys, l, h => by
    simp only [frzLA, Option.bind_eq_some_iff, Option.map_eq_some_iff, Prod.mk.injEq] at h
    obtain ⟨⟨a, la⟩, ha, ⟨b, lb⟩, hb, rfl, rfl⟩ := h
    obtain ⟨rfl, h1⟩ := frzA_nil (S := S) ha
    obtain ⟨rfl, h2⟩ := frzLA_nil (S := S) hb
    exact ⟨rfl, by simp only [frzLA, h1, h2, Option.bind_some, Option.map_some, List.append_nil]⟩

/-- A calm call is a call that leaves memory as it is. -/
theorem calm_call {R : Rec} {tm : List AV} {o : Oper} {v : AV} (h : calm c R tm o = some v) (S : St) : ∃ f args at_, o.op = .call ⟨.value (.func f), args, at_⟩ ∧ ∃ as, evalL tm args.toList = some as ∧ callF c R f as S = some (v, S) := by
  unfold calm at h
  split at h
  · rename_i f args at_ ho
    refine ⟨f, args, at_, ho, ?_⟩
    split at h
    · rename_i F hF
      simp only [Option.bind_eq_some_iff] at h
      obtain ⟨as, ha, h⟩ := h
      exact ⟨as, ha, by simp only [callF, hF, XT.run, h, Option.map_some]⟩
    · simp at h
    · rename_i hF
      split at h
      · rename_i hm
        simp only [Option.bind_eq_some_iff] at h
        obtain ⟨as, ha, ⟨q, lq⟩, hq, h⟩ := h
        split at h
        · simp only [Option.bind_eq_some_iff, Option.map_eq_some_iff] at h
          obtain ⟨r, hr, ⟨y, ly⟩, hy, rfl⟩ := h
          obtain ⟨_, hS⟩ := frzLA_nil (S := S) hq
          refine ⟨as, ha, ?_⟩
          simp only [callF, callM, hF, hm, hS, Option.bind_some, hr, hy, St.lockAll, Option.map_some]
        · simp at h
      · simp at h
  · simp at h

theorem calm_ok (hc : CfgOk P c) {R : Rec} (hR : RecOk P R) {tm : List AV} {o : Oper} {v : AV} (h : calm c R tm o = some v) (S : St) : OpOk P tm o S v S := by
  obtain ⟨f, args, at_, ho, as, ha, hf⟩ := calm_call h S
  refine call_ok hc hR (g := .fn f [] []) ho rfl rfl ha ?_
  simp only [callV, List.nil_append, List.append_nil]
  exact hf

end Go.Am
