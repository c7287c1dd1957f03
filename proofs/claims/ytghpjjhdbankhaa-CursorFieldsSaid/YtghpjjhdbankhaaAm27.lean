/- THE ABSTRACT MACHINE, TWENTY-EIGHTH FILE: one operation of a region whose order is open. -/
import Derived.Test.YtghpjjhdbankhaaAm26
set_option linter.unusedSimpArgs false
set_option linter.unusedVariables false
namespace Go.Am
open Go.RowKit
variable {P : Program} {c : Cfg}

theorem aeff_noval {R : Rec} {fid rid : Nat} {tm : List AV} {o : Oper} {S : St} {r : AV × St} (h : aeff c R fid rid tm o S = some r) (C : St) : aval c tm o C = none := by
  obtain ⟨dst, op, type, pos, after, guard⟩ := o
  cases op with
  | call cl =>
    obtain ⟨callee, args, argTypes⟩ := cl
    cases callee with
    | value f => simp only [aval]
    | builtin b => cases b <;> first | (simp [aeff] at h; done) | simp only [aval]
    | invoke r m => simp only [aval]
  | slice t x lo hi mx =>
    cases mx with
    | some m => simp only [aval]
    | none =>
      simp only [aeff] at h
      split at h
      · rename_i n e hk
        simp only [aval, hk]
        cases evalT tm x with
        | none => rfl
        | some v =>
          cases evalO tm lo with
          | none => rfl
          | some l =>
            cases evalO tm hi with
            | none => rfl
            | some hh => cases v <;> rfl
      · simp at h
  | makeFunc f first cap => simp [aeff] at h
  | _ => first | (simp [aeff] at h; done) | simp only [aval]

theorem wfoot_same {tm tm' : List AV} {o : Oper} (S : St) (h : SameOn tm tm' o.op.operands.toList) : wfoot c tm o S = wfoot c tm' o S := by
  obtain ⟨dst, op, type, pos, after, guard⟩ := o
  simp only at h
  cases op with
  | call cl =>
    obtain ⟨callee, args, argTypes⟩ := cl
    have ha : SameOn tm tm' args.toList := fun x hx => h x (by simp only [Op.operands, Call.operands, Array.toList_append, List.mem_append]; exact .inr hx)
    cases callee with
    | value f => cases f <;> simp only [wfoot]
    | builtin b =>
      cases b <;> simp only [wfoot]
      split
      · rename_i x y hxy
        rw [ha x (by rw [hxy]; simp), refsO_same (ha y (by rw [hxy]; simp))]
      · rfl
    | invoke r m => simp only [wfoot]
  | store t a x => simp only [wfoot]; rw [refsO_same (h a (by simp [Op.operands]))]
  | slice t x lo hi mx => simp only [wfoot]; rw [refsO_same (h x (by simp [Op.operands]))]
  | _ => simp only [wfoot]

theorem opD_same {R : Rec} {fid rid : Nat} {tm tm' : List AV} {o : Oper} (S : St) (h : SameOn tm tm' o.op.operands.toList) : opD c R fid rid tm o S = opD c R fid rid tm' o S := by
  unfold opD
  rw [aval_same S h, calm_same h, calmable_same h, aeff_same S h, wfoot_same S h, rfoot_same h]

theorem opD_ok (hc : CfgOk P c) {R : Rec} (hR : RecOk P R) {fid rid : Nat} {tm : List AV} {o : Oper} {S S1 : St} {v : AV} {ft : Foot} (h : opD c R fid rid tm o S = some (v, S1, ft)) : OpOk P tm o S v S1 := by
  unfold opD at h
  split at h
  · rename_i v' hv
    simp only [Option.some.injEq, Prod.mk.injEq] at h
    obtain ⟨rfl, rfl, rfl⟩ := h
    exact aval_ok hc hv
  · split at h
    · simp only [Option.map_eq_some_iff, Prod.mk.injEq] at h
      obtain ⟨v', hv, rfl, rfl, rfl⟩ := h
      exact calm_ok hc hR hv _
    · simp only [Option.map_eq_some_iff, Prod.mk.injEq] at h
      obtain ⟨⟨r, S2⟩, h1, rfl, rfl, rfl⟩ := h
      exact aeff_ok hc hR h1

theorem opD_local {R : Rec} (hL : RecLen R) {fid rid : Nat} {tm : List AV} {o : Oper} {S S1 C : St} {v : AV} {ft : Foot} (h : opD c R fid rid tm o S = some (v, S1, ft)) (hn : Near ft S C) :
    ∃ C1, opD c R fid rid tm o C = some (v, C1, ft) ∧ Alike ft S S1 C C1 := by
  unfold opD at h ⊢
  split at h
  · rename_i v' hv
    simp only [Option.some.injEq, Prod.mk.injEq] at h
    obtain ⟨rfl, rfl, rfl⟩ := h
    have := aval_local (c := c) (tm := tm) (o := o) (S := S) (S' := C) fun o' ho => (hn.F o' ho).symm
    refine ⟨C, ?_, Alike.same hn.lenS hn.len hn.T hn.N⟩
    rw [← this, hv]
  · split at h
    · rename_i hnv hcm
      simp only [Option.map_eq_some_iff, Prod.mk.injEq] at h
      obtain ⟨v', hv, rfl, rfl, rfl⟩ := h
      refine ⟨C, ?_, Alike.same hn.lenS hn.len hn.T hn.N⟩
      obtain ⟨f, args, at_, ho, _⟩ := calm_call hv S
      have : aval c tm o C = none := by simp only [aval, ho]
      rw [this]
      simp only [hv, Option.map_some, if_pos hcm]
    · rename_i hnv hcalm
      simp only [Option.map_eq_some_iff, Prod.mk.injEq] at h
      obtain ⟨⟨r, S2⟩, h1, rfl, rfl, rfl⟩ := h
      have hk := Keeps.aeff hL h1 hn.lenS
      obtain ⟨C1, k1, k2, k3⟩ := aeff_local h1 hn hk.1 hk.2
      refine ⟨C1, ?_, k3⟩
      rw [aeff_noval h1 C]
      simp only [if_neg hcalm, k1, Option.map_some, k2]

/-! ### What is ahead -/
theorem ancs_inv {L : Nat → Prop} : ∀ {l : List Oper} {acc : List (List Nat)}, (∀ k i, i ∈ acc.getD k [] → L k → L i) → (∀ k o, l[k]? = some o → L (acc.length + k) → ∀ e ∈ edgesAny o, L e) →
    ∀ k i, i ∈ (ancs l acc).getD k [] → L k → L i
  | [], acc, h, _ => h
  | o :: l, acc, h, hl => by
    rw [ancs]
    refine ancs_inv (fun k i hi hk => ?_) (fun k o' ho hk => hl (k + 1) o' (by simpa using ho) (by simp at hk; rwa [show acc.length + (k + 1) = acc.length + 1 + k by omega]))
    rw [List.getD, List.getElem?_append] at hi
    split at hi
    · exact h k i hi hk
    · rename_i hge
      cases hkk : k - acc.length with
      | succ m => rw [hkk] at hi; simp at hi
      | zero =>
        rw [hkk] at hi
        simp only [List.getElem?_cons_zero, Option.getD_some, List.mem_eraseDups, List.mem_flatMap, List.mem_cons] at hi
        obtain ⟨e, he, hi⟩ := hi
        have hkl : k = acc.length + 0 := by omega
        have hLe : L e := hl 0 o rfl (by rw [← hkl]; exact hk) e he
        rcases hi with rfl | hi
        · exact hLe
        · exact h e i hi hLe

end Go.Am
