/- THE ABSTRACT MACHINE, THIRTY-THIRD FILE: the abstract machine is sound. -/
import Derived.Test.YtghpjjhdbankhaaAm31
set_option linter.unusedSimpArgs false
set_option linter.unusedVariables false
namespace Go.Am
open Go.RowKit
variable {P : Program} {c : Cfg} {R : Rec} {fid rid : Nat} {ops : Array Oper} {tm tm' : List AV} {S S' : St} {fs : List Foot} {tms : Nat → List AV} {Ss : Nat → St} {vs : Nat → AV} {ft : Nat → Foot}

theorem ancs_lt : ∀ {l : List Oper} {acc : List (List Nat)}, (∀ k i, i ∈ acc.getD k [] → i < k) → (∀ k o, l[k]? = some o → ∀ e ∈ edgesAny o, e < acc.length + k) → ∀ k i, i ∈ (ancs l acc).getD k [] → i < k
  | [], acc, h, _ => h
  | o :: l, acc, h, hl => by
    rw [ancs]
    refine ancs_lt (fun k i hi => ?_) (fun k o' ho e he => by
      have := hl (k + 1) o' (by simpa using ho) e he
      simp
      omega)
    rw [List.getD, List.getElem?_append] at hi
    split at hi
    · exact h k i hi
    · rename_i hge
      cases hkk : k - acc.length with
      | succ m => rw [hkk] at hi; simp at hi
      | zero =>
        rw [hkk] at hi
        simp only [List.getElem?_cons_zero, Option.getD_some, List.mem_eraseDups, List.mem_flatMap, List.mem_cons] at hi
        obtain ⟨e, he, hi⟩ := hi
        have hlt := hl 0 o rfl e he
        rcases hi with rfl | hi
        · omega
        · have := h e i hi
          omega

theorem less_lt (hd : DrawFacts ops) {i j : Nat} (h : Less ops i j) : i < j :=
  ancs_lt (acc := []) (fun k i hi => by simp at hi) (fun k o ho e he => by simpa using hd.edges k o (by simpa using ho) e he) j i h

def On (listed : Array Bool) (i : Nat) : Prop := listed.getD i false = true

theorem any_ok (hc : CfgOk P c) (hR : RecOk P R) (hL : RecLen R) (t : Trace c R fid rid ops ops.toList tm S tm' S' fs tms Ss vs ft) (hS : S.h.length = S.n) (hd : DrawFacts ops) (hf : feetOk ops fs = true) {rd : Option Nat} {Q : Exit → Act → World → Prop} :
    ∀ (fuel : Nat) (listed : Array Bool) (a : Act) (G : Gh) (w : World) (tmC : List AV) (C : St), listed.size = ops.size → (List.range ops.size).countP (fun i => !listed.getD i true) = fuel →
      (∀ j o, ops[j]? = some o → On listed j → ∀ e ∈ edgesAny o, On listed e) → Inv ops tm S tms Ss ft (On listed) tmC C → Wrel G C w → RepL G w tmC a.tmps.toList →
      (∀ G' w' a', Wrel G' S' w' → Step G C w G' S' w' → RepL G' w' tm' a'.tmps.toList → a'.defers = a.defers → Q .normal a' w') →
      wpAnyIn (FR rd) 0 P .any ops Q fuel listed a w := by
  intro fuel
  have hn : ops.toList.length = ops.size := by simp
  have fin : ∀ (listed : Array Bool) (a : Act) (G : Gh) (w : World) (tmC : List AV) (C : St), (∀ i, i < ops.size → On listed i) → Inv ops tm S tms Ss ft (On listed) tmC C → Wrel G C w → RepL G w tmC a.tmps.toList →
      (∀ G' w' a', Wrel G' S' w' → Step G C w G' S' w' → RepL G' w' tm' a'.tmps.toList → a'.defers = a.defers → Q .normal a' w') → Q .normal a w := fun listed a G w tmC C hall h hW ht hQ => by
    obtain ⟨l1, l2, l3⟩ := trace_len hL t hS ops.size (Nat.le_refl _)
    have hSn : Ss ops.size = S' := by rw [← hn]; exact t.Sn
    have htn : tms ops.size = tm' := by rw [← hn]; exact t.tmn
    have hCS : C = S' := by
      rw [hSn] at l1 l2
      refine St.ext_get l1 h.len ?_ (h.base.trans l2.symm) fun x => ?_
      · have := Cut.all (fun j x hj hn => ((trace_alike hL t hS hj).nonum (by unfold footN at hn; simpa using hn)).2) hall h.num
        rw [← hSn]; exact this
      · have := Cut.all (fun j x hj hn => ((trace_alike hL t hS hj).off x hn).2) hall (h.objs x)
        rw [← hSn]; exact this
    have htm : tmC = tm' := by
      have hlen : tmC.length = tm'.length := by rw [h.tlen, ← htn, l3]
      apply List.ext_getElem hlen
      intro u h1 h2
      have := Cut.all (fun j x hj hn => by
        have hjl : ops.toList[j]? = some ops[j] := by simp
        simp only [(t.step j _ hjl).1]
        exact putT_getD fun e => hn ⟨ops[j], by simp, e⟩) hall (h.temps u)
      rw [htn] at this
      simpa [List.getD, h1, h2] using this
    subst hCS htm
    exact hQ G w a hW (.refl _ _ _) ht rfl
  induction fuel with
  | zero =>
    intro listed a G w tmC C hsz hcount hcl h hW ht hQ
    have hall : ∀ i, i < ops.size → On listed i := fun i hi => by
      have := List.countP_eq_zero.1 hcount i (List.mem_range.2 hi)
      have h1 : i < listed.size := by omega
      unfold On
      simp [h1] at this ⊢
      exact this
    refine ⟨?_, fin listed a G w tmC C hall h hW ht hQ⟩
    apply List.eq_nil_iff_forall_not_mem.2
    intro i hi
    have hi' := mem_ready.1 hi
    obtain ⟨k1, o, k2, _⟩ := hi'
    have hlt := (Array.getElem?_eq_some_iff.1 k2).1
    have := hall i hlt
    have h1 : i < listed.size := by omega
    unfold On at this
    simp [h1] at this k1
    rw [this] at k1
    cases k1
  | succ fuel ih =>
    intro listed a G w tmC C hsz hcount hcl h hW ht hQ
    refine ⟨fun hr => ?_, fun i hi => ?_⟩
    · refine fin listed a G w tmC C (fun i => ?_) h hW ht hQ
      induction i using Nat.strongRecOn with
      | _ i ihi =>
        intro hi
        have ho : ops[i]? = some ops[i] := by simp
        have hon : ¬ listed.getD i true = false := fun hf' => by
          have : i ∈ Region.ready .any ops listed := mem_ready.2 ⟨hf', _, ho, fun e he hb => by
            have hm : e.on ∈ edgesAny ops[i] := mem_edgesAny.2 ⟨e, he, hb, rfl⟩
            have hlt := hd.edges i _ ho _ hm
            exact ihi _ hlt (by omega)⟩
          rw [hr] at this
          cases this
        have h1 : i < listed.size := by omega
        unfold On
        simp [h1] at hon ⊢
        exact hon
    · obtain ⟨k1, o, ho, k3⟩ := mem_ready.1 hi
      have hlt := (Array.getElem?_eq_some_iff.1 ho).1
      have h1 : i < listed.size := by omega
      have hno : ¬ On listed i := by
        unfold On
        simp [h1] at k1 ⊢
        exact k1
      have hclosed := less_closed (L := On listed) hcl
      have hpre : ∀ j, Less ops j i → On listed j := fun j hj => by
        have hcl' : ∀ j' o', ops[j']? = some o' → (On listed j' ∨ j' = i) → ∀ e ∈ edgesAny o', (On listed e ∨ e = i) := fun j' o' ho' hj' e he => by
          rcases hj' with hj' | rfl
          · exact .inl (hcl j' o' ho' hj' e he)
          · rw [ho] at ho'
            cases ho'
            obtain ⟨d, d1, d2, d3⟩ := mem_edgesAny.1 he
            exact .inl (by rw [← d3]; exact k3 d d1 d2)
        exact (less_closed (L := fun k => On listed k ∨ k = i) hcl' j i hj (.inr rfl)).resolve_right (Nat.ne_of_lt (less_lt hd hj))
      have hon' : ∀ j, On (listed.setIfInBounds i true) j ↔ (On listed j ∨ j = i) := fun j => by
        unfold On
        by_cases e : i = j
        · subst e
          simp [h1]
        · rw [getD_set_ne false e]
          exact ⟨.inl, fun hh => hh.resolve_right fun h => e h.symm⟩
      have heq : (fun j => On listed j ∨ j = i) = On (listed.setIfInBounds i true) := funext fun j => propext (hon' j).symm
      have hcnt : (List.range ops.size).countP (fun j => !(listed.setIfInBounds i true).getD j true) = fuel := by
        have := countP_flip (p := fun j => !listed.getD j true) (q := fun j => !(listed.setIfInBounds i true).getD j true) hlt (by simp only [k1]; rfl) (by simp [h1]) (fun j hj => by simp only [getD_set_ne true (fun e => hj e.symm)])
        omega
      have hcl2 : ∀ j' o', ops[j']? = some o' → On (listed.setIfInBounds i true) j' → ∀ e ∈ edgesAny o', On (listed.setIfInBounds i true) e := fun j' o' ho' hj' e he => by
        rw [hon'] at hj' ⊢
        rcases hj' with hj' | rfl
        · exact .inl (hcl j' o' ho' hj' e he)
        · rw [ho] at ho'
          cases ho'
          obtain ⟨d, d1, d2, d3⟩ := mem_edgesAny.1 he
          exact .inl (by rw [← d3]; exact k3 d d1 d2)
      have hstep := inv_step hL t hS hd hf h hclosed ho hno hpre
      unfold wpOpIn
      rw [ho]
      simp only
      rw [← wanted_eq ht]
      rcases hstep with ⟨w1, C1, w2, w3⟩ | ⟨w1, w2, w3⟩
      · rw [if_pos w1]
        rw [heq] at w3
        refine opD_ok hc hR w2 G w a rd _ Q hW ht fun G1 w' u hW1 hst1 hu => ?_
        exact ih _ _ G1 w' _ C1 (by simpa using hsz) hcnt hcl2 w3 hW1 (put_rep (hst1.repL ht) _ hu) fun G' w'' a' hW' hst' ht' hd' => hQ G' w'' a' hW' (hst1.trans hst') ht' (hd'.trans (put_defers _ _ _))
      · rw [if_neg (by simp [w1])]
        rw [heq] at w3
        refine ⟨fun f _ => trivial, ih _ _ G w _ C (by simpa using hsz) hcnt hcl2 w3 hW (put_rep ht _ (by rw [w2]; exact .undef)) fun G' w'' a' hW' hst' ht' hd' => hQ G' w'' a' hW' hst' ht' (hd'.trans (put_defers _ _ _))⟩


theorem wrel_drew {G : Gh} {S : St} {w : World} (h : Wrel G S w) : Wrel G S { w with drawn := w.drawn + 1 } ∧ Step G S w G S { w with drawn := w.drawn + 1 } :=
  same_step h ⟨rfl, rfl, rfl, rfl⟩

theorem draw_ok (hc : CfgOk P c) (hR : RecOk P R) (hL : RecLen R) : DrawOk P c R := by
  intro fid rid ops tm S tm' S' h
  unfold aregion at h
  rw [if_pos rfl] at h
  split at h
  case isFalse => simp at h
  rename_i hdr
  simp only [Option.bind_eq_some_iff] at h
  obtain ⟨⟨tm2, S2, fs⟩, h1, h⟩ := h
  split at h
  case isFalse => simp at h
  rename_i hf
  simp only [Option.some.injEq, Prod.mk.injEq] at h
  obtain ⟨rfl, rfl⟩ := h
  obtain ⟨tms, Ss, vs, ft, t⟩ := trace_of h1
  intro G w a rd Q hW ht hQ
  obtain ⟨g1, g2⟩ := wrel_drew hW
  have hno : ∀ j, ¬ On (Array.replicate ops.size false) j := fun j => by
    unfold On
    simp only [Array.getD_eq_getD_getElem?, Array.getElem?_replicate]
    split <;> simp
  refine wpIn_region_any hc.mixed (any_ok hc hR hL t hW.len (drawFacts hdr) hf ops.size _ a G _ tm S (by simp) ?_ (fun j o _ hj => absurd hj (hno j)) ⟨rfl, hW.len, rfl, fun u => ?_, fun o => ?_, ?_⟩ g1 (g2.repL ht) fun G' w' a' hW' hst' ht' hd' => hQ G' w' a' hW' (g2.trans hst') ht' hd')
  · rw [List.countP_eq_length.2]
    · simp
    · intro j hj
      rw [List.mem_range] at hj
      simp [hj]
  · have := Cut.zero (n := ops.size) (val := fun i t => (tms i).getD t .undef) (T := dstIs ops) _ hno u
    simpa [t.tm0] using this
  · have := Cut.zero (n := ops.size) (val := fun i o => (Ss i).get o) (T := footT ft) _ hno o
    simpa [t.S0] using this
  · have := Cut.zero (n := ops.size) (val := fun i (_ : Unit) => (Ss i).n) (T := footN ft) _ hno ()
    simpa [t.S0] using this

/-- **THE ABSTRACT MACHINE IS SOUND.** -/
theorem run_sound (hc : CfgOk P c) : ∀ n, RecOk P (run c n)
  | 0 => ⟨fun _ _ _ _ _ _ h => by simp [run] at h, fun _ _ _ _ _ _ h => by simp [run] at h, fun _ _ _ _ _ h => by simp [run] at h⟩
  | n + 1 => by
    have ih := run_sound hc n
    have hd := draw_ok hc ih (run_recLen n)
    exact ⟨fun code fr S ex fr' S' h => (exec_ok hc ih hd code fr S ex fr' S' h).1, fun b fr S ex fr' S' h => (exec_ok hc ih hd (.loop b) fr S ex fr' S' h).2 b rfl,
      fun f args S r S' h => callS_ok hc ih.code h⟩

end Go.Am
