/- THE ABSTRACT MACHINE, NINETEENTH FILE: calls and rounds. -/
import Derived.Test.YtghpjjhdbankhaaAm17
import Derived.LoopNIn
set_option linter.unusedSimpArgs false
set_option linter.unusedVariables false
namespace Go.Am
open Go.RowKit
variable {P : Program} {c : Cfg}

/-- What a loop is worth: its rounds, so and so many. -/
def LoopOk (P : Program) (b : Code) (fr : Fr) (S : St) (ex : Ex) (fr' : Fr) (S' : St) : Prop :=
  fr'.fn = fr.fn ∧ fr'.round = fr.round ∧
  ∃ m, ∀ (G : Gh) (w : World) (a : Act) (rd : Option Nat) (Q : Exit → Act → World → Prop), Wrel G S w → RepL G w fr.tmps a.tmps.toList → DefRel G fr.marks a.defers → RoundRel G fr.round rd →
    (∀ G' w' a', Wrel G' S' w' → Step G S w G' S' w' → RepL G' w' fr'.tmps a'.tmps.toList → DefRel G' fr'.marks a'.defers → Q (toExit ex) a' w') → Code.roundsIn (FR rd) 0 P b Q m a w

/-- What the parts of a machine that lies deeper are worth. -/
structure RecOk (P : Program) (R : Rec) : Prop where
  code : ∀ code fr S ex fr' S', R.code code fr S = some (ex, fr', S') → CodeOk P code fr S ex fr' S'
  loop : ∀ b fr S ex fr' S', R.code (.loop b) fr S = some (ex, fr', S') → LoopOk P b fr S ex fr' S'
  call : ∀ f args S r S', R.call f args S = some (r, S') → CallOk P f args S r S'

theorem fold_rep {G : Gh} {w : World} : ∀ {pa : List (Tmp × AV)} {pv : List (Tmp × Value)} {tm : List AV} {tmps : Array Value}, pv.length = pa.length → (∀ (j : Nat) (x : Tmp × AV), pa[j]? = some x → ∃ u, pv[j]? = some (x.1, u) ∧ Rep G w x.2 u) → RepL G w tm tmps.toList →
    RepL G w (pa.foldl (fun t q => t.set q.1 q.2) tm) (pv.foldl (fun t q => t.setIfInBounds q.1 q.2) tmps).toList
  | [], [], tm, tmps, hl, h, ht => ht
  | x :: pa, y :: pv, tm, tmps, hl, h, ht => by
    obtain ⟨u, hu, hr⟩ := h 0 x rfl
    simp at hu
    subst hu
    rw [List.foldl_cons, List.foldl_cons]
    refine fold_rep (pa := pa) (pv := pv) (by simpa using hl) (fun j x hj => by simpa using h (j + 1) x (by simpa using hj)) ?_
    rw [Array.toList_setIfInBounds]
    exact ht.set _ hr
  | [], _ :: _, tm, tmps, hl, h, ht => by simp at hl
  | _ :: _, [], tm, tmps, hl, h, ht => by simp at hl

/-- A round of a loop over a function. -/
theorem yieldS_ok {R : Rec} (hR : RecOk P R) {l : Nat} {args : List AV} {S S' : St} {v : AV} (h : yieldS R l args S = some (v, S')) {G : Gh} {w : World} {b : Nat} {vs : Array Value} (hW : Wrel G S w) (hb : G.blk l b) (hv : RepL G w args vs.toList) :
    ∃ fn tmps asg body, (Instr.yield b vs).run P w = .ok (.round b fn tmps asg body) w ∧
      ∀ rd, RoundIn (FR rd) 0 P b fn tmps asg body w fun e w' => ∃ G' u, e = .returned u ∧ Wrel G' S' w' ∧ Step G S w G' S' w' ∧ Rep G' w' v u := by
  unfold yieldS at h
  split at h
  case h_2 => simp at h
  rename_i p0 fn tmps ps asg body d hget
  split at h
  case isFalse => simp at h
  rename_i hlen
  simp only [Option.bind_eq_some_iff] at h
  obtain ⟨⟨ex1, fr1, S1⟩, hasg, h⟩ := h
  split at h
  case isFalse => simp at h
  rename_i hex1
  simp only at hex1
  subst hex1
  split at h
  case h_2 => simp at h
  rename_i p fn' tmps' ps' asg' body' d' hget1
  simp only [Option.bind_eq_some_iff] at h
  obtain ⟨Sb, hp, ⟨ex2, fr2, S2⟩, hbody, h⟩ := h
  split at h
  case h_2 => simp at h
  rename_i st2 p2 fn2 tmps2 ps2 asg2 body2 d2 hget2
  simp only [Option.map_eq_some_iff, Prod.mk.injEq] at h
  obtain ⟨Se, hp2, rfl, rfl⟩ := h
  obtain ⟨b', db, tm, fnm, hb', hdb, htm, hheap⟩ := hW.obj _ _ hget
  cases hW.fblk _ _ _ hb hb'
  have hvl := hv.1
  have hy := run_yield (P := P) (args := vs) hheap (by simp at hvl ⊢; omega)
  refine ⟨_, _, _, _, hy, fun rd => roundIn_of_wpIn trivial ?_⟩
  obtain ⟨hfn1, hro1, hc1⟩ := hR.code _ _ _ _ _ _ hasg
  obtain ⟨hfn2, hro2, hc2⟩ := hR.code _ _ _ _ _ _ hbody
  simp only at hfn1 hro1 hfn2 hro2
  refine hc1 G w _ (some b) _ hW ?_ trivial hb fun G1 w1 a1 hW1 hst1 ht1 hd1 => ?_
  · rw [← Array.foldl_toList, Array.toList_zip]
    refine fold_rep ?_ (fun j x hj => ?_) htm
    · simp at hvl ⊢; omega
    · rw [List.getElem?_zip_eq_some] at hj
      obtain ⟨u, hu, hr⟩ := hv.get hj.2
      exact ⟨u, by rw [List.getElem?_zip_eq_some]; exact ⟨by simpa using hj.1, hu⟩, hr⟩
  · obtain ⟨b1, db1, tm1, fnm1, hb1, hdb1, htm1, hheap1⟩ := hW1.obj _ _ hget1
    cases hW1.fblk _ _ _ hb1 (hst1.le.blk _ _ hb)
    have hbase1 : S1.base ≤ l := by
      have := St.putO_some hp
      exact this.1
    obtain ⟨_, rfl⟩ := St.putO_some hp
    obtain ⟨g1, g2⟩ := put_step (a := .loop .busy p fn' tmps' ps' asg' body' d') (ob' := .loop { state := .busy, pending := exCode p, fn := fnm1, tmps := tm1, params := ps'.toArray, assign := asg', body := body', defers := db1 }) hW1 hget1 hbase1 hb1 hheap1 (by simp) rfl rfl (fun _ x => x)
      fun hk => ⟨b, db1, tm1, fnm1, hb1, hdb1, htm1.mono (.refl _) hk, World.putObj_heap_same (by obtain ⟨h, _⟩ := Array.getElem?_eq_some_iff.1 hheap1; exact h)⟩
    refine ⟨_, run_beginRound hheap1 rfl, ?_⟩
    refine hc2 G1 _ a1 (some b) _ g1 (g2.repL ht1) hd1 (by rw [hro1]; exact hb1) fun G2 w2 a2 hW2 hst2 ht2 hd2 => ?_
    obtain ⟨b2, db2, tm2, fnm2, hb2, hdb2, htm2, hheap2⟩ := hW2.obj _ _ hget2
    cases hW2.fblk _ _ _ hb2 (hst2.le.blk _ _ hb1)
    obtain ⟨hbase2, rfl⟩ := St.putO_some hp2
    obtain ⟨k1, k2⟩ := put_step (a := .loop (if ex2 = .nrm then .ready else .done) ex2 fn2 tmps2 ps2 asg2 body2 d2)
      (ob' := .loop { state := if (exCode ex2).isNone then .ready else .done, pending := exCode ex2, fn := fnm2, tmps := tm2, params := ps2.toArray, assign := asg2, body := body2, defers := db2 }) hW2 hget2 hbase2 hb2 hheap2 (by simp) rfl rfl (fun _ x => x)
      fun hk => ⟨b, db2, tm2, fnm2, hb2, hdb2, htm2.mono (.refl _) hk, by
        rw [World.putObj_heap_same (by obtain ⟨h, _⟩ := Array.getElem?_eq_some_iff.1 hheap2; exact h)]
        cases ex2 <;> simp [exCode]⟩
    have hend := run_endRound (P := P) (exCode ex2) hheap2
    have hfin : ∃ G' u, Ending.returned (.bool (exCode ex2).isNone) = .returned u ∧ Wrel G' (S2.set l (.loop (if ex2 = .nrm then .ready else .done) ex2 fn2 tmps2 ps2 asg2 body2 d2)) (w2.putObj b (.loop { state := if (exCode ex2).isNone then .ready else .done, pending := exCode ex2, fn := fnm2, tmps := tm2, params := ps2.toArray, assign := asg2, body := body2, defers := db2 })) ∧
        Step G S w G' (S2.set l (.loop (if ex2 = .nrm then .ready else .done) ex2 fn2 tmps2 ps2 asg2 body2 d2)) (w2.putObj b (.loop { state := if (exCode ex2).isNone then .ready else .done, pending := exCode ex2, fn := fnm2, tmps := tm2, params := ps2.toArray, assign := asg2, body := body2, defers := db2 })) ∧
        Rep G' (w2.putObj b (.loop { state := if (exCode ex2).isNone then .ready else .done, pending := exCode ex2, fn := fnm2, tmps := tm2, params := ps2.toArray, assign := asg2, body := body2, defers := db2 })) (.bool (decide (ex2 = .nrm))) u := by
      refine ⟨G2, _, rfl, k1, ((hst1.trans g2).trans hst2).trans k2, ?_⟩
      have : (exCode ex2).isNone = decide (ex2 = .nrm) := by cases ex2 <;> simp [exCode]
      rw [this]
      exact .bool _
    cases ex2 with
    | nrm => exact ⟨_, _, hend, hfin⟩
    | exit id => exact ⟨_, _, hend, hfin⟩
    | goto l => exact ⟨_, _, hend, hfin⟩
    | ret => exact ⟨_, _, hend, hfin⟩

end Go.Am
