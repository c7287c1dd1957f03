/- THE ABSTRACT MACHINE, TWENTY-FIRST FILE: code. -/
import Derived.Test.YtghpjjhdbankhaaAm19
set_option linter.unusedSimpArgs false
set_option linter.unusedVariables false
namespace Go.Am
open Go.RowKit
variable {P : Program} {c : Cfg}

theorem put_rep {G : Gh} {w : World} {tm : List AV} {a : Act} {x : AV} {u : Value} (ht : RepL G w tm a.tmps.toList) (d : Option Tmp) (h : Rep G w x u) : RepL G w (putT tm d x) (a.put d u).tmps.toList := by
  cases d with
  | none => exact ht
  | some d =>
    show RepL G w (tm.set d x) (a.tmps.setIfInBounds d u).toList
    rw [Array.toList_setIfInBounds]
    exact ht.set d h

theorem put_defers (a : Act) (d : Option Tmp) (u : Value) : (a.put d u).defers = a.defers := by cases d <;> rfl

theorem wanted_eq {G : Gh} {w : World} {tm : List AV} {a : Act} (ht : RepL G w tm a.tmps.toList) (ops : Array Oper) (o : Oper) : awanted ops tm o = Region.wanted o (yielded ops a.tmps) := by
  unfold awanted Region.wanted
  cases o.guard with
  | none => rfl
  | some q =>
    obtain ⟨j, want⟩ := q
    simp only
    congr 1
    unfold ayielded yielded
    cases (ops[j]?).bind (·.dst) with
    | none => rfl
    | some d =>
      have hr := ht.getD d
      simp only [Option.bind_some]
      cases hd : a.tmps[d]? with
      | none =>
        have h1 : a.tmps.toList[d]? = none := by simpa using hd
        have h2 : a.tmps.toList.getD d undef = undef := by simp only [List.getD, h1, Option.getD_none]
        rw [h2, undef] at hr
        generalize tm.getD d .undef = x at hr ⊢
        cases hr <;> rfl
      | some u =>
        have h1 : a.tmps.toList[d]? = some u := by simpa using hd
        have h2 : a.tmps.toList.getD d undef = u := by simp only [List.getD, h1, Option.getD_some]
        rw [h2] at hr
        generalize tm.getD d .undef = x at hr ⊢
        cases hr <;> rfl

/-- What a region is worth. -/
def RegOk (P : Program) (id : Nat) (ops : Array Oper) (draw : Bool) (tm : List AV) (S : St) (tm' : List AV) (S' : St) : Prop :=
  ∀ (G : Gh) (w : World) (a : Act) (rd : Option Nat) (Q : Exit → Act → World → Prop), Wrel G S w → RepL G w tm a.tmps.toList →
    (∀ G' w' a', Wrel G' S' w' → Step G S w G' S' w' → RepL G' w' tm' a'.tmps.toList → a'.defers = a.defers → Q .normal a' w') → (Code.region id ops draw).wpIn (FR rd) 0 P Q a w

theorem aop_ok (hc : CfgOk P c) {R : Rec} (hR : RecOk P R) {fid rid : Nat} {tm : List AV} {o : Oper} {S S' : St} {v : AV} (h : aop c R fid rid tm o S = some (v, S')) : OpOk P tm o S v S' := by
  unfold aop at h
  split at h
  · rename_i v' hv
    simp only [Option.some.injEq, Prod.mk.injEq] at h
    obtain ⟨rfl, rfl⟩ := h
    exact aval_ok hc hv
  · exact aeff_ok hc hR h

theorem runOps_ok (hc : CfgOk P c) {R : Rec} (hR : RecOk P R) {fid rid : Nat} {ops : Array Oper} {rd : Option Nat} {Q : Exit → Act → World → Prop} : ∀ {l : List Oper} {tm tm' : List AV} {S S' : St} {G : Gh} {w : World} {a : Act}, runOps c R fid rid ops l tm S = some (tm', S') →
    Wrel G S w → RepL G w tm a.tmps.toList → (∀ G' w' a', Wrel G' S' w' → Step G S w G' S' w' → RepL G' w' tm' a'.tmps.toList → a'.defers = a.defers → Q .normal a' w') → wpListIn (FR rd) 0 P ops Q l a w
  | [], tm, tm', S, S', G, w, a, h, hW, ht, hQ => by
    simp only [runOps, Option.some.injEq, Prod.mk.injEq] at h
    obtain ⟨rfl, rfl⟩ := h
    exact hQ G w a hW (.refl _ _ _) ht rfl
  | o :: l, tm, tm', S, S', G, w, a, h, hW, ht, hQ => by
    rw [runOps] at h
    unfold wpListIn
    rw [← wanted_eq ht]
    split at h
    · rename_i hw
      rw [if_pos hw]
      simp only [Option.bind_eq_some_iff] at h
      obtain ⟨⟨v, S1⟩, hv, h⟩ := h
      refine aop_ok hc hR hv G w a rd _ Q hW ht fun G1 w1 u hW1 hst1 hu => ?_
      exact runOps_ok hc hR h hW1 (put_rep (hst1.repL ht) _ hu) fun G' w' a' hW' hst' ht' hd => hQ G' w' a' hW' (hst1.trans hst') ht' (hd.trans (put_defers _ _ _))
    · rename_i hw
      rw [if_neg hw]
      refine ⟨fun f _ => trivial, ?_⟩
      exact runOps_ok hc hR h hW (put_rep ht _ .undef) fun G' w' a' hW' hst' ht' hd => hQ G' w' a' hW' hst' ht' (hd.trans (put_defers _ _ _))

theorem region_ok (hc : CfgOk P c) {R : Rec} (hR : RecOk P R) {fid rid id : Nat} {ops : Array Oper} {tm tm' : List AV} {S S' : St} (h : aregion c R fid rid ops false tm S = some (tm', S')) : RegOk P id ops false tm S tm' S' := by
  intro G w a rd Q hW ht hQ
  have h : runOps c R fid rid ops ops.toList tm S = some (tm', S') := h
  exact wpIn_region_list (runOps_ok hc hR h hW ht hQ)

/-! ### A range over a function -/
theorem rangeStart_ok {G : Gh} {S S1 : St} {w : World} {fr : Fr} {rd : Option Nat} {d : Nat} {mk : List Nat} {a : Act} (hW : Wrel G S w) (ht : RepL G w fr.tmps a.tmps.toList) (hr : RoundRel G fr.round rd) (h : rangeStart fr S = some (d, S1, mk))
    (fn : FuncId) (ps : Array Tmp) (asg body : Code) : ∃ l mark w1 G1, (Instr.enterLoop fn a.tmps ps asg body rd).run P w = .ok (l, mark) w1 ∧ Wrel G1 (S1.push (.loop .ready .nrm fr.fn fr.tmps ps.toList asg body d)) w1 ∧
      Step G S w G1 (S1.push (.loop .ready .nrm fr.fn fr.tmps ps.toList asg body d)) w1 ∧ G1.blk S1.n l ∧ (∀ ms ds, DefRel G1 ms ds → DefRel G1 (mk ++ ms) (mark ++ ds)) := by
  unfold rangeStart at h
  split at h
  · rename_i hro
    simp only [Option.some.injEq, Prod.mk.injEq] at h
    obtain ⟨rfl, rfl, rfl⟩ := h
    have hrd : rd = none := by cases rd with | none => rfl | some b => rw [hro] at hr; exact hr.elim
    subst hrd
    obtain ⟨g1, g2⟩ := push_blk (a := .dfr) (ob := .deferred (some [])) hW (fun b hb => hb) ⟨w.heap.size, G.addBlk_new _ _, World.alloc_heap_new _ _⟩
    obtain ⟨k1, k2⟩ := push_blk (a := .loop .ready .nrm fr.fn fr.tmps ps.toList asg body S.n) (ob := .loop { state := .ready, pending := none, fn, tmps := a.tmps, params := ps, assign := asg, body, defers := w.heap.size }) g1 (fun b hb => hb)
      ⟨(w.alloc (.deferred (some []))).heap.size, w.heap.size, a.tmps, fn, Gh.addBlk_new _ _ _, .inl (G.addBlk_new _ _), (g2.repL ht).mono (Gh.le_addBlk _ _ _) ((Laid.alloc _ _).kept g1), World.alloc_heap_new _ _⟩
    refine ⟨_, _, _, _, run_enterLoop_outer fn a.tmps ps asg body, k1, g2.trans k2, ?_, fun ms ds hd => ⟨⟨w.heap.size, .inl (G.addBlk_new _ _), rfl⟩, hd⟩⟩
    have := Gh.addBlk_new (G.addBlk S.n w.heap.size) (S.push .dfr).n (w.alloc (.deferred (some []))).heap.size
    simpa using this
  · rename_i l hro
    split at h
    · rename_i st pend fn' tmps' ps' asg' body' d' hget
      simp only [Option.some.injEq, Prod.mk.injEq] at h
      obtain ⟨rfl, rfl, rfl⟩ := h
      rw [hro] at hr
      cases rd with
      | none => exact hr.elim
      | some b =>
        have hb : G.blk l b := hr
        obtain ⟨b', db, tm, fnm, hb', hdb, htm, hheap⟩ := hW.obj _ _ hget
        cases hW.fblk _ _ _ hb hb'
        obtain ⟨k1, k2⟩ := push_blk (a := .loop .ready .nrm fr.fn fr.tmps ps.toList asg body d') (ob := .loop { state := .ready, pending := none, fn, tmps := a.tmps, params := ps, assign := asg, body, defers := db }) hW (fun b hb => hb)
          ⟨w.heap.size, db, a.tmps, fn, G.addBlk_new _ _, .inl hdb, ht.mono (Gh.le_addBlk _ _ _) ((Laid.alloc _ _).kept hW), World.alloc_heap_new _ _⟩
        exact ⟨_, _, _, _, run_enterLoop_inner hheap fn a.tmps ps asg body, k1, k2, G.addBlk_new _ _, fun ms ds hd => hd⟩
    · simp at h

theorem rangeFunc_ok (hc : CfgOk P c) {R : Rec} (hR : RecOk P R) {g : Operand} {ps : Array Tmp} {asg body : Code} {fr fr' : Fr} {S S' : St} {ex : Ex} (h : execS c R (.rangeFunc g ps asg body) fr S = some (ex, fr', S')) : CodeOk P (.rangeFunc g ps asg body) fr S ex fr' S' := by
  rw [execS] at h
  simp only [Option.bind_eq_some_iff] at h
  obtain ⟨⟨d, S1, mk⟩, hstart, h⟩ := h
  split at h
  case h_2 => simp at h
  rename_i f first cap hg
  simp only [Option.bind_eq_some_iff] at h
  obtain ⟨⟨rv, S2⟩, hcall, h⟩ := h
  unfold rangeEnd at h
  split at h
  case h_2 => simp at h
  rename_i st pend fn2 tmps2 ps2 asg2 body2 d2 hget
  split at h
  · simp at h
  rename_i hst
  simp only [Option.map_eq_some_iff, Prod.mk.injEq] at h
  obtain ⟨S3, hp, rfl, rfl, rfl⟩ := h
  refine ⟨rfl, rfl, fun G w a rd Q hW ht hd hro hQ => wpIn_rangeFunc fun fn _ => ?_⟩
  obtain ⟨l, mark, w1, G1, h1, hW1, hst1, hblk, hmk⟩ := rangeStart_ok (P := P) hW ht hro hstart fn ps asg body
  obtain ⟨vf, vc, hfv, hf1, hf2⟩ := rep_fn_inv (evalT_rep ht hg)
  have hargs : RepL G1 w1 (first ++ [.yield S1.n] ++ cap) ((vf ++ #[Value.func (.yield l) #[] #[]]) ++ vc).toList := by
    simp only [Array.toList_append]
    exact ((hst1.repL hf1).append (RepL.cons (.yield _ _ hblk) (RepL.nil _ _))).append (hst1.repL hf2)
  obtain ⟨c1, c2⟩ := hR.call _ _ _ _ _ hcall G1 w1 _ hW1 hargs
  refine ⟨l, mark, w1, { target := .fn (.func f) vc, args := vf ++ #[Value.func (.yield l) #[] #[]] }, w1, f, (vf ++ #[Value.func (.yield l) #[] #[]]) ++ vc, w1, h1, ?_, fun _ _ => trivial, c1, fun e => by simp [FR, Fence.wide] at e, ?_⟩
  · have hm : (rangeCall g l).args.map a.eval = #[Value.func (.yield l) #[] #[]] := by simp [rangeCall, Act.eval]
    simp only [resolve, hm, hfv, Deferred.ofValue, Sem.run_pure]
  · refine callsIn_FR (c2.mono fun e w' ⟨G', u, he, hW', hst', hu⟩ => ?_)
    subst he
    obtain ⟨b, db, tm, fnm, hb, hdb, htm, hheap⟩ := hW'.obj _ _ hget
    cases hW'.fblk _ _ _ hb (hst'.le.blk _ _ hblk)
    obtain ⟨hbase, rfl⟩ := St.putO_some hp
    obtain ⟨g1, g2⟩ := put_step (a := .loop .exhausted pend fn2 tmps2 ps2 asg2 body2 d2) (ob' := .loop { state := .exhausted, pending := exCode pend, fn := fnm, tmps := tm, params := ps2.toArray, assign := asg2, body := body2, defers := db }) hW' hget hbase hb hheap (by simp) rfl rfl (fun _ x => x)
      fun hk => ⟨l, db, tm, fnm, hb, hdb, htm.mono (.refl _) hk, World.putObj_heap_same (by obtain ⟨h, _⟩ := Array.getElem?_eq_some_iff.1 hheap; exact h)⟩
    refine ⟨_, _, run_endLoop hheap hst, ?_⟩
    have hall := (hst1.trans hst').trans g2
    have hd' : DefRel G' (mk ++ fr.marks) (mark ++ a.defers) := (hmk _ _ (hd.mono hst1.le)).mono (hst'.le)
    have hfin := hQ G' _ { a with defers := mark ++ a.defers } g1 hall (hall.repL ht) hd'
    cases pend with
    | nrm => exact hfin
    | exit id => exact wpIn_exit hfin
    | goto t => exact wpIn_goto hfin
    | ret => exact wpIn_ret hfin

end Go.Am
