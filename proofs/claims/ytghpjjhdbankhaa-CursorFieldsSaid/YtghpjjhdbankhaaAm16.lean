/- THE ABSTRACT MACHINE, SEVENTEENTH FILE: a function's body, from its first operation to its results. -/
import Derived.Test.YtghpjjhdbankhaaAm15
import Derived.RangeFuncLeaves
import Derived.TacticsIn
set_option linter.unusedSimpArgs false
set_option linter.unusedVariables false
namespace Go.Am
open Go.RowKit
variable {P : Program} {c : Cfg}

def toExit : Ex → Exit
  | .nrm => .normal
  | .exit id => .exit id
  | .goto l => .goto l
  | .ret => .ret

/-- The marks among an activation's deferred calls. -/
def DefRel (G : Gh) : List Nat → List Deferred → Prop
  | [], [] => True
  | m :: ms, d :: ds => (∃ b, G.blk m b ∧ d = { target := .collected b, args := #[] }) ∧ DefRel G ms ds
  | _, _ => False

theorem DefRel.mono {G G' : Gh} (hg : G.Le G') : ∀ {ms : List Nat} {ds : List Deferred}, DefRel G ms ds → DefRel G' ms ds
  | [], [], h => trivial
  | m :: ms, d :: ds, ⟨⟨b, h1, h2⟩, h⟩ => ⟨⟨b, hg.blk _ _ h1, h2⟩, DefRel.mono hg h⟩

def RoundRel (G : Gh) : Option Nat → Option Nat → Prop
  | none, none => True
  | some l, some b => G.blk l b
  | _, _ => False

theorem RoundRel.mono {G G' : Gh} (hg : G.Le G') : ∀ {a b : Option Nat}, RoundRel G a b → RoundRel G' a b
  | none, none, h => trivial
  | some l, some b, h => hg.blk _ _ h

def FR (rd : Option Nat) : Fence := { Fence.wide with round := rd }

theorem callsIn_FR {rd : Option Nat} {n : Nat} {f : FuncId} {args : Array Value} {w : World} {R : Ending → World → Prop} (h : Calls P f args w R) : CallsIn (FR rd) n P f args w R := by
  have h' : CallsIn Fence.wide n P f args w R := callsIn_wide.2 h
  exact h'

/-- What a piece of code is worth. -/
def CodeOk (P : Program) (code : Code) (fr : Fr) (S : St) (ex : Ex) (fr' : Fr) (S' : St) : Prop :=
  fr'.fn = fr.fn ∧ fr'.round = fr.round ∧
  ∀ (G : Gh) (w : World) (a : Act) (rd : Option Nat) (Q : Exit → Act → World → Prop), Wrel G S w → RepL G w fr.tmps a.tmps.toList → DefRel G fr.marks a.defers → RoundRel G fr.round rd →
    (∀ G' w' a', Wrel G' S' w' → Step G S w G' S' w' → RepL G' w' fr'.tmps a'.tmps.toList → DefRel G' fr'.marks a'.defers → Q (toExit ex) a' w') → code.wpIn (FR rd) 0 P Q a w

/-! ### Objects that are no cells -/
theorem noim_of_obj {G : Gh} {S : St} {w : World} (h : Wrel G S w) {b : Nat} {ob : Obj} (hb : w.heap[b]? = some ob) (hn : ∀ c e f, ob ≠ .cells c e f) (f : Nat) : ¬ G.im b f := fun hi => by
  obtain ⟨u, hu⟩ := h.im b f hi
  unfold World.cell? at hu
  rw [hb] at hu
  cases ob <;> first | exact absurd rfl (hn _ _ _) | simp at hu

theorem putObj_turned (w : World) (b : Nat) (ob : Obj) : Turned b w (w.putObj b ob) :=
  ⟨by simp, rfl, rfl, rfl, fun k hk hne => World.putObj_heap_other hne⟩

theorem putObj_kept {G : Gh} {S : St} {w : World} (h : Wrel G S w) {b : Nat} {ob ob' : Obj} (hb : w.heap[b]? = some ob) (hn : ∀ c e f, ob ≠ .cells c e f) : Kept G w (w.putObj b ob') := fun b' f u hi hu => by
  have hne : b' ≠ b := fun e => noim_of_obj h hb hn f (e ▸ hi)
  rw [World.cell?_of_block (w := w) (World.putObj_heap_other hne)]
  exact hu

/-- An object that is no row of cells turns into another such. -/
theorem put_step {G : Gh} {S : St} {w : World} {o b : Nat} {a0 a : AObj} {ob ob' : Obj} (h : Wrel G S w) (hget : S.get o = some a0) (hbase : S.base ≤ o) (hown : ownsA G o a0 b) (hb : w.heap[b]? = some ob) (hn : ∀ c e f, ob ≠ .cells c e f)
    (hg0 : genOf a0 = none) (hg : genOf a = none) (ho : ∀ b', ownsA G o a b' → ownsA G o a0 b') (hobj : Kept G w (w.putObj b ob') → ObjRel G (w.putObj b ob') o a) :
    Wrel G (S.set o a) (w.putObj b ob') ∧ Step G S w G (S.set o a) (w.putObj b ob') := by
  have hk := putObj_kept (ob' := ob') h hb hn
  exact upd_step (b := b) h hget hbase (putObj_turned w b ob') (.inl hown) (.refl G) hk (fun _ _ x => x) (fun _ _ _ x => .inl x) (fun _ _ x => by rw [hg0] at x; cases x) (fun _ x => by rw [hg] at x; cases x) (fun _ _ _ x y => h.fseg _ _ _ _ x y)
    (fun _ _ x => .inl x) (fun b' x => .inl (ho b' x)) (hobj hk)

/-! ### Results -/
theorem one_rep {G : Gh} {w : World} {l : List AV} {vs : List Value} (h : RepL G w l vs) : Rep G w (one l) (if h : vs.toArray.size = 1 then vs.toArray[0] else .tuple vs.toArray) := by
  match l, vs, h with
  | [x], [v], h =>
    obtain ⟨u, hu, hr⟩ := h.get (j := 0) (x := x) rfl
    simp at hu
    subst hu
    simpa [one] using hr
  | [], vs, h =>
    obtain rfl := h.nil_inv
    simp only [one]
    exact rep_tup.2 h
  | x :: y :: l, vs, h =>
    have h1 := h.1
    rw [dif_neg (by simp at h1 ⊢; omega)]
    simp only [one]
    exact rep_tup.2 h
  | [x], [], h => exact absurd h.1 (by simp)
  | [x], v :: v' :: vs, h => exact absurd h.1 (by simp)

theorem run_results (hc : CfgOk P c) {G : Gh} {S : St} {w : World} {tm : List AV} {tmps : Array Value} (hW : Wrel G S w) (ht : RepL G w tm tmps.toList) (f : ResultVar → Sem Value)
    (hf : ∀ u, f (.tmp u) = pure (tmps.getD u undef)) (hcell : ∀ a t, f (.cell a t) = (do loadVar t (← asAddr (tmps.getD a undef)))) :
    ∀ {rs : List ResultVar} {l : List AV}, aresults c S tm rs = some l → ∃ us, (rs.mapM f).run P w = .ok us w ∧ RepL G w l us
  | [], l, h => by
    simp [aresults] at h
    subst h
    exact ⟨[], by simp, RepL.nil _ _⟩
  | .tmp u :: rs, l, h => by
    simp only [aresults, Option.map_eq_some_iff] at h
    obtain ⟨l', hl, rfl⟩ := h
    obtain ⟨us, h1, h2⟩ := run_results hc hW ht f hf hcell hl
    refine ⟨tmps.getD u undef :: us, by simp [List.mapM_cons, hf, h1], RepL.cons ?_ h2⟩
    have := ht.getD u
    simpa [Array.getD_eq_getD_getElem?, List.getD] using this
  | .cell a t :: rs, l, h => by
    simp only [aresults, Option.map_eq_some_iff, Option.bind_eq_some_iff] at h
    obtain ⟨i, hi, v, hv, l', hl, rfl⟩ := h
    obtain ⟨us, h1, h2⟩ := run_results hc hW ht f hf hcell hl
    have hu : Rep G w (tm.getD a .undef) (tmps.getD a undef) := by
      have := ht.getD a
      simpa [Array.getD_eq_getD_getElem?, List.getD] using this
    obtain ⟨q, k1, k2⟩ := run_aload hc hW hi hv hu
    have hp : ∃ ad, tmps.getD a undef = .pointer (some ad) := by
      generalize tm.getD a .undef = x at hv hu
      generalize tmps.getD a undef = y at hu
      unfold St.load at hv
      split at hv
      · cases hu; exact ⟨_, rfl⟩
      · cases hu; exact ⟨_, rfl⟩
      · cases hu; exact ⟨_, rfl⟩
      · simp at hv
    obtain ⟨ad, had⟩ := hp
    rw [had] at k1
    refine ⟨q :: us, ?_, RepL.cons k2 h2⟩
    have k1' : (loadVar t ad).run P w = .ok q w := by simpa [Instr.loadAt, Instr.sureAddr] using k1
    rw [List.mapM_cons, hcell, had]
    simp [asAddr, k1', h1]

/-! ### The way out -/
theorem leaves_ok (hc : CfgOk P c) {fn : Func} {tm l : List AV} {tmps : Array Value} {R : Ending → World → Prop} :
    ∀ {ms : List Nat} {ds : List Deferred} {G : Gh} {S S2 : St} {w : World}, Wrel G S w → DefRel G ms ds → unmark S ms = some S2 → RepL G w tm tmps.toList → aresults c S2 tm fn.results.toList = some l →
      (∀ G' w' u, Wrel G' S2 w' → Step G S w G' S2 w' → Rep G' w' (one l) u → R (.returned u) w') → LeavesInM (FR none) 0 P fn tmps R ds .returning w
  | [], [], G, S, S2, w, hW, hd, hu, ht, hr, h => by
    simp [unmark] at hu
    subst hu
    have key : ∀ f : ResultVar → Sem Value, (∀ u, f (.tmp u) = pure (tmps.getD u undef)) → (∀ a t, f (.cell a t) = (do loadVar t (← asAddr (tmps.getD a undef)))) →
        ∃ v, (do let vs ← fn.results.mapM f; pure (if h : vs.size = 1 then vs[0] else .tuple vs) : Sem Value).run P w = .ok v w ∧ R (.returned v) w := fun f hf hcell => by
      obtain ⟨us, h1, h2⟩ := run_results hc hW ht f hf hcell hr
      refine ⟨_, ?_, h G w _ hW (.refl _ _ _) (one_rep h2)⟩
      rw [Array.mapM_eq_mapM_toList]
      simp only [Sem.run_bind, Sem.run_map, h1, Result.andThen, Sem.run_pure]
    exact key _ (fun u => rfl) (fun a t => rfl)
  | m :: ms, d :: ds, G, S, S2, w, hW, hd, hu, ht, hr, h => by
    obtain ⟨⟨b, hb, rfl⟩, hd⟩ := hd
    rw [unmark] at hu
    split at hu
    · rename_i hget
      simp only [Option.bind_eq_some_iff] at hu
      obtain ⟨S1, hp, hu⟩ := hu
      obtain ⟨hbase, rfl⟩ := St.putO_some hp
      obtain ⟨b', hb', hheap⟩ := hW.obj _ _ hget
      cases hW.fblk _ _ _ hb hb'
      obtain ⟨g1, g2⟩ := put_step (a := .dead) (ob' := .deferred none) hW hget hbase hb hheap (by simp) rfl rfl (fun b' x => x.elim) fun _ => trivial
      refine ⟨by simp, .inl ⟨b, _, rfl, run_takeDeferred hheap, ?_⟩⟩
      exact leaves_ok hc g1 hd hu (g2.repL ht) hr fun G' w' u hW' hst hu => h G' w' u hW' (g2.trans hst) hu
    · simp at hu
  | [], d :: ds, G, S, S2, w, hW, hd, _, _, _, _ => hd.elim
  | m :: ms, [], G, S, S2, w, hW, hd, _, _, _, _ => hd.elim

theorem callS_ok (hc : CfgOk P c) {R : Rec} (hR : ∀ code fr S ex fr' S', R.code code fr S = some (ex, fr', S') → CodeOk P code fr S ex fr' S') {f : FuncId} {args : List AV} {S S' : St} {r : AV} (h : callS c R f args S = some (r, S')) : CallOk P f args S r S' := by
  unfold callS at h
  simp only [Option.bind_eq_some_iff] at h
  obtain ⟨fn, hfn, b, hb, ⟨ex, fr', S1⟩, hrun, h⟩ := h
  split at h
  · rename_i hex
    simp only [Option.bind_eq_some_iff, Option.map_eq_some_iff, Prod.mk.injEq] at h
    obtain ⟨S2, hS2, l, hl, rfl, rfl⟩ := h
    obtain ⟨hf, hname⟩ := hc.fn f fn hfn
    obtain ⟨_, _, hcode⟩ := hR _ _ _ _ _ _ hrun
    intro G w vs hW hv
    refine ⟨by simp [callFunc, Sem.run_bind, hf, hb]; simpa using hname, ?_⟩
    refine callsIn_wide.1 (callsIn_of_wp_marks (n := 0) (F := Fence.wide) hf hb trivial ?_)
    have hlen := hv.1
    simp at hlen
    refine hcode G w _ none _ hW ?_ trivial trivial fun G' w' a' hW' hst ht hd => ?_
    · have := hv.append (RepL.replicate (G := G) (w := w) (fn.ntmps - args.length) (x := .undef) (v := undef) .undef)
      simpa [hlen] using this
    · have hex' : bodyPostM Fence.wide 0 P fn (fun e w' => ∃ G' u, e = .returned u ∧ Wrel G' S2 w' ∧ Step G S w G' S2 w' ∧ Rep G' w' (one l) u) (toExit ex) a' w' =
          LeavesInM Fence.wide 0 P fn a'.tmps (fun e w' => ∃ G' u, e = .returned u ∧ Wrel G' S2 w' ∧ Step G S w G' S2 w' ∧ Rep G' w' (one l) u) a'.defers .returning w' := by
        rcases hex with e | e <;> (simp only at e; subst e; rfl)
      rw [hex']
      exact leaves_ok hc hW' hd hS2 ht hl fun G'' w'' u hW'' hst' hu => ⟨G'', u, rfl, hW'', hst.trans hst', hu⟩
  · simp at h

end Go.Am
