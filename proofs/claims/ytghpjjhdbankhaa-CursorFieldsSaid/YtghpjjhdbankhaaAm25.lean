/- THE ABSTRACT MACHINE, TWENTY-SIXTH FILE: the list of objects is as long as is said. -/
import Derived.Test.YtghpjjhdbankhaaAm24
set_option linter.unusedSimpArgs false
set_option linter.unusedVariables false
namespace Go.Am
variable {c : Cfg}

def Keeps (S S' : St) : Prop := S.h.length = S.n → S'.h.length = S'.n ∧ S'.base = S.base

theorem Keeps.refl (S : St) : Keeps S S := fun h => ⟨h, rfl⟩
theorem Keeps.trans {A B C : St} (h : Keeps A B) (k : Keeps B C) : Keeps A C := fun x => ⟨(k (h x).1).1, (k (h x).1).2.trans (h x).2⟩
theorem Keeps.set (S : St) (o : Nat) (a : AObj) : Keeps S (S.set o a) := fun h => ⟨by simp [St.set, h], rfl⟩
theorem Keeps.push (S : St) (a : AObj) : Keeps S (S.push a) := fun h => ⟨by simp [St.push, h], rfl⟩
theorem Keeps.putO {S S' : St} {o : Nat} {a : AObj} (h : S.putO o a = some S') : Keeps S S' := by
  obtain ⟨_, rfl⟩ := St.putO_some h
  exact .set _ _ _

theorem Keeps.lockAll : ∀ {l : List (Nat × Nat)} {S S' : St}, S.lockAll l = some S' → Keeps S S'
  | [], S, S', h => by simp [St.lockAll] at h; subst h; exact .refl _
  | (o, k) :: l, S, S', h => by
    rw [St.lockAll] at h
    split at h
    · simp only [Option.bind_eq_some_iff] at h
      obtain ⟨S1, h1, h2⟩ := h
      exact (Keeps.putO h1).trans (Keeps.lockAll h2)
    · simp at h

theorem Keeps.store {S S' : St} {i : Ty} {p v : AV} (h : S.store i p v = some S') : Keeps S S' := by
  unfold St.store at h
  split at h
  · split at h
    · split at h
      · split at h
        · exact .putO h
        · simp at h
      · simp at h
    · split at h
      · simp only [Option.bind_eq_some_iff] at h
        obtain ⟨cs, _, h⟩ := h
        split at h
        · exact .putO h
        · simp at h
      · simp at h
    · simp at h
  · simp at h

theorem Keeps.append {S S' : St} {es bytes : Nat} {mutb : Bool} {x r : AV} {ys : Rows} (h : aappend es bytes mutb x ys S = some (r, S')) : Keeps S S' := by
  have fresh : ∀ {rows : Rows}, aappend.fresh es mutb rows S = some (r, S') → Keeps S S' := fun h => by
    unfold aappend.fresh at h
    split at h
    all_goals
      simp only [Option.some.injEq, Prod.mk.injEq] at h
      obtain ⟨_, rfl⟩ := h
      exact .push _ _
  unfold aappend at h
  split at h
  · simp at h
  · split at h
    · cases x <;> simp only [Option.some.injEq, Prod.mk.injEq, reduceCtorEq] at h <;> (obtain ⟨_, rfl⟩ := h; exact .refl _)
    · split at h
      · split at h
        · exact fresh h
        · simp at h
      · split at h
        · exact fresh h
        · simp at h
      · split at h
        · split at h
          · simp only [Option.some.injEq, Prod.mk.injEq] at h
            obtain ⟨_, rfl⟩ := h
            exact .set _ _ _
          · simp at h
        · simp at h
      · split at h
        · split at h
          · simp only [Option.some.injEq, Prod.mk.injEq] at h
            obtain ⟨_, rfl⟩ := h
            exact .set _ _ _
          · simp at h
        · simp at h
      · simp at h

structure RecLen (R : Rec) : Prop where
  code : ∀ code fr S ex fr' S', R.code code fr S = some (ex, fr', S') → Keeps S S'
  call : ∀ f args S r S', R.call f args S = some (r, S') → Keeps S S'

theorem Keeps.callM {R : Rec} (hR : RecLen R) {f : FuncId} {args : List AV} {S S' : St} {r : AV} (h : callM c R f args S = some (r, S')) : Keeps S S' := by
  unfold Am.callM at h
  split at h
  · exact hR.call _ _ _ _ _ h
  · simp only [Option.bind_eq_some_iff, Option.map_eq_some_iff, Prod.mk.injEq] at h
    obtain ⟨_, _, _, _, _, _, S1, hS1, _, rfl⟩ := h
    exact .lockAll hS1
  · simp only [Option.bind_eq_some_iff, Option.map_eq_some_iff, Prod.mk.injEq] at h
    obtain ⟨_, _, _, _, S1, hS1, _, rfl⟩ := h
    exact .lockAll hS1

theorem Keeps.callF {R : Rec} (hR : RecLen R) {f : FuncId} {args : List AV} {S S' : St} {r : AV} (h : callF c R f args S = some (r, S')) : Keeps S S' := by
  unfold Am.callF at h
  split at h
  · simp only [XT.run, Option.map_eq_some_iff, Prod.mk.injEq] at h
    obtain ⟨_, _, _, rfl⟩ := h; exact .refl _
  · split at h
    · rename_i q hq
      simp only [Option.some.injEq] at h
      subst h
      simp only [XT.run, Option.map_eq_some_iff, Prod.mk.injEq] at hq
      obtain ⟨_, _, _, rfl⟩ := hq; exact .push _ _
    · exact .callM hR h
  · exact .callM hR h

theorem Keeps.yieldS {R : Rec} (hR : RecLen R) {l : Nat} {args : List AV} {S S' : St} {v : AV} (h : yieldS R l args S = some (v, S')) : Keeps S S' := by
  unfold Am.yieldS at h
  split at h
  case h_2 => simp at h
  split at h
  case isFalse => simp at h
  simp only [Option.bind_eq_some_iff] at h
  obtain ⟨⟨ex1, fr1, S1⟩, h1, h⟩ := h
  split at h
  case isFalse => simp at h
  split at h
  case h_2 => simp at h
  simp only [Option.bind_eq_some_iff] at h
  obtain ⟨Sb, hp, ⟨ex2, fr2, S2⟩, h2, h⟩ := h
  split at h
  case h_2 => simp at h
  simp only [Option.map_eq_some_iff, Prod.mk.injEq] at h
  obtain ⟨Se, hp2, _, rfl⟩ := h
  exact (((hR.code _ _ _ _ _ _ h1).trans (.putO hp)).trans (hR.code _ _ _ _ _ _ h2)).trans (.putO hp2)

theorem Keeps.callV {R : Rec} (hR : RecLen R) {g : AV} {args : List AV} {S S' : St} {v : AV} (h : callV c R g args S = some (v, S')) : Keeps S S' := by
  unfold Am.callV at h
  split at h
  · exact .callF hR h
  · exact .yieldS hR h
  · simp at h

theorem Keeps.aeff {R : Rec} (hR : RecLen R) {fid rid : Nat} {tm : List AV} {o : Oper} {S S' : St} {v : AV} (h : aeff c R fid rid tm o S = some (v, S')) : Keeps S S' := by
  unfold Am.aeff at h
  split at h
  · simp only [Option.bind_eq_some_iff, Option.map_eq_some_iff, Prod.mk.injEq] at h
    obtain ⟨_, _, _, _, _, rfl⟩ := h
    exact .push _ _
  · simp only [Option.bind_eq_some_iff] at h
    obtain ⟨x, hx, h⟩ := h
    split at h
    · simp only [Option.some.injEq, Prod.mk.injEq] at h
      obtain ⟨_, rfl⟩ := h
      exact .push _ _
    · simp at h
  · simp only [Option.bind_eq_some_iff, Option.map_eq_some_iff, Prod.mk.injEq] at h
    obtain ⟨i, hi, p, hp, x, hx, S1, hS, _, rfl⟩ := h
    exact .store hS
  · split at h
    · simp only [Option.bind_eq_some_iff] at h
      obtain ⟨ei, he, z, hz, lv, hl, cv, hcv, h⟩ := h
      split at h
      · split at h
        · simp only [Option.some.injEq, Prod.mk.injEq] at h
          obtain ⟨_, rfl⟩ := h
          exact .push _ _
        · simp at h
      · simp at h
    · simp at h
  · split at h
    · simp only [Option.bind_eq_some_iff] at h
      obtain ⟨ei, he, x, hx, l, hl, hh, hhh, h⟩ := h
      split at h
      · split at h
        · simp only [Option.bind_eq_some_iff] at h
          obtain ⟨h', hb1, l', hb2, h⟩ := h
          split at h
          · simp only [Option.map_eq_some_iff, Prod.mk.injEq] at h
            obtain ⟨S1, hp, _, rfl⟩ := h
            exact .putO hp
          · simp at h
        · simp at h
      · simp at h
    · simp at h
  · split at h
    · split at h
      · simp at h
      · simp at h
      · simp only [Option.bind_eq_some_iff] at h
        obtain ⟨ei, he, xa, hxa, ya, hya, ys, hys, h⟩ := h
        split at h
        · exact .append h
        · simp at h
      · simp at h
    · simp at h
  · simp only [Option.bind_eq_some_iff] at h
    obtain ⟨g, hg, as, ha, h⟩ := h
    exact .callV hR h
  · simp at h

theorem Keeps.opD {R : Rec} (hR : RecLen R) {fid rid : Nat} {tm : List AV} {o : Oper} {S S' : St} {v : AV} {ft : Foot} (h : opD c R fid rid tm o S = some (v, S', ft)) : Keeps S S' := by
  unfold Am.opD at h
  split at h
  · simp only [Option.some.injEq, Prod.mk.injEq] at h
    obtain ⟨_, rfl, _⟩ := h
    exact .refl _
  · split at h
    · simp only [Option.map_eq_some_iff, Prod.mk.injEq] at h
      obtain ⟨_, _, _, rfl, _⟩ := h
      exact .refl _
    · simp only [Option.map_eq_some_iff, Prod.mk.injEq] at h
      obtain ⟨⟨r, S1⟩, h1, _, rfl, _⟩ := h
      exact .aeff hR h1

theorem Keeps.runOpsD {R : Rec} (hR : RecLen R) {fid rid : Nat} {ops : Array Oper} : ∀ {l : List Oper} {tm tm' : List AV} {S S' : St} {fs : List Foot}, runOpsD c R fid rid ops l tm S = some (tm', S', fs) → Keeps S S'
  | [], tm, tm', S, S', fs, h => by
    simp only [Am.runOpsD, Option.some.injEq, Prod.mk.injEq] at h
    obtain ⟨_, rfl, _⟩ := h
    exact .refl _
  | o :: l, tm, tm', S, S', fs, h => by
    rw [Am.runOpsD] at h
    split at h
    · simp only [Option.bind_eq_some_iff, Option.map_eq_some_iff, Prod.mk.injEq] at h
      obtain ⟨⟨v, S1, ft⟩, h1, ⟨tm2, S2, fs2⟩, h2, _, rfl, _⟩ := h
      exact (Keeps.opD hR h1).trans (Keeps.runOpsD hR h2)
    · simp only [Option.map_eq_some_iff, Prod.mk.injEq] at h
      obtain ⟨⟨tm2, S2, fs2⟩, h2, _, rfl, _⟩ := h
      exact Keeps.runOpsD hR h2

theorem Keeps.runOps {R : Rec} (hR : RecLen R) {fid rid : Nat} {ops : Array Oper} : ∀ {l : List Oper} {tm tm' : List AV} {S S' : St}, runOps c R fid rid ops l tm S = some (tm', S') → Keeps S S'
  | [], tm, tm', S, S', h => by
    simp only [Am.runOps, Option.some.injEq, Prod.mk.injEq] at h
    obtain ⟨_, rfl⟩ := h
    exact .refl _
  | o :: l, tm, tm', S, S', h => by
    rw [Am.runOps] at h
    split at h
    · simp only [Option.bind_eq_some_iff] at h
      obtain ⟨⟨v, S1⟩, h1, h2⟩ := h
      refine Keeps.trans ?_ (Keeps.runOps hR h2)
      unfold aop at h1
      split at h1
      · simp only [Option.some.injEq, Prod.mk.injEq] at h1
        obtain ⟨_, rfl⟩ := h1
        exact .refl _
      · exact .aeff hR h1
    · exact Keeps.runOps hR h

theorem Keeps.aregion {R : Rec} (hR : RecLen R) {fid rid : Nat} {ops : Array Oper} {draw : Bool} {tm tm' : List AV} {S S' : St} (h : aregion c R fid rid ops draw tm S = some (tm', S')) : Keeps S S' := by
  unfold Am.aregion at h
  split at h
  · split at h
    · simp only [Option.bind_eq_some_iff] at h
      obtain ⟨⟨tm2, S2, fs⟩, h1, h⟩ := h
      split at h
      · simp only [Option.some.injEq, Prod.mk.injEq] at h
        obtain ⟨_, rfl⟩ := h
        exact .runOpsD hR h1
      · simp at h
    · simp at h
  · exact .runOps hR h

theorem Keeps.execS {R : Rec} (hR : RecLen R) : ∀ (code : Code) (fr : Fr) (S : St) (ex : Ex) (fr' : Fr) (S' : St), execS c R code fr S = some (ex, fr', S') → Keeps S S' := by
  intro code
  induction code with
  | region id ops draw =>
    intro fr S ex fr' S' h
    simp only [Am.execS, Option.map_eq_some_iff, Prod.mk.injEq] at h
    obtain ⟨⟨tm, S1⟩, h, _, _, rfl⟩ := h
    exact .aregion hR h
  | seq x y ihx ihy =>
    intro fr S ex fr' S' h
    simp only [Am.execS, Option.bind_eq_some_iff] at h
    obtain ⟨⟨ex1, fr1, S1⟩, h1, h⟩ := h
    split at h
    · exact (ihx _ _ _ _ _ h1).trans (ihy _ _ _ _ _ h)
    · simp only [Option.some.injEq, Prod.mk.injEq] at h
      obtain ⟨_, _, rfl⟩ := h
      exact ihx _ _ _ _ _ h1
  | cond x y z ihy ihz =>
    intro fr S ex fr' S' h
    rw [Am.execS] at h
    split at h
    · exact ihy _ _ _ _ _ h
    · exact ihz _ _ _ _ _ h
    · simp at h
  | block id b ih =>
    intro fr S ex fr' S' h
    simp only [Am.execS, Option.map_eq_some_iff] at h
    obtain ⟨⟨ex1, fr1, S1⟩, h1, h⟩ := h
    unfold exitBlock at h
    split at h <;> (simp only [Prod.mk.injEq] at h; obtain ⟨_, _, rfl⟩ := h; exact ih _ _ _ _ _ h1)
  | loop b ih =>
    intro fr S ex fr' S' h
    simp only [Am.execS, Option.bind_eq_some_iff] at h
    obtain ⟨⟨ex1, fr1, S1⟩, h1, h⟩ := h
    split at h
    · exact (ih _ _ _ _ _ h1).trans (hR.code _ _ _ _ _ _ h)
    · simp only [Option.some.injEq, Prod.mk.injEq] at h
      obtain ⟨_, _, rfl⟩ := h
      exact ih _ _ _ _ _ h1
  | rangeFunc g ps asg body =>
    intro fr S ex fr' S' h
    rw [Am.execS] at h
    simp only [Option.bind_eq_some_iff] at h
    obtain ⟨⟨d, S1, mk⟩, hstart, h⟩ := h
    have h0 : Keeps S S1 := by
      unfold rangeStart at hstart
      split at hstart
      · simp only [Option.some.injEq, Prod.mk.injEq] at hstart
        obtain ⟨_, rfl, _⟩ := hstart
        exact .push _ _
      · split at hstart
        · simp only [Option.some.injEq, Prod.mk.injEq] at hstart
          obtain ⟨_, rfl, _⟩ := hstart
          exact .refl _
        · simp at hstart
    split at h
    case h_2 => simp at h
    simp only [Option.bind_eq_some_iff] at h
    obtain ⟨⟨rv, S2⟩, hcall, h⟩ := h
    unfold rangeEnd at h
    split at h
    case h_2 => simp at h
    split at h
    · simp at h
    simp only [Option.map_eq_some_iff, Prod.mk.injEq] at h
    obtain ⟨S3, hp, _, _, rfl⟩ := h
    exact ((h0.trans (.push _ _)).trans (hR.call _ _ _ _ _ hcall)).trans (.putO hp)
  | _ =>
    intro fr S ex fr' S' h
    first
      | (simp [Am.execS] at h; done)
      | (simp only [Am.execS, Option.some.injEq, Prod.mk.injEq] at h
         obtain ⟨_, _, rfl⟩ := h
         exact .refl _)

theorem Keeps.unmark : ∀ {ms : List Nat} {S S' : St}, unmark S ms = some S' → Keeps S S'
  | [], S, S', h => by simp [Am.unmark] at h; subst h; exact .refl _
  | m :: ms, S, S', h => by
    rw [Am.unmark] at h
    split at h
    · simp only [Option.bind_eq_some_iff] at h
      obtain ⟨S1, h1, h2⟩ := h
      exact (Keeps.putO h1).trans (Keeps.unmark h2)
    · simp at h

theorem Keeps.callS {R : Rec} (hR : RecLen R) {f : FuncId} {args : List AV} {S S' : St} {r : AV} (h : callS c R f args S = some (r, S')) : Keeps S S' := by
  unfold Am.callS at h
  simp only [Option.bind_eq_some_iff] at h
  obtain ⟨fn, hfn, b, hb, ⟨ex, fr', S1⟩, hrun, h⟩ := h
  split at h
  · simp only [Option.bind_eq_some_iff, Option.map_eq_some_iff, Prod.mk.injEq] at h
    obtain ⟨S2, hS2, l, hl, _, rfl⟩ := h
    exact (hR.code _ _ _ _ _ _ hrun).trans (.unmark hS2)
  · simp at h

theorem run_recLen : ∀ n, RecLen (run c n)
  | 0 => ⟨fun _ _ _ _ _ _ h => by simp [run] at h, fun _ _ _ _ _ h => by simp [run] at h⟩
  | n + 1 => ⟨fun code fr S ex fr' S' h => .execS (run_recLen n) code fr S ex fr' S' h, fun f args S r S' h => .callS (run_recLen n) h⟩

end Go.Am
