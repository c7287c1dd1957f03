/- THE ABSTRACT MACHINE, THIRTY-FOURTH FILE: the machine without fuel. -/
import Derived.Test.YtghpjjhdbankhaaAm32
set_option linter.unusedSimpArgs false
set_option linter.unusedVariables false
namespace Go.Am
variable {c : Cfg}

/-- From some number on. -/
def Ev (p : Nat → Prop) : Prop := ∃ n, ∀ m, n ≤ m → p m

theorem Ev.all {p : Nat → Prop} (h : ∀ m, p m) : Ev p := ⟨0, fun m _ => h m⟩
theorem Ev.mono {p q : Nat → Prop} (h : Ev p) (k : ∀ m, p m → q m) : Ev q := let ⟨n, hn⟩ := h; ⟨n, fun m hm => k m (hn m hm)⟩
theorem Ev.mono2 {p q r : Nat → Prop} (h : Ev p) (h' : Ev q) (k : ∀ m, p m → q m → r m) : Ev r :=
  let ⟨n, hn⟩ := h
  let ⟨n', hn'⟩ := h'
  ⟨max n n', fun m hm => k m (hn m (by omega)) (hn' m (by omega))⟩

/-- What comes of the one comes of the others, from some number on. -/
def To {α : Type} (X : Option α) (Xs : Nat → Option α) : Prop := ∀ r, X = some r → Ev fun m => Xs m = some r

theorem To.same {α : Type} (X : Option α) : To X fun _ => X := fun r h => .all fun _ => h
theorem To.bind {α β : Type} {X : Option α} {Xs : Nat → Option α} {f : α → Option β} {fs : Nat → α → Option β} (h : To X Xs) (k : ∀ a, To (f a) fun m => fs m a) : To (X.bind f) fun m => (Xs m).bind (fs m) := by
  intro r hr
  simp only [Option.bind_eq_some_iff] at hr
  obtain ⟨a, ha, hr⟩ := hr
  exact (h a ha).mono2 (k a r hr) fun m h1 h2 => by simp [h1, h2]
theorem To.map {α β : Type} {X : Option α} {Xs : Nat → Option α} {f : α → β} (h : To X Xs) : To (X.map f) fun m => (Xs m).map f := by
  intro r hr
  simp only [Option.map_eq_some_iff] at hr
  obtain ⟨a, ha, hr⟩ := hr
  exact (h a ha).mono fun m h1 => by simp [h1, hr]
theorem To.ite {α : Type} {p : Prop} [Decidable p] {X Y : Option α} {Xs Ys : Nat → Option α} (h : To X Xs) (k : To Y Ys) : To (if p then X else Y) fun m => if p then Xs m else Ys m := by
  by_cases hp : p
  · simpa [hp] using h
  · simpa [hp] using k

structure Lim (R : Rec) (Rs : Nat → Rec) : Prop where
  code : ∀ code fr S, To (R.code code fr S) fun m => (Rs m).code code fr S
  call : ∀ f args S, To (R.call f args S) fun m => (Rs m).call f args S

variable {R : Rec} {Rs : Nat → Rec}

theorem Lim.callM (L : Lim R Rs) (f : FuncId) (args : List AV) (S : St) : To (callM c R f args S) fun m => callM c (Rs m) f args S := by
  unfold Am.callM
  cases c.mode f with
  | raw => exact L.call _ _ _
  | pure => exact .bind (.same _) fun a => .bind (L.call _ _ _) fun r => .same _
  | temp => exact .bind (L.call _ _ _) fun r => .same _

theorem Lim.callF (L : Lim R Rs) (f : FuncId) (args : List AV) (S : St) : To (callF c R f args S) fun m => callF c (Rs m) f args S := by
  unfold Am.callF
  cases c.ext f with
  | none => exact L.callM _ _ _
  | some F =>
    cases F with
    | val F => exact .same _
    | push F =>
      simp only
      cases (XT.push F).run args S with
      | some r => exact .same _
      | none => exact L.callM _ _ _

theorem Lim.yieldS (L : Lim R Rs) (l : Nat) (args : List AV) (S : St) : To (yieldS R l args S) fun m => yieldS (Rs m) l args S := by
  unfold Am.yieldS
  cases S.get l with
  | none => exact .same _
  | some ob =>
    cases ob with
    | loop st p fn tmps ps asg body d =>
      cases st with
      | ready =>
        simp only
        refine .ite (.bind (L.code _ _ _) fun r => ?_) (.same _)
        refine .ite ?_ (.same _)
        cases r.2.2.get l with
        | none => exact .same _
        | some ob2 =>
          cases ob2 with
          | loop st2 p2 fn2 tmps2 ps2 asg2 body2 d2 =>
            cases st2 with
            | ready => exact .bind (.same _) fun Sb => .bind (L.code _ _ _) fun q => .same _
            | _ => exact .same _
          | _ => exact .same _
      | _ => exact .same _
    | _ => exact .same _

theorem Lim.callV (L : Lim R Rs) (g : AV) (args : List AV) (S : St) : To (callV c R g args S) fun m => callV c (Rs m) g args S := by
  unfold Am.callV
  cases g with
  | fn f a b => exact L.callF _ _ _
  | yield l => exact L.yieldS _ _ _
  | _ => exact .same _

theorem Lim.aeff (L : Lim R Rs) (fid rid : Nat) (tm : List AV) (o : Oper) (S : St) : To (aeff c R fid rid tm o S) fun m => aeff c (Rs m) fid rid tm o S := by
  unfold Am.aeff
  cases o.op with
  | call k =>
    obtain ⟨callee, args, argTypes⟩ := k
    cases callee with
    | value f => exact .bind (.same _) fun g => .bind (.same _) fun a => L.callV _ _ _
    | builtin b => cases b <;> exact .same _
    | _ => exact .same _
  | slice t x lo hi mx => cases mx <;> exact .same _
  | _ => exact .same _

theorem Lim.aop (L : Lim R Rs) (fid rid : Nat) (tm : List AV) (o : Oper) (S : St) : To (aop c R fid rid tm o S) fun m => aop c (Rs m) fid rid tm o S := by
  unfold Am.aop
  cases aval c tm o S with
  | some v => exact .same _
  | none => exact L.aeff _ _ _ _ _

theorem Lim.calm (L : Lim R Rs) (tm : List AV) (o : Oper) : To (calm c R tm o) fun m => calm c (Rs m) tm o := by
  unfold Am.calm
  cases o.op with
  | call k =>
    obtain ⟨callee, args, argTypes⟩ := k
    cases callee with
    | value f =>
      cases f with
      | func f =>
        simp only
        cases c.ext f with
        | some F => cases F <;> exact .same _
        | none =>
          simp only
          cases c.mode f with
          | pure => exact .bind (.same _) fun a => .bind (.same _) fun q => .ite (.bind (L.call _ _ _) fun r => .same _) (.same _)
          | _ => exact .same _
      | _ => exact .same _
    | _ => exact .same _
  | _ => exact .same _

theorem Lim.opD (L : Lim R Rs) (fid rid : Nat) (tm : List AV) (o : Oper) (S : St) : To (opD c R fid rid tm o S) fun m => opD c (Rs m) fid rid tm o S := by
  unfold Am.opD
  cases aval c tm o S with
  | some v => exact .same _
  | none => exact .ite (.map (L.calm _ _)) (.map (L.aeff _ _ _ _ _))

theorem Lim.runOps (L : Lim R Rs) (fid rid : Nat) (ops : Array Oper) : ∀ (l : List Oper) (tm : List AV) (S : St), To (runOps c R fid rid ops l tm S) fun m => runOps c (Rs m) fid rid ops l tm S
  | [], tm, S => by simp only [Am.runOps]; exact .same _
  | o :: l, tm, S => by
    simp only [Am.runOps]
    exact .ite (.bind (L.aop _ _ _ _ _) fun r => L.runOps _ _ _ _ _ _) (L.runOps _ _ _ _ _ _)

theorem Lim.runOpsD (L : Lim R Rs) (fid rid : Nat) (ops : Array Oper) : ∀ (l : List Oper) (tm : List AV) (S : St), To (runOpsD c R fid rid ops l tm S) fun m => runOpsD c (Rs m) fid rid ops l tm S
  | [], tm, S => by simp only [Am.runOpsD]; exact .same _
  | o :: l, tm, S => by
    simp only [Am.runOpsD]
    exact .ite (.bind (L.opD _ _ _ _ _) fun r => .map (L.runOpsD _ _ _ _ _ _)) (.map (L.runOpsD _ _ _ _ _ _))

theorem Lim.aregion (L : Lim R Rs) (fid rid : Nat) (ops : Array Oper) (draw : Bool) (tm : List AV) (S : St) : To (aregion c R fid rid ops draw tm S) fun m => aregion c (Rs m) fid rid ops draw tm S := by
  unfold Am.aregion
  exact .ite (.ite (.bind (L.runOpsD _ _ _ _ _ _) fun q => .same _) (.same _)) (L.runOps _ _ _ _ _ _)

theorem Lim.execS (L : Lim R Rs) : ∀ (code : Code) (fr : Fr) (S : St), To (execS c R code fr S) fun m => execS c (Rs m) code fr S
  | .region id ops draw, fr, S => by simp only [Am.execS]; exact .map (L.aregion _ _ _ _ _ _)
  | .seq a b, fr, S => by
    simp only [Am.execS]
    exact .bind (L.execS a _ _) fun r => .ite (L.execS b _ _) (.same _)
  | .cond x a b, fr, S => by
    simp only [Am.execS]
    cases evalT fr.tmps x with
    | none => exact .same _
    | some v =>
      cases v with
      | bool t => cases t with
        | true => exact L.execS a _ _
        | false => exact L.execS b _ _
      | _ => exact .same _
  | .block id b, fr, S => by simp only [Am.execS]; exact .map (L.execS b _ _)
  | .loop b, fr, S => by
    simp only [Am.execS]
    exact .bind (L.execS b _ _) fun r => .ite (L.code _ _ _) (.same _)
  | .rangeFunc g ps asg body, fr, S => by
    simp only [Am.execS]
    refine .bind (.same _) fun q => ?_
    cases evalT fr.tmps g with
    | none => exact .same _
    | some v =>
      cases v with
      | fn f a b => exact .bind (L.call _ _ _) fun r => .same _
      | _ => exact .same _
  | .skip, fr, S => .same _
  | .label _, fr, S => .same _
  | .exit _, fr, S => .same _
  | .goto _, fr, S => .same _
  | .ret, fr, S => .same _
  | .refuse _, fr, S => .same _
  | .scope _, fr, S => .same _

theorem Lim.callS (L : Lim R Rs) (f : FuncId) (args : List AV) (S : St) : To (callS c R f args S) fun m => callS c (Rs m) f args S := by
  unfold Am.callS
  exact .bind (.same _) fun fn => .bind (.same _) fun b => .bind (L.code _ _ _) fun r => .same _

/-! ### More fuel, the same -/
theorem run_le (c : Cfg) : ∀ n, Lim (run c n) fun _ => run c (n + 1)
  | 0 => ⟨fun _ _ _ _ h => by simp [run] at h, fun _ _ _ _ h => by simp [run] at h⟩
  | n + 1 => ⟨fun code fr S => (run_le c n).execS code fr S, fun f args S => (run_le c n).callS f args S⟩

theorem run_code_le {n m : Nat} (h : n ≤ m) {code : Code} {fr : Fr} {S : St} {r : Ex × Fr × St} (k : (run c n).code code fr S = some r) : (run c m).code code fr S = some r := by
  induction h with
  | refl => exact k
  | step h ih =>
    obtain ⟨j, hj⟩ := (run_le c _).code _ _ _ _ ih
    exact hj j (Nat.le_refl _)
theorem run_call_le {n m : Nat} (h : n ≤ m) {f : FuncId} {args : List AV} {S : St} {r : AV × St} (k : (run c n).call f args S = some r) : (run c m).call f args S = some r := by
  induction h with
  | refl => exact k
  | step h ih =>
    obtain ⟨j, hj⟩ := (run_le c _).call _ _ _ _ ih
    exact hj j (Nat.le_refl _)

open Classical in
/-- What comes of some fuel. -/
noncomputable def lim (c : Cfg) : Rec where
  code code fr S := if h : ∃ n r, (run c n).code code fr S = some r then some h.choose_spec.choose else none
  call f args S := if h : ∃ n r, (run c n).call f args S = some r then some h.choose_spec.choose else none

theorem lim_code {code : Code} {fr : Fr} {S : St} {r : Ex × Fr × St} : (lim c).code code fr S = some r ↔ ∃ n, (run c n).code code fr S = some r := by
  unfold lim
  simp only
  constructor
  · intro h
    split at h
    · rename_i hx
      simp only [Option.some.injEq] at h
      subst h
      exact ⟨_, hx.choose_spec.choose_spec⟩
    · simp at h
  · rintro ⟨n, h⟩
    have hx : ∃ n r, (run c n).code code fr S = some r := ⟨n, r, h⟩
    rw [dif_pos hx]
    have k := hx.choose_spec.choose_spec
    have h1 := run_code_le (Nat.le_max_left n hx.choose) h
    have h2 := run_code_le (Nat.le_max_right n hx.choose) k
    rw [h1] at h2
    exact h2.symm
theorem lim_call {f : FuncId} {args : List AV} {S : St} {r : AV × St} : (lim c).call f args S = some r ↔ ∃ n, (run c n).call f args S = some r := by
  unfold lim
  simp only
  constructor
  · intro h
    split at h
    · rename_i hx
      simp only [Option.some.injEq] at h
      subst h
      exact ⟨_, hx.choose_spec.choose_spec⟩
    · simp at h
  · rintro ⟨n, h⟩
    have hx : ∃ n r, (run c n).call f args S = some r := ⟨n, r, h⟩
    rw [dif_pos hx]
    have k := hx.choose_spec.choose_spec
    have h1 := run_call_le (Nat.le_max_left n hx.choose) h
    have h2 := run_call_le (Nat.le_max_right n hx.choose) k
    rw [h1] at h2
    exact h2.symm

theorem lim_lim (c : Cfg) : Lim (lim c) (run c) :=
  ⟨fun code fr S r h => let ⟨n, hn⟩ := lim_code.1 h; ⟨n, fun m hm => run_code_le hm hn⟩, fun f args S r h => let ⟨n, hn⟩ := lim_call.1 h; ⟨n, fun m hm => run_call_le hm hn⟩⟩

theorem lim_ge (c : Cfg) (n : Nat) : Lim (run c n) fun _ => lim c :=
  ⟨fun code fr S r h => ⟨0, fun _ _ => lim_code.2 ⟨n, h⟩⟩, fun f args S r h => ⟨0, fun _ _ => lim_call.2 ⟨n, h⟩⟩⟩

/-- The machine without fuel: what a function comes to is what its body comes to. -/
theorem lim_call_eq (c : Cfg) (f : FuncId) (args : List AV) (S : St) : (lim c).call f args S = callS c (lim c) f args S := by
  apply Option.ext
  intro r
  constructor
  · intro h
    obtain ⟨n, hn⟩ := lim_call.1 h
    cases n with
    | zero => simp [run] at hn
    | succ n =>
      obtain ⟨_, k⟩ := (lim_ge c n).callS f args S r hn
      exact k _ (Nat.le_refl _)
  · intro h
    obtain ⟨n, k⟩ := (lim_lim c).callS f args S r h
    exact lim_call.2 ⟨n + 1, k n (Nat.le_refl _)⟩
theorem lim_code_eq (c : Cfg) (code : Code) (fr : Fr) (S : St) : (lim c).code code fr S = execS c (lim c) code fr S := by
  apply Option.ext
  intro r
  constructor
  · intro h
    obtain ⟨n, hn⟩ := lim_code.1 h
    cases n with
    | zero => simp [run] at hn
    | succ n =>
      obtain ⟨_, k⟩ := (lim_ge c n).execS code fr S r hn
      exact k _ (Nat.le_refl _)
  · intro h
    obtain ⟨n, k⟩ := (lim_lim c).execS code fr S r h
    exact lim_code.2 ⟨n + 1, k n (Nat.le_refl _)⟩

theorem lim_of_run {n : Nat} {f : FuncId} {args : List AV} {S : St} {r : AV × St} (h : (run c n).call f args S = some r) : (lim c).call f args S = some r := lim_call.2 ⟨n, h⟩

theorem lim_sound {P : Program} (hc : CfgOk P c) {f : FuncId} {args : List AV} {S S' : St} {r : AV} (h : (lim c).call f args S = some (r, S')) : CallOk P f args S r S' :=
  let ⟨n, hn⟩ := lim_call.1 h
  (run_sound hc n).call _ _ _ _ _ hn

end Go.Am
