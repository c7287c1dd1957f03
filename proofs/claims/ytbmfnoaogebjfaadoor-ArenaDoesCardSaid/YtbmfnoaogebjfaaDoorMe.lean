/- THE ABSTRACT MACHINE, A PART OF IT. -/
import Derived.Test.YtbmfnoaogebjfaaDoorMd
/- THE ABSTRACT MACHINE, TWENTY-SEVENTH FILE: what operations that come up in another order find. -/
set_option linter.unusedSimpArgs false
set_option linter.unusedVariables false
namespace Go.Am
variable {P : Program} {c : Cfg}

/-! ### Cells, and who turns them -/
section cut
variable {X V : Type} {n : Nat} {val : Nat → X → V} {T F : Nat → X → Prop} {less : Nat → Nat → Prop}

/-- A cell's content, when the operations of L have been carried out: whoever turns it ahead of a cut is in L, whoever turns it behind is not. -/
def Cut (n : Nat) (val : Nat → X → V) (T : Nat → X → Prop) (L : Nat → Prop) (x : X) (v : V) : Prop :=
  ∃ q, q ≤ n ∧ (∀ j, j < q → T j x → L j) ∧ (∀ j, q ≤ j → j < n → T j x → ¬ L j) ∧ v = val q x

/-- Operations of which one turns what the other looks at have an order. -/
def Ordered (n : Nat) (T F : Nat → X → Prop) (less : Nat → Nat → Prop) : Prop :=
  ∀ i j x, i < n → j < n → T j x → F i x → (j < i → less j i) ∧ (i < j → less i j)

theorem val_const (hv : ∀ i x, i < n → ¬ T i x → val (i + 1) x = val i x) {x : X} : ∀ {k i : Nat}, i + k ≤ n → (∀ j, i ≤ j → j < i + k → ¬ T j x) → val (i + k) x = val i x
  | 0, i, _, _ => rfl
  | k + 1, i, hle, h => by
    rw [← Nat.add_assoc, hv (i + k) x (by omega) (h _ (by omega) (by omega))]
    exact val_const hv (by omega) fun j h1 h2 => h j h1 (by omega)

theorem val_eq (hv : ∀ i x, i < n → ¬ T i x → val (i + 1) x = val i x) {x : X} {i q : Nat} (hiq : i ≤ q) (hq : q ≤ n) (h : ∀ j, i ≤ j → j < q → ¬ T j x) : val q x = val i x := by
  have := val_const hv (x := x) (k := q - i) (i := i) (by omega) fun j h1 h2 => h j h1 (by omega)
  rwa [show i + (q - i) = q by omega] at this

theorem Cut.zero (L : Nat → Prop) (hL : ∀ j, ¬ L j) (x : X) : Cut n val T L x (val 0 x) := ⟨0, Nat.zero_le _, fun j h => by omega, fun j _ _ _ => hL j, rfl⟩

theorem Cut.all (hv : ∀ i x, i < n → ¬ T i x → val (i + 1) x = val i x) {L : Nat → Prop} (hL : ∀ j, j < n → L j) {x : X} {v : V} (h : Cut n val T L x v) : v = val n x := by
  obtain ⟨q, hq, h1, h2, rfl⟩ := h
  exact (val_eq hv hq (Nat.le_refl n) fun j a b ht => h2 j a b ht (hL j b)).symm

theorem Cut.look (hv : ∀ i x, i < n → ¬ T i x → val (i + 1) x = val i x) (ho : Ordered n T F less) {L : Nat → Prop} (hc : ∀ i j, less i j → L j → L i) {i : Nat} (hi : i < n) (hiL : ¬ L i) (hp : ∀ j, less j i → L j) {x : X} {v : V} (hF : F i x) (h : Cut n val T L x v) : v = val i x := by
  obtain ⟨q, hq, h1, h2, rfl⟩ := h
  rcases (Nat.lt_or_ge i q).symm with hqi | hqi
  · exact (val_eq hv hqi (by omega) fun j a b ht => h2 j a (by omega) ht (hp j ((ho i j x hi (by omega) ht hF).1 b))).symm
  · refine val_eq hv (by omega) hq fun j a b ht => ?_
    rcases Nat.lt_or_eq_of_le a with a | rfl
    · exact hiL (hc i j ((ho i j x hi (by omega) ht hF).2 a) (h1 j b ht))
    · exact hiL (h1 i b ht)

theorem Cut.off {L : Nat → Prop} {i : Nat} {x : X} {v : V} (hT : ¬ T i x) (h : Cut n val T L x v) : Cut n val T (fun j => L j ∨ j = i) x v := by
  obtain ⟨q, hq, h1, h2, rfl⟩ := h
  refine ⟨q, hq, fun j a ht => .inl (h1 j a ht), fun j a b ht hL => ?_, rfl⟩
  rcases hL with hL | rfl
  · exact h2 j a b ht hL
  · exact hT ht

theorem Cut.on (ho : Ordered n T F less) (hTF : ∀ i x, T i x → F i x) {L : Nat → Prop} (hc : ∀ i j, less i j → L j → L i) {i : Nat} (hi : i < n) (hiL : ¬ L i) (hp : ∀ j, less j i → L j) {x : X} (hT : T i x) : Cut n val T (fun j => L j ∨ j = i) x (val (i + 1) x) := by
  refine ⟨i + 1, hi, fun j a ht => ?_, fun j a b ht hL => ?_, rfl⟩
  · rcases Nat.lt_or_eq_of_le (Nat.le_of_lt_succ a) with a | rfl
    · exact .inl (hp j ((ho i j x hi (by omega) ht (hTF _ _ hT)).1 a))
    · exact .inr rfl
  · rcases hL with hL | rfl
    · exact hiL (hc i j ((ho i j x hi b ht (hTF _ _ hT)).2 (by omega)) hL)
    · omega
/-- .. where the operation at hand alone is known to look at what it turns. -/
theorem Cut.on' (ho : Ordered n T F less) {L : Nat → Prop} (hc : ∀ i j, less i j → L j → L i) {i : Nat} (hTF : ∀ x, T i x → F i x) (hi : i < n) (hiL : ¬ L i) (hp : ∀ j, less j i → L j) {x : X} (hT : T i x) : Cut n val T (fun j => L j ∨ j = i) x (val (i + 1) x) := by
  refine ⟨i + 1, hi, fun j a ht => ?_, fun j a b ht hL => ?_, rfl⟩
  · rcases Nat.lt_or_eq_of_le (Nat.le_of_lt_succ a) with a | rfl
    · exact .inl (hp j ((ho i j x hi (by omega) ht (hTF _ hT)).1 a))
    · exact .inr rfl
  · rcases hL with hL | rfl
    · exact hiL (hc i j ((ho i j x hi b ht (hTF _ hT)).2 (by omega)) hL)
    · omega
end cut

end Go.Am

/- THE ABSTRACT MACHINE, TWENTY-EIGHTH FILE: one operation of a region whose order is open. -/
set_option linter.unusedSimpArgs false
set_option linter.unusedVariables false
namespace Go.Am
open Go.RowKit
variable [Pin] {P : Program} {c : Cfg}

omit [Pin] in
theorem aeff_noval {R : Rec} {fid rid : Nat} {tm : List AV} {o : Oper} {S : St} {r : AV × St} (h : aeff c R fid rid tm o S = some r) (C : St) : aval c tm o C = none := by
  obtain ⟨dst, op, type, pos, after, guard⟩ := o
  cases op with
  | call cl =>
    obtain ⟨callee, args, argTypes⟩ := cl
    cases callee with
    | value f => simp only [aval]
    | builtin b => cases b <;> first | (simp [aeff] at h; done) | simp only [aval]
    | invoke r m => simp only [aval]
  | slice t x lo hi mx =>
    cases mx with
    | some m => simp only [aval]
    | none =>
      simp only [aeff] at h
      split at h
      · rename_i n e hk
        simp only [aval, hk]
        cases evalT tm x with
        | none => rfl
        | some v =>
          cases evalO tm lo with
          | none => rfl
          | some l =>
            cases evalO tm hi with
            | none => rfl
            | some hh => cases v <;> rfl
      · simp at h
  | makeFunc f first cap => simp [aeff] at h
  | _ => first | (simp [aeff] at h; done) | simp only [aval]

omit [Pin] in
theorem wfoot_same {tm tm' : List AV} {o : Oper} (S : St) (h : SameOn tm tm' o.op.operands.toList) : wfoot c tm o S = wfoot c tm' o S := by
  obtain ⟨dst, op, type, pos, after, guard⟩ := o
  simp only at h
  cases op with
  | call cl =>
    obtain ⟨callee, args, argTypes⟩ := cl
    have ha : SameOn tm tm' args.toList := fun x hx => h x (by simp only [Op.operands, Call.operands, Array.toList_append, List.mem_append]; exact .inr hx)
    cases callee with
    | value f =>
      cases f with
      | func f =>
        simp only [wfoot]
        rw [evalL_same ha]
      | _ => simp only [wfoot]
    | builtin b =>
      cases b <;> simp only [wfoot]
      split
      · rename_i x y hxy
        rw [ha x (by rw [hxy]; simp), refsO_same (ha y (by rw [hxy]; simp))]
      · rfl
    | invoke r m => simp only [wfoot]
  | store t a x => simp only [wfoot]; rw [refsO_same (h a (by simp [Op.operands]))]
  | slice t x lo hi mx => simp only [wfoot]; rw [refsO_same (h x (by simp [Op.operands]))]
  | _ => simp only [wfoot]

omit [Pin] in
theorem opD_same {R : Rec} {fid rid : Nat} {tm tm' : List AV} {o : Oper} (S : St) (h : SameOn tm tm' o.op.operands.toList) : opD c R fid rid tm o S = opD c R fid rid tm' o S := by
  unfold opD
  rw [aval_same S h, calm_same h, calmable_same h, aeff_same S h, wfoot_same S h, rfoot_same h]

theorem opD_ok (hc : CfgOk P c) {R : Rec} (hR : RecOk P R) {fid rid : Nat} {tm : List AV} {o : Oper} {S S1 : St} {v : AV} {ft : Foot} (h : opD c R fid rid tm o S = some (v, S1, ft)) : OpOk P tm o S v S1 := by
  unfold opD at h
  split at h
  · rename_i v' hv
    simp only [Option.some.injEq, Prod.mk.injEq] at h
    obtain ⟨rfl, rfl, rfl⟩ := h
    exact aval_ok hc hv
  · split at h
    · simp only [Option.map_eq_some_iff, Prod.mk.injEq] at h
      obtain ⟨v', hv, rfl, rfl, rfl⟩ := h
      exact calm_ok hc hR hv _
    · simp only [Option.map_eq_some_iff, Prod.mk.injEq] at h
      obtain ⟨⟨r, S2⟩, h1, rfl, rfl, rfl⟩ := h
      exact aeff_ok hc hR h1

omit [Pin] in
theorem opD_local {R : Rec} (hL : RecLen R) {fid rid : Nat} {tm : List AV} {o : Oper} {S S1 C : St} {v : AV} {ft : Foot} (h : opD c R fid rid tm o S = some (v, S1, ft)) (hn : Near ft S C) :
    ∃ C1, opD c R fid rid tm o C = some (v, C1, ft) ∧ Alike ft S S1 C C1 := by
  unfold opD at h ⊢
  split at h
  · rename_i v' hv
    simp only [Option.some.injEq, Prod.mk.injEq] at h
    obtain ⟨rfl, rfl, rfl⟩ := h
    have := aval_local (c := c) (tm := tm) (o := o) (S := S) (S' := C) fun o' ho => (hn.F o' ho).symm
    refine ⟨C, ?_, Alike.same hn.lenS hn.len hn.T hn.N⟩
    rw [← this, hv]
  · split at h
    · rename_i hnv hcm
      simp only [Option.map_eq_some_iff, Prod.mk.injEq] at h
      obtain ⟨v', hv, rfl, rfl, rfl⟩ := h
      refine ⟨C, ?_, Alike.same hn.lenS hn.len hn.T hn.N⟩
      obtain ⟨f, args, at_, ho, _⟩ := calm_call hv S
      have : aval c tm o C = none := by simp only [aval, ho]
      rw [this]
      simp only [hv, Option.map_some, if_pos hcm]
    · rename_i hnv hcalm
      simp only [Option.map_eq_some_iff, Prod.mk.injEq] at h
      obtain ⟨⟨r, S2⟩, h1, rfl, rfl, rfl⟩ := h
      have hk := Keeps.aeff hL h1 hn.lenS
      obtain ⟨C1, k1, k2, k3⟩ := aeff_local h1 hn hk.1 hk.2
      refine ⟨C1, ?_, k3⟩
      rw [aeff_noval h1 C]
      simp only [if_neg hcalm, k1, Option.map_some, k2]

/-! ### What is ahead -/
omit [Pin] in
theorem ancs_inv {L : Nat → Prop} : ∀ {l : List Oper} {acc : List (List Nat)}, (∀ k i, i ∈ acc.getD k [] → L k → L i) → (∀ k o, l[k]? = some o → L (acc.length + k) → ∀ e ∈ edgesAny o, L e) →
    ∀ k i, i ∈ (ancs l acc).getD k [] → L k → L i
  | [], acc, h, _ => h
  | o :: l, acc, h, hl => by
    rw [ancs]
    refine ancs_inv (fun k i hi hk => ?_) (fun k o' ho hk => hl (k + 1) o' (by simpa using ho) (by simp at hk; rwa [show acc.length + (k + 1) = acc.length + 1 + k by omega]))
    rw [List.getD, List.getElem?_append] at hi
    split at hi
    · exact h k i hi hk
    · rename_i hge
      cases hkk : k - acc.length with
      | succ m => rw [hkk] at hi; simp at hi
      | zero =>
        rw [hkk] at hi
        simp only [List.getElem?_cons_zero, Option.getD_some, List.mem_eraseDups, List.mem_flatMap, List.mem_cons] at hi
        obtain ⟨e, he, hi⟩ := hi
        have hkl : k = acc.length + 0 := by omega
        have hLe : L e := hl 0 o rfl (by rw [← hkl]; exact hk) e he
        rcases hi with rfl | hi
        · exact hLe
        · exact h e i hi hLe

/-! ### Places that are kept ready -/
/-- A dead object's place is taken. -/
theorem born_step {G : Gh} {S : St} {w : World} {r : Nat} {a : AObj} {ob : Obj} (h : Wrel G S w) (hd : S.get r = some .dead) (hbase : S.base ≤ r) (hn : ∀ b, ¬ G.blk r b)
    (hg : genOf a = none) (ho : ∀ b, ownsA (G.addBlk r w.heap.size) r a b → (G.addBlk r w.heap.size).blk r b)
    (hobj : ObjRel (G.addBlk r w.heap.size) (w.alloc ob) r a) : Wrel (G.addBlk r w.heap.size) (S.set r a) (w.alloc ob) ∧ StepK (· = r) G S w (G.addBlk r w.heap.size) (S.set r a) (w.alloc ob) := by
  have hlt := St.get_lt hd
  have hw := Laid.alloc w ob
  have hgl := G.le_addBlk r w.heap.size
  have hk := hw.kept h
  have hnew : ∀ b, (G.addBlk r w.heap.size).blk r b → b = w.heap.size := fun b hb => by
    rcases hb with hb | hb
    · exact (hn b hb).elim
    · exact hb.2
  have hold : ∀ o, o ≠ r → ∀ b, (G.addBlk r w.heap.size).blk o b → G.blk o b := fun o ho b hb => hb.resolve_right fun x => ho x.1
  have howns : ∀ o b, Owns (G.addBlk r w.heap.size) (S.set r a) o b → (o = r ∧ b = w.heap.size) ∨ (o ≠ r ∧ Owns G S o b) := fun o b ⟨a', ha, hob⟩ => by
    rcases St.get_set h.len hlt ha with ⟨rfl, rfl⟩ | ⟨hne, ha⟩
    · exact .inl ⟨rfl, hnew b (ho b hob)⟩
    · exact .inr ⟨hne, a', ha, hob.back (hold o hne) (fun g s _ hs => hs)⟩
  refine ⟨⟨by simp [St.set, h.len], h.base, fun o a' ha => ?_, fun o o' b h1 h2 => ?_, fun o b hob => ?_, fun o b b' h1 h2 => ?_, h.fseg, fun o b hb => ?_, fun o g s hs => ?_, fun b f hi => ?_, fun b x hx => ⟨(hw.heap b (h.pin_lt hx)).trans (h.pin b x hx).1, fun o hob => ?_⟩⟩, ?_⟩
  · rcases St.get_set h.len hlt ha with ⟨rfl, rfl⟩ | ⟨hne, ha⟩
    · exact hobj
    · exact (h.obj o a' ha).mono hgl hk (fun b hb => hw.heap b (h.lt o b ⟨a', ha, hb⟩)) (fun b f hb hi => hi)
  · rcases howns o b h1 with ⟨e1, k1⟩ | ⟨n1, k1⟩ <;> rcases howns o' b h2 with ⟨e2, k2⟩ | ⟨n2, k2⟩
    · rw [e1, e2]
    · have := h.lt o' b k2; omega
    · have := h.lt o b k1; omega
    · exact h.inj o o' b k1 k2
  · rcases howns o b hob with ⟨_, rfl⟩ | ⟨_, k⟩
    · simp
    · exact Nat.lt_of_lt_of_le (h.lt o b k) hw.size
  · by_cases e : o = r
    · subst e; rw [hnew b h1, hnew b' h2]
    · exact h.fblk o b b' (hold o e b h1) (hold o e b' h2)
  · rcases hb with hb | ⟨rfl, _⟩
    · exact h.bblk o b hb
    · exact hlt
  · obtain ⟨h1, h2⟩ := h.bseg o g s hs
    refine ⟨h1, fun a' g' ha hgen => ?_⟩
    rcases St.get_set h.len hlt ha with ⟨rfl, rfl⟩ | ⟨hne, ha⟩
    · rw [hg] at hgen; cases hgen
    · exact h2 a' g' ha hgen
  · obtain ⟨u, hu⟩ := h.im b f hi
    exact ⟨u, hk b f u hi hu⟩
  · rcases howns o b hob with ⟨_, rfl⟩ | ⟨_, k⟩
    · have := h.pin_lt hx; omega
    · exact (h.pin b x hx).2 o k
  · refine ⟨⟨hgl, hk, hw.size, hw.os, hw.tape, hw.output, fun b hb _ => hw.heap b hb, fun o b hob => ?_, fun b f hi => .inl hi, rfl, Nat.le_refl _, fun id hid => St.get_set_other a hlt (by omega)⟩, fun o ho' hdo => ⟨?_, hold o ho'⟩⟩
    · rcases howns o b hob with ⟨_, rfl⟩ | ⟨_, k⟩
      · exact .inr (Nat.le_refl _)
      · exact .inl ⟨o, k⟩
    · rw [St.get_set_other a hlt ho']; exact hdo

theorem comes_allocR (hc : CfgOk P c) {G : Gh} {S : St} {w : World} {e : TypeId} {i : Ty} {z : List AV} {r : Nat} (hW : Wrel G S w) (hi : c.ty e = some i) (hz : i.zero = some z) (hd : S.get r = some .dead) (hbase : S.base ≤ r) (hn : ∀ b, ¬ G.blk r b) :
    ∃ nx u w' G', (do pure (.value (← Instr.alloc e true (.tuple #[]))) : Sem Next).run P w = .ok nx w' ∧ (nx = .value u ∨ (nx = .skip ∧ u = undef)) ∧ Wrel G' (S.set r (.row z false)) w' ∧ StepK (· = r) G S w G' (S.set r (.row z false)) w' ∧ Rep G' w' (.ptr r 0) u := by
  obtain ⟨info, d, h1, h2, h3, h4, h5, h6⟩ := ty_inv (hc.ty e i hi)
  rw [h6] at hz
  simp only [Option.bind_eq_some_iff] at hz
  obtain ⟨zv, hzv, hz⟩ := hz
  obtain ⟨hr, hl, hzx⟩ := zeroC_rep (G := G) (w := w) hz
  have key : ∀ vs : Array Value, RepL G w z vs.toList → Wrel (G.addBlk r w.heap.size) (S.set r (.row z false)) (w.alloc (.cells vs e)) ∧ StepK (· = r) G S w (G.addBlk r w.heap.size) (S.set r (.row z false)) (w.alloc (.cells vs e)) := fun vs hr => by
    have hk := (Laid.alloc w (.cells vs e)).kept hW
    have hlen : vs.size = z.length := by simpa using hr.1
    refine born_step hW hd hbase hn rfl (fun b hb => hb) ⟨w.heap.size, G.addBlk_new _ _, open_new w vs e 0 _ (by omega), fun j x hj => ?_, fun _ f hi => ?_⟩
    · obtain ⟨u, hu, hru⟩ := hr.get hj
      refine ⟨hl j x hj, u, ?_, hru.mono (G.le_addBlk _ _) hk⟩
      rw [World.cell?_alloc_new]
      simpa using hu
    · have := hW.im_lt hi
      omega
  obtain ⟨k1, k2⟩ := key _ hr
  exact ⟨_, _, _, _, by simp [Instr.alloc, Sem.run_bind, run_zero_ty h1 hzv, newVar, newRow], .inl rfl, k1, k2, .ptr _ _ _ (G.addBlk_new _ _)⟩

omit [Pin] in
theorem isDead_some {x : Option AObj} (h : isDead x = true) : x = some .dead := by
  unfold isDead at h
  split at h
  · rfl
  · simp at h
omit [Pin] in
theorem isPlain_some {x : Option AObj} (h : isPlain x = true) : ∃ a, x = some a ∧ genOf a = none := by
  unfold isPlain at h
  split at h
  · exact ⟨_, rfl, rfl⟩
  · exact ⟨_, rfl, rfl⟩
  · simp at h

omit [Pin] in
theorem ownsA.back' {G G' : Gh} {w : World} {o b : Nat} {a : AObj} (hg : genOf a = none) (ho : ObjRel G w o a) (hle : G.Le G') (hf : ∀ o b b', G'.blk o b → G'.blk o b' → b = b') (k : ownsA G' o a b) : ownsA G o a b := by
  cases a with
  | dead => exact k.elim
  | seq g es rows exp => simp [genOf] at hg
  | tail g => simp [genOf] at hg
  | miter => exact ho.elim
  | row cs lock => obtain ⟨b0, h0, _⟩ := ho; rw [hf _ _ _ k (hle.blk _ _ h0)]; exact h0
  | map es clock => obtain ⟨b0, h0, _⟩ := ho; rw [hf _ _ _ k (hle.blk _ _ h0)]; exact h0
  | siter s pos => obtain ⟨b0, h0, _⟩ := ho; rw [hf _ _ _ k (hle.blk _ _ h0)]; exact h0
  | loop st pend fn tmps ps asg body d => obtain ⟨b0, db, tm, fn', h0, _⟩ := ho; rw [hf _ _ _ k (hle.blk _ _ h0)]; exact h0
  | dfr => obtain ⟨b0, h0, _⟩ := ho; rw [hf _ _ _ k (hle.blk _ _ h0)]; exact h0

theorem wrel_kill {G : Gh} {S : St} {w : World} {K : List Nat} (h : Wrel G S w) (hK : ∀ r ∈ K, r < S.n) : Wrel G (S.kill K) w := by
  have hget := fun o => St.get_kill (K := K) (o := o) h.len hK
  have hobj : ∀ o a, (S.kill K).get o = some a → a = .dead ∨ (o ∉ K ∧ S.get o = some a) := fun o a ha => by
    rw [hget] at ha
    split at ha
    · exact .inl (Option.some.inj ha).symm
    · rename_i hn; exact .inr ⟨hn, ha⟩
  have hown : ∀ o b, Owns G (S.kill K) o b → Owns G S o b := fun o b ⟨a, ha, ho⟩ => by
    rcases hobj o a ha with rfl | ⟨_, ha⟩
    · exact ho.elim
    · exact ⟨a, ha, ho⟩
  refine ⟨(Keeps.kill h.len).1, by rw [(Keeps.kill h.len).2, St.kill_n]; exact h.base, fun o a ha => ?_, fun o o' b x y => h.inj o o' b (hown _ _ x) (hown _ _ y), fun o b x => h.lt o b (hown _ _ x), h.fblk, h.fseg, fun o b hb => by rw [St.kill_n]; exact h.bblk o b hb, fun o g s hs => ?_, h.im, fun b x hx => ⟨(h.pin b x hx).1, fun o ho => (h.pin b x hx).2 o (hown o b ho)⟩⟩
  · rcases hobj o a ha with rfl | ⟨_, ha⟩
    · trivial
    · exact h.obj o a ha
  · rw [St.kill_n]
    refine ⟨(h.bseg o g s hs).1, fun a g' ha hgen => ?_⟩
    rcases hobj o a ha with rfl | ⟨_, ha⟩
    · cases hgen
    · exact (h.bseg o g s hs).2 a g' ha hgen

/-- What was out of sight is back. -/
theorem rest_step {G G1 : Gh} {S S1 : St} {w w1 : World} {K : List Nat} (h : Wrel G S w) (hK : ∀ r ∈ K, isPlain (S.get r) = true) (h1 : Wrel G1 S1 w1) (hst : Step G (S.kill K) w G1 S1 w1) (hd : ∀ r ∈ K, S1.get r = some .dead) :
    Wrel G1 (S.rest S1 K) w1 ∧ Step G S w G1 (S.rest S1 K) w1 := by
  have hKn : ∀ r ∈ K, r < S.n := fun r hr => by obtain ⟨a, ha, _⟩ := isPlain_some (hK r hr); exact St.get_lt ha
  have hget := fun o => St.get_kill (K := K) (o := o) h.len hKn
  have hres := fun o => St.get_rest (S := S) (K := K) (T := S1) (o := o) h1.len (fun r hr => St.get_lt (hd r hr)) (fun r hr => by obtain ⟨a, ha, _⟩ := isPlain_some (hK r hr); rw [ha]; rfl)
  have hkill : ∀ o b, Owns G (S.kill K) o b → o ∉ K ∧ Owns G S o b := fun o b ⟨a, ha, ho⟩ => by
    rw [hget] at ha
    split at ha
    · cases ha; exact ho.elim
    · rename_i hn; exact ⟨hn, a, ha, ho⟩
  have hcase : ∀ o a, (S.rest S1 K).get o = some a → (o ∈ K ∧ S.get o = some a ∧ genOf a = none) ∨ (o ∉ K ∧ S1.get o = some a) := fun o a ha => by
    rw [hres] at ha
    split at ha
    · rename_i hm
      obtain ⟨a', ha', hg⟩ := isPlain_some (hK o hm)
      rw [ha] at ha'
      cases ha'
      exact .inl ⟨hm, ha, hg⟩
    · rename_i hm; exact .inr ⟨hm, ha⟩
  have hback : ∀ o a b, o ∈ K → S.get o = some a → genOf a = none → ownsA G1 o a b → ownsA G o a b := fun o a b _ ha hg ho => ho.back' hg (h.obj o a ha) hst.le h1.fblk
  have hfree : ∀ o b, o ∈ K → Owns G S o b → ∀ o', ¬ Owns G (S.kill K) o' b := fun o b hm ho o' ho' => by
    obtain ⟨k1, k2⟩ := hkill o' b ho'
    exact k1 (h.inj o' o b k2 ho ▸ hm)
  have howns : ∀ o b, Owns G1 (S.rest S1 K) o b → (o ∈ K ∧ Owns G S o b) ∨ (o ∉ K ∧ Owns G1 S1 o b) := fun o b ⟨a, ha, ho⟩ => by
    rcases hcase o a ha with ⟨hm, hs, hg⟩ | ⟨hm, hs⟩
    · exact .inl ⟨hm, a, hs, hback o a b hm hs hg ho⟩
    · exact .inr ⟨hm, a, hs, ho⟩
  have hapart : ∀ o b o', o ∈ K → Owns G S o b → ¬ Owns G1 S1 o' b := fun o b o' hm ho ho' => by
    rcases hst.fresh o' b ho' with ⟨o2, h2⟩ | h2
    · exact hfree o b hm ho o2 h2
    · have := h.lt o b ho; omega
  refine ⟨⟨(Keeps.rest h1.len).1, by rw [(Keeps.rest h1.len).2, St.rest_n]; exact h1.base, fun o a ha => ?_, fun o o' b x y => ?_, fun o b x => ?_, h1.fblk, h1.fseg, fun o b hb => by rw [St.rest_n]; exact h1.bblk o b hb, fun o g s hs => ?_, h1.im, fun b x hx => ⟨(h1.pin b x hx).1, fun o ho => ?_⟩⟩, ?_⟩
  · rcases hcase o a ha with ⟨hm, hs, hg⟩ | ⟨hm, hs⟩
    · refine (h.obj o a hs).mono hst.le hst.kept (fun b hb => hst.frame b (h.lt o b ⟨a, hs, hb⟩) (hfree o b hm ⟨a, hs, hb⟩)) (fun b f hb hi => ?_)
      rcases hst.newim b f hi with k | ⟨o', k⟩ | k
      · exact k
      · exact (hfree o b hm ⟨a, hs, hb⟩ o' k).elim
      · have := h.lt o b ⟨a, hs, hb⟩; omega
    · exact h1.obj o a hs
  · rcases howns o b x with ⟨m1, k1⟩ | ⟨m1, k1⟩ <;> rcases howns o' b y with ⟨m2, k2⟩ | ⟨m2, k2⟩
    · exact h.inj o o' b k1 k2
    · exact (hapart o b o' m1 k1 k2).elim
    · exact (hapart o' b o m2 k2 k1).elim
    · exact h1.inj o o' b k1 k2
  · rcases howns o b x with ⟨m1, k1⟩ | ⟨m1, k1⟩
    · exact Nat.lt_of_lt_of_le (h.lt o b k1) hst.size
    · exact h1.lt o b k1
  · rw [St.rest_n]
    refine ⟨(h1.bseg o g s hs).1, fun a g' ha hgen => ?_⟩
    rcases hcase o a ha with ⟨hm, hs', hg⟩ | ⟨hm, hs'⟩
    · rw [hg] at hgen; cases hgen
    · exact (h1.bseg o g s hs).2 a g' hs' hgen
  · rcases howns o b ho with ⟨m1, k1⟩ | ⟨m1, k1⟩
    · exact (h.pin b x hx).2 o k1
    · exact (h1.pin b x hx).2 o k1
  · refine ⟨⟨hst.le, hst.kept, hst.size, hst.os, hst.tape, hst.output, fun b hb hn => hst.frame b hb fun o ho => hn o (hkill o b ho).2, fun o b ho => ?_, fun b f hi => ?_, ?_, ?_, fun id hid => ?_⟩, fun o _ hdo => ⟨?_, ?_⟩⟩
    · rcases howns o b ho with ⟨m1, k1⟩ | ⟨m1, k1⟩
      · exact .inl ⟨o, k1⟩
      · rcases hst.fresh o b k1 with ⟨o', k⟩ | k
        · exact .inl ⟨o', (hkill o' b k).2⟩
        · exact .inr k
    · rcases hst.newim b f hi with k | ⟨o', k⟩ | k
      · exact .inl k
      · exact .inr (.inl ⟨o', (hkill o' b k).2⟩)
      · exact .inr (.inr k)
    · rw [(Keeps.rest h1.len).2, hst.base, (Keeps.kill h.len).2]
    · rw [St.rest_n]; have := hst.n; rw [St.kill_n] at this; exact this
    · rw [hres]
      split
      · rfl
      · rename_i hm
        rw [hst.low id (by rw [(Keeps.kill h.len).2]; exact hid), hget, if_neg hm]
    · rw [hres]
      split
      · exact hdo
      · rename_i hm
        exact (hst.dead o id (by rw [hget, if_neg hm]; exact hdo)).1
    · exact (hst.dead o id (by rw [hget]; split <;> first | rfl | exact hdo)).2

/-- What an operation in such a region is worth. -/
theorem opR_ok (hc : CfgOk P c) {R : Rec} (hR : RecOk P R) {fid rid : Nat} {K : List Nat} {r : Option Nat} {tm : List AV} {o : Oper} {S S1 : St} {v : AV} {ft : Foot} (h : opR c R fid rid K r tm o S = some (v, S1, ft)) (hK : ∀ k ∈ K, isPlain (S.get k) = true) :
    ∀ (G : Gh) (w : World) (a : Act) (rd : Option Nat) (K' : Act → World → Prop) (Q : Exit → Act → World → Prop), Wrel G S w → RepL G w tm a.tmps.toList → (∀ r', r = some r' → ∀ b, ¬ G.blk r' b) →
    (∀ G' w' u, Wrel G' S1 w' → StepK (fun x => r = some x) G S w G' S1 w' → Rep G' w' v u → K' (a.put o.dst u) w') → o.wpIn (FR rd) 0 P a w K' Q := by
  intro G w a rd K' Q hW ht hn hQ
  unfold opR at h
  split at h
  · rename_i r
    split at h
    · rename_i e ho
      obtain ⟨dst, op, type, pos, after, guard⟩ := o
      simp only at ho
      subst ho
      simp only [Option.bind_eq_some_iff] at h
      obtain ⟨i, hi, z, hz, h⟩ := h
      split at h
      · rename_i hd
        simp only [Option.some.injEq, Prod.mk.injEq] at h
        obtain ⟨rfl, rfl, rfl⟩ := h
        obtain ⟨nx, u, w', G', h1, h2, h3, h4, h5⟩ := comes_allocR (P := P) hc hW hi hz (isDead_some hd.1) hd.2 (hn r rfl)
        refine ⟨fun f _ => trivial, ?_⟩
        have h4' : StepK (fun x => some r = some x) G S w G' (S.set r (.row z false)) w' := h4.weak fun o e => by rw [e]
        rw [Oper.semAt_eq _ _ _ (by simp)]
        have h1' : (execOp a.eval ⟨dst, .alloc e, type, pos, after, guard⟩).run P w = .ok nx w' := h1
        rw [h1']
        rcases h2 with rfl | ⟨rfl, rfl⟩
        · exact hQ G' w' u h3 h4' h5
        · exact hQ G' w' _ h3 h4' h5
      · simp at h
    · simp at h
  · split at h
    · simp only [Option.bind_eq_some_iff] at h
      obtain ⟨⟨q, S2⟩, h1, h⟩ := h
      split at h
      · rename_i hd
        simp only [Option.some.injEq, Prod.mk.injEq] at h
        obtain ⟨rfl, rfl, rfl⟩ := h
        have hKn : ∀ k ∈ K, k < S.n := fun k hk => by obtain ⟨a, ha, _⟩ := isPlain_some (hK k hk); exact St.get_lt ha
        refine aeff_ok hc hR h1 G w a rd K' Q (wrel_kill hW hKn) ht fun G' w' u hW1 hst hu => ?_
        obtain ⟨k1, k2⟩ := rest_step hW hK hW1 hst fun k hk => isDead_some (List.all_eq_true.1 hd k hk)
        exact hQ G' w' u k1 (k2.weak fun _ x => x.elim) hu
      · simp at h
    · exact opD_ok hc hR h G w a rd K' Q hW ht fun G' w' u hW1 hst hu => hQ G' w' u hW1 (hst.weak fun _ x => x.elim) hu

omit [Pin] in
theorem opR_same {R : Rec} {fid rid : Nat} {K : List Nat} {r : Option Nat} {tm tm' : List AV} {o : Oper} (S : St) (h : SameOn tm tm' o.op.operands.toList) : opR c R fid rid K r tm o S = opR c R fid rid K r tm' o S := by
  unfold opR
  rw [opD_same S h, aeff_same (S.kill K) h]

omit [Pin] in
theorem opR_local {R : Rec} (hL : RecLen R) {fid rid : Nat} {K : List Nat} {r : Option Nat} {tm : List AV} {o : Oper} {S S1 C : St} {v : AV} {ft : Foot} (h : opR c R fid rid K r tm o S = some (v, S1, ft)) (hn : Near ft S C) (hK : ∀ k ∈ K, isPlain (S.get k) = true) (hC : ∀ k ∈ K, isPlain (C.get k) = true) :
    ∃ C1, opR c R fid rid K r tm o C = some (v, C1, ft) ∧ Alike ft S S1 C C1 := by
  unfold opR at h ⊢
  split at h
  · rename_i r
    split at h
    · rename_i e ho
      simp only [Option.bind_eq_some_iff] at h
      obtain ⟨i, hi, z, hz, h⟩ := h
      split at h
      · rename_i hd
        simp only [Option.some.injEq, Prod.mk.injEq] at h
        obtain ⟨rfl, rfl, rfl⟩ := h
        have hr := hn.F r (List.mem_singleton.2 rfl)
        refine ⟨C.set r (.row z false), ?_, alike_set hn.lenS hn.len (isDead_some hd.1) (hr.trans (isDead_some hd.1)) _⟩
        simp only [ho, hi, hz, Option.bind_some, hr, hn.base]
        rw [if_pos hd]
      · simp at h
    · simp at h
  · split at h
    · rename_i hq
      simp only [Option.bind_eq_some_iff] at h
      obtain ⟨⟨q, S2⟩, h1, h⟩ := h
      split at h
      · rename_i hd
        simp only [Option.some.injEq, Prod.mk.injEq] at h
        obtain ⟨rfl, rfl, rfl⟩ := h
        have hKS : ∀ k ∈ K, k < S.n := fun k hk => by obtain ⟨a, ha, _⟩ := isPlain_some (hK k hk); exact St.get_lt ha
        have hKC : ∀ k ∈ K, k < C.n := fun k hk => by obtain ⟨a, ha, _⟩ := isPlain_some (hC k hk); exact St.get_lt ha
        have hCn : C.n = S.n := hn.N rfl
        have hkill : C.kill K = S.kill K := by
          refine St.ext_get (Keeps.kill hn.lenS).1 (Keeps.kill hn.len).1 (by rw [St.kill_n, St.kill_n, hCn]) (by rw [(Keeps.kill hn.lenS).2, (Keeps.kill hn.len).2, hn.base]) fun x => ?_
          rw [St.get_kill hn.lenS hKS, St.get_kill hn.len hKC]
          split
          · rfl
          · rename_i hx; exact hn.F x hx
        have hl2 := (Keeps.aeff hL h1 (Keeps.kill hn.lenS).1)
        have hK2 : ∀ k ∈ K, k < S2.n := fun k hk => St.get_lt (isDead_some (List.all_eq_true.1 hd k hk))
        have eC := fun x => St.get_rest (S := C) (K := K) (T := S2) (o := x) hl2.1 hK2 (fun k hk => by obtain ⟨a, ha, _⟩ := isPlain_some (hC k hk); rw [ha]; rfl)
        have eS := fun x => St.get_rest (S := S) (K := K) (T := S2) (o := x) hl2.1 hK2 (fun k hk => by obtain ⟨a, ha, _⟩ := isPlain_some (hK k hk); rw [ha]; rfl)
        refine ⟨C.rest S2 K, ?_, ⟨(Keeps.rest hl2.1).1, (Keeps.rest hl2.1).1, ?_, ?_, fun x hx => ?_, fun x hx => ?_, fun _ => by rw [St.rest_n, St.rest_n], fun e => by cases e⟩⟩
        · simp only [if_pos hq, hkill, h1, Option.bind_some]
          rw [if_pos hd]
        · rw [(Keeps.rest hl2.1).2, hl2.2, (Keeps.kill hn.lenS).2, hn.base]
        · rw [(Keeps.rest hl2.1).2, hl2.2, (Keeps.kill hn.lenS).2]
        · have hx : x ∉ K := hx
          rw [eC, eS, if_neg hx, if_neg hx]
        · have hx : x ∈ K := Classical.byContradiction fun hh => hx hh
          rw [eC, eS, if_pos hx, if_pos hx]
          exact ⟨rfl, rfl⟩
      · simp at h
    · rename_i hq
      obtain ⟨C1, q1, q2⟩ := opD_local hL h hn
      exact ⟨C1, by simp only [if_neg hq]; exact q1, q2⟩

end Go.Am

/- THE ABSTRACT MACHINE, TWENTY-NINTH FILE: regions whose order is open. -/
set_option linter.unusedSimpArgs false
set_option linter.unusedVariables false
namespace Go.Am
open Go.RowKit
variable [Pin] {P : Program} {c : Cfg}

/-- The run in the order of the text, step by step. -/
structure Trace (c : Cfg) (R : Rec) (fid rid : Nat) (ops : Array Oper) (K : List Nat) (rd : Nat → Option Nat) (l : List Oper) (tm : List AV) (S : St) (tm' : List AV) (S' : St) (fs : List Foot) (tms : Nat → List AV) (Ss : Nat → St) (vs : Nat → AV) (ft : Nat → Foot) : Prop where
  tm0 : tms 0 = tm
  S0 : Ss 0 = S
  tmn : tms l.length = tm'
  Sn : Ss l.length = S'
  feet : ∀ i, i < l.length → fs[i]? = some (ft i)
  step : ∀ i o, l[i]? = some o → tms (i + 1) = putT (tms i) o.dst (vs i) ∧
    ((awanted ops (tms i) o = true ∧ opR c R fid rid K (rd i) (tms i) o (Ss i) = some (vs i, Ss (i + 1), ft i)) ∨ (awanted ops (tms i) o = false ∧ vs i = .undef ∧ Ss (i + 1) = Ss i ∧ ft i = .none))
  kinds : ∀ i, i ≤ l.length → ∀ k ∈ K, isPlain ((Ss i).get k) = true

def shift {α : Type} (a : α) (f : Nat → α) : Nat → α
  | 0 => a
  | i + 1 => f i

omit [Pin] in
theorem trace_ofR {R : Rec} {fid rid : Nat} {ops : Array Oper} {K : List Nat} {rd : Nat → Option Nat} : ∀ {l : List Oper} {i0 : Nat} {tm tm' : List AV} {S S' : St} {fs : List Foot}, (∀ k ∈ K, isPlain (S.get k) = true) → runOpsR c R fid rid ops K rd l i0 tm S = some (tm', S', fs) →
    ∃ tms Ss vs ft, Trace c R fid rid ops K (fun i => rd (i0 + i)) l tm S tm' S' fs tms Ss vs ft
  | [], i0, tm, tm', S, S', fs, hK, h => by
    simp only [runOpsR, Option.some.injEq, Prod.mk.injEq] at h
    obtain ⟨rfl, rfl, rfl⟩ := h
    exact ⟨fun _ => tm, fun _ => S, fun _ => .undef, fun _ => .none, rfl, rfl, rfl, rfl, fun i hi => by simp at hi, fun i o hi => by simp at hi, fun i _ => hK⟩
  | o :: l, i0, tm, tm', S, S', fs, hK, h => by
    have hrd : (fun i => rd (i0 + 1 + i)) = fun i => rd (i0 + (i + 1)) := funext fun i => by congr 1; omega
    rw [runOpsR] at h
    split at h
    · rename_i hw
      simp only [Option.bind_eq_some_iff] at h
      obtain ⟨⟨v, S1, f⟩, h1, h⟩ := h
      split at h
      case isFalse => simp at h
      rename_i hk
      simp only [Option.map_eq_some_iff, Prod.mk.injEq] at h
      obtain ⟨⟨tm2, S2, fs2⟩, h2, rfl, rfl, rfl⟩ := h
      obtain ⟨tms, Ss, vs, ft, t⟩ := trace_ofR (List.all_eq_true.1 hk) h2
      rw [hrd] at t
      refine ⟨shift tm tms, shift S Ss, shift v vs, shift f ft, rfl, rfl, t.tmn, t.Sn, fun i hi => ?_, fun i o' hi => ?_, fun i hi => ?_⟩
      · cases i with
        | zero => rfl
        | succ i => simpa [shift] using t.feet i (by simpa using hi)
      · cases i with
        | zero =>
          simp at hi
          subst hi
          refine ⟨by simp only [shift, t.tm0], .inl ⟨hw, ?_⟩⟩
          simp only [shift, t.S0]
          exact h1
        | succ i => exact t.step i o' (by simpa using hi)
      · cases i with
        | zero => exact hK
        | succ i => exact t.kinds i (by simpa using hi)
    · rename_i hw
      simp only [Option.map_eq_some_iff, Prod.mk.injEq] at h
      obtain ⟨⟨tm2, S2, fs2⟩, h2, rfl, rfl, rfl⟩ := h
      obtain ⟨tms, Ss, vs, ft, t⟩ := trace_ofR hK h2
      rw [hrd] at t
      refine ⟨shift tm tms, shift S Ss, shift .undef vs, shift .none ft, rfl, rfl, t.tmn, t.Sn, fun i hi => ?_, fun i o' hi => ?_, fun i hi => ?_⟩
      · cases i with
        | zero => rfl
        | succ i => simpa [shift] using t.feet i (by simpa using hi)
      · cases i with
        | zero =>
          simp at hi
          subst hi
          exact ⟨by simp only [shift, t.tm0], .inr ⟨by simpa [shift] using hw, rfl, by simp only [shift, t.S0], rfl⟩⟩
        | succ i => exact t.step i o' (by simpa using hi)
      · cases i with
        | zero => exact hK
        | succ i => exact t.kinds i (by simpa using hi)

omit [Pin] in
theorem opR_nil {R : Rec} {fid rid : Nat} {tm : List AV} {o : Oper} {S : St} : opR c R fid rid [] none tm o S = opD c R fid rid tm o S := by
  simp [opR]
omit [Pin] in
theorem runOpsR_nil {R : Rec} {fid rid : Nat} {ops : Array Oper} : ∀ {l : List Oper} {i : Nat} {tm : List AV} {S : St}, runOpsR c R fid rid ops [] (fun _ => none) l i tm S = runOpsD c R fid rid ops l tm S
  | [], i, tm, S => rfl
  | o :: l, i, tm, S => by
    simp only [runOpsR, runOpsD, opR_nil, List.all_nil, if_true, runOpsR_nil]
omit [Pin] in
theorem trace_of {R : Rec} {fid rid : Nat} {ops : Array Oper} {l : List Oper} {tm tm' : List AV} {S S' : St} {fs : List Foot} (h : runOpsD c R fid rid ops l tm S = some (tm', S', fs)) : ∃ tms Ss vs ft, Trace c R fid rid ops [] (fun _ => none) l tm S tm' S' fs tms Ss vs ft :=
  trace_ofR (i0 := 0) (by simp) (runOpsR_nil.trans h)

/-! ### The order -/
def Less (ops : Array Oper) (i j : Nat) : Prop := i ∈ (ahead ops).getD j []

omit [Pin] in
/-- A set of operations of which each has those ahead of it. -/
theorem less_closed {ops : Array Oper} {L : Nat → Prop} (h : ∀ j o, ops[j]? = some o → L j → ∀ e ∈ edgesAny o, L e) : ∀ i j, Less ops i j → L j → L i := fun i j hij hj =>
  ancs_inv (acc := []) (fun k i hi => by simp at hi) (fun k o ho hk => h k o (by simpa using ho) (by simpa using hk)) j i hij hj

omit [Pin] in
theorem mem_edgesAny {o : Oper} {e : Nat} : e ∈ edgesAny o ↔ ∃ d ∈ o.after, Region.binds .any d = true ∧ d.on = e := by
  simp only [edgesAny, List.mem_map, List.mem_filter, Array.mem_toList_iff, and_assoc]

structure DrawFacts (ops : Array Oper) : Prop where
  edges : ∀ j o, ops[j]? = some o → ∀ e ∈ edgesAny o, e < j
  temps : ∀ i j x y, i < j → ops[i]? = some x → ops[j]? = some y → Less ops i j ∨ tempsApart ops x y = true

omit [Pin] in
theorem drawFacts {ops : Array Oper} (h : drawOk ops = true) : DrawFacts ops := by
  simp only [drawOk, Bool.and_eq_true, List.all_eq_true, List.mem_range, Bool.or_eq_true, decide_eq_true_eq, List.contains_iff_mem] at h
  obtain ⟨h1, h2⟩ := h
  refine ⟨fun j o ho e he => ?_, fun i j x y hij hi hj => ?_⟩
  · exact h1 (o, j) (by rw [List.mem_zipIdx_iff_getElem?]; simpa using ho) e he
  · have hjn := (Array.getElem?_eq_some_iff.1 hj).1
    have := h2 j hjn i hij
    rw [hi, hj] at this
    exact this

omit [Pin] in
theorem feetFacts {ops : Array Oper} {fs : List Foot} (h : feetOk ops fs = true) : ∀ i j x y, i < j → j < ops.size → fs[i]? = some x → fs[j]? = some y → Less ops i j ∨ x.apart y = true := by
  simp only [feetOk, List.all_eq_true, List.mem_range, Bool.or_eq_true, List.contains_iff_mem] at h
  intro i j x y hij hjn hi hj
  have := h j hjn i hij
  rw [hi, hj] at this
  exact this

end Go.Am

/- THE ABSTRACT MACHINE, THIRTIETH FILE: regions whose order is open are sound. -/
set_option linter.unusedSimpArgs false
set_option linter.unusedVariables false
namespace Go.Am
open Go.RowKit
variable [Pin] {P : Program} {c : Cfg}

omit [Pin] in
theorem countP_flip {n i : Nat} {p q : Nat → Bool} (hi : i < n) (hp : p i = true) (hq : q i = false) (h : ∀ j, j ≠ i → q j = p j) : (List.range n).countP q + 1 = (List.range n).countP p := by
  induction n with
  | zero => omega
  | succ n ih =>
    rw [List.range_succ, List.countP_append, List.countP_append]
    simp only [List.countP_cons, List.countP_nil]
    by_cases e : i = n
    · subst e
      have : (List.range i).countP q = (List.range i).countP p := List.countP_congr fun j hj => by
        rw [List.mem_range] at hj
        rw [h j (by omega)]
      rw [this, hp, hq]
      simp
    · have := ih (by omega)
      rw [h n (fun h => e h.symm)]
      omega

section draw
variable {R : Rec} {fid rid : Nat} {ops : Array Oper} {K : List Nat} {rdn : Nat → Option Nat} {tm tm' : List AV} {S S' : St} {fs : List Foot} {tms : Nat → List AV} {Ss : Nat → St} {vs : Nat → AV} {ft : Nat → Foot}

def dstIs (ops : Array Oper) (i : Nat) (t : Tmp) : Prop := ∃ o, ops[i]? = some o ∧ o.dst = some t
def looksAt (ops : Array Oper) (i : Nat) (t : Tmp) : Prop := ∃ o, ops[i]? = some o ∧ (t ∈ looks ops o ∨ o.dst = some t)

omit [Pin] in
theorem temps_ordered (hd : DrawFacts ops) : Ordered ops.size (dstIs ops) (looksAt ops) (Less ops) := by
  rintro i j t hi hj ⟨y, hy, hyt⟩ ⟨x, hx, hxt⟩
  constructor
  · intro hlt
    refine (hd.temps j i y x hlt hy hx).resolve_right fun ha => ?_
    simp only [tempsApart, hyt, Bool.and_eq_true, Bool.not_eq_true', List.contains_eq_mem, decide_eq_false_iff_not, beq_eq_false_iff_ne, ne_eq] at ha
    rcases hxt with h | h
    · exact ha.1.1 h
    · exact ha.1.2 h
  · intro hlt
    refine (hd.temps i j x y hlt hx hy).resolve_right fun ha => ?_
    simp only [tempsApart, hyt, Bool.and_eq_true, Bool.not_eq_true', List.contains_eq_mem, decide_eq_false_iff_not, beq_eq_false_iff_ne, ne_eq] at ha
    rcases hxt with h | h
    · exact ha.2 h
    · rw [h] at ha
      simp at ha

omit [Pin] in
theorem ft_apart {a b : Ft} {o : Nat} (h : a.apart b = true) (ha : a.has o) (hb : b.has o) : False := by
  cases a with
  | but l => cases b with
    | ids l' =>
      simp only [Ft.apart, List.all_eq_true, List.contains_eq_mem, decide_eq_true_eq] at h
      exact ha (h o hb)
    | _ => simp [Ft.apart] at h
  | all => cases b with
    | but l => simp [Ft.apart] at h
    | all => simp [Ft.apart] at h
    | ids l => cases l with
      | nil => simp [Ft.has] at hb
      | cons x l => simp [Ft.apart] at h
  | ids l => cases b with
    | all => cases l with
      | nil => simp [Ft.has] at ha
      | cons x l => simp [Ft.apart] at h
    | but l' =>
      simp only [Ft.apart, List.all_eq_true, List.contains_eq_mem, decide_eq_true_eq] at h
      exact hb (h o ha)
    | ids l' =>
      simp only [Ft.apart, List.all_eq_true, Bool.not_eq_true', List.contains_eq_mem, decide_eq_false_iff_not] at h
      exact h o ha hb

def footF (ft : Nat → Foot) (i o : Nat) : Prop := (ft i).F.has o
def footT (ft : Nat → Foot) (i o : Nat) : Prop := (ft i).T.has o
def footN (ft : Nat → Foot) (i : Nat) (_ : Unit) : Prop := (ft i).N = true

omit [Pin] in
theorem wfoot_TF {tm : List AV} {o : Oper} {S : St} {x : Nat} : (wfoot c tm o S).T.has x → (wfoot c tm o S).F.has x := by
  unfold wfoot
  split
  · exact id
  · exact id
  · exact id
  · exact id
  · exact id
  · split
    · split
      all_goals first
        | exact id
        | (intro h; simp only [Ft.has, List.mem_singleton] at h ⊢; subst h; exact List.mem_cons_self ..)
    · exact id
  · split
    · split <;> exact id
    · exact id
  · exact id

omit [Pin] in
theorem opD_TF {tm : List AV} {o : Oper} {S S1 : St} {v : AV} {f : Foot} (h : opD c R fid rid tm o S = some (v, S1, f)) {x : Nat} : f.T.has x → f.F.has x := by
  unfold opD at h
  split at h
  · simp only [Option.some.injEq, Prod.mk.injEq] at h
    obtain ⟨_, _, rfl⟩ := h
    intro h; simp [Ft.has] at h
  · split at h
    · simp only [Option.map_eq_some_iff, Prod.mk.injEq] at h
      obtain ⟨_, _, _, _, rfl⟩ := h
      intro h; simp [Ft.has, Foot.none] at h
    · simp only [Option.map_eq_some_iff, Prod.mk.injEq] at h
      obtain ⟨_, _, _, _, rfl⟩ := h
      exact wfoot_TF

omit [Pin] in
theorem opR_TF {r : Option Nat} {tm : List AV} {o : Oper} {S S1 : St} {v : AV} {f : Foot} (h : opR c R fid rid K r tm o S = some (v, S1, f)) {x : Nat} : f.T.has x → f.F.has x := by
  unfold opR at h
  split at h
  · split at h
    · simp only [Option.bind_eq_some_iff] at h
      obtain ⟨_, _, _, _, h⟩ := h
      split at h
      · simp only [Option.some.injEq, Prod.mk.injEq] at h
        obtain ⟨_, _, rfl⟩ := h
        exact id
      · simp at h
    · simp at h
  · split at h
    · simp only [Option.bind_eq_some_iff] at h
      obtain ⟨_, _, h⟩ := h
      split at h
      · simp only [Option.some.injEq, Prod.mk.injEq] at h
        obtain ⟨_, _, rfl⟩ := h
        exact id
      · simp at h
    · exact opD_TF h

omit [Pin] in
theorem trace_TF (t : Trace c R fid rid ops K rdn ops.toList tm S tm' S' fs tms Ss vs ft) {i : Nat} (hi : i < ops.size) {x : Nat} (h : footT ft i x) : footF ft i x := by
  have ho : ops.toList[i]? = some ops[i] := by simp [hi]
  rcases (t.step i _ ho).2 with ⟨_, h1⟩ | ⟨_, _, _, h1⟩
  · exact opR_TF h1 h
  · unfold footT at h; rw [h1] at h; simp [Ft.has, Foot.none] at h

omit [Pin] in
theorem feet_apart (t : Trace c R fid rid ops K rdn ops.toList tm S tm' S' fs tms Ss vs ft) (hf : feetOk ops fs = true) {i j : Nat} (hij : i < j) (hj : j < ops.size) : Less ops i j ∨ (ft i).apart (ft j) = true :=
  feetFacts hf i j _ _ hij hj (t.feet i (by simp; omega)) (t.feet j (by simpa using hj))

omit [Pin] in
theorem objs_ordered (t : Trace c R fid rid ops K rdn ops.toList tm S tm' S' fs tms Ss vs ft) (hf : feetOk ops fs = true) : Ordered ops.size (footT ft) (footF ft) (Less ops) := by
  intro i j x hi hj hT hF
  constructor
  · intro hlt
    refine (feet_apart t hf hlt hi).resolve_right fun ha => ?_
    simp only [Foot.apart, Bool.and_eq_true] at ha
    exact ft_apart ha.1.2 hT hF
  · intro hlt
    refine (feet_apart t hf hlt hj).resolve_right fun ha => ?_
    simp only [Foot.apart, Bool.and_eq_true] at ha
    exact ft_apart ha.1.1 hT hF

omit [Pin] in
theorem nums_ordered (t : Trace c R fid rid ops K rdn ops.toList tm S tm' S' fs tms Ss vs ft) (hf : feetOk ops fs = true) : Ordered ops.size (footN ft) (footN ft) (Less ops) := by
  intro i j x hi hj hT hF
  constructor
  · intro hlt
    refine (feet_apart t hf hlt hi).resolve_right fun ha => ?_
    simp only [Foot.apart, Bool.and_eq_true] at ha
    unfold footN at hT hF
    simp [hT, hF] at ha
  · intro hlt
    refine (feet_apart t hf hlt hj).resolve_right fun ha => ?_
    simp only [Foot.apart, Bool.and_eq_true] at ha
    unfold footN at hT hF
    simp [hT, hF] at ha

end draw

end Go.Am

/- THE ABSTRACT MACHINE, THIRTY-FIRST FILE: regions whose order is open are sound. -/
set_option linter.unusedSimpArgs false
set_option linter.unusedVariables false
namespace Go.Am
open Go.RowKit
variable [Pin] {P : Program} {c : Cfg} {R : Rec} {fid rid : Nat} {ops : Array Oper} {K : List Nat} {rdn : Nat → Option Nat} {tm tm' : List AV} {S S' : St} {fs : List Foot} {tms : Nat → List AV} {Ss : Nat → St} {vs : Nat → AV} {ft : Nat → Foot}

omit [Pin] in
theorem awanted_same {tm1 tm2 : List AV} {o : Oper} (h : ∀ t ∈ looks ops o, tm1.getD t .undef = tm2.getD t .undef) : awanted ops tm1 o = awanted ops tm2 o := by
  unfold awanted
  unfold looks at h
  cases hg : o.guard with
  | none => rfl
  | some q =>
    obtain ⟨j, want⟩ := q
    simp only [hg] at h ⊢
    unfold ayielded
    cases hd : (ops[j]?).bind (·.dst) with
    | none => rfl
    | some d =>
      have := h d (by rw [List.mem_append]; right; simp [hd])
      simp only [this]

omit [Pin] in
theorem putT_getD {tm : List AV} {d : Option Tmp} {v : AV} {t : Tmp} (h : d ≠ some t) : (putT tm d v).getD t .undef = tm.getD t .undef := by
  cases d with
  | none => rfl
  | some d =>
    have hne : d ≠ t := fun e => h (by rw [e])
    simp [putT, List.getD, List.getElem?_set_ne hne]

omit [Pin] in
theorem putT_length {tm : List AV} {d : Option Tmp} {v : AV} : (putT tm d v).length = tm.length := by cases d <;> simp [putT]

omit [Pin] in
theorem putT_hit {tm1 tm2 : List AV} {d : Tmp} {v : AV} (h : tm1.length = tm2.length) : (putT tm1 (some d) v).getD d .undef = (putT tm2 (some d) v).getD d .undef := by
  simp only [putT, List.getD, List.getElem?_set, if_pos, h]

omit [Pin] in
theorem trace_len (hL : RecLen R) (t : Trace c R fid rid ops K rdn ops.toList tm S tm' S' fs tms Ss vs ft) (hS : S.h.length = S.n) : ∀ i, i ≤ ops.size → (Ss i).h.length = (Ss i).n ∧ (Ss i).base = S.base ∧ (tms i).length = tm.length
  | 0, _ => by rw [t.S0, t.tm0]; exact ⟨hS, rfl, rfl⟩
  | i + 1, hi => by
    obtain ⟨h1, h2, h3⟩ := trace_len hL t hS i (by omega)
    have ho : ops.toList[i]? = some ops[i] := by simp
    obtain ⟨k1, k2⟩ := t.step i _ ho
    rw [k1, putT_length]
    rcases k2 with ⟨_, k2⟩ | ⟨_, _, k2, _⟩
    · have := Keeps.opR hL k2 h1
      exact ⟨this.1, this.2.trans h2, h3⟩
    · rw [k2]; exact ⟨h1, h2, h3⟩

omit [Pin] in
theorem trace_alike (hL : RecLen R) (t : Trace c R fid rid ops K rdn ops.toList tm S tm' S' fs tms Ss vs ft) (hS : S.h.length = S.n) {i : Nat} (hi : i < ops.size) : Alike (ft i) (Ss i) (Ss (i + 1)) (Ss i) (Ss (i + 1)) := by
  obtain ⟨h1, h2, h3⟩ := trace_len hL t hS i (by omega)
  have ho : ops.toList[i]? = some ops[i] := by simp
  rcases (t.step i _ ho).2 with ⟨_, k2⟩ | ⟨_, _, k2, k3⟩
  · have hk := t.kinds i (by simpa using Nat.le_of_lt hi)
    obtain ⟨C1, q1, q2⟩ := opR_local hL k2 ⟨h1, h1, rfl, fun _ _ => rfl, fun _ _ => rfl, fun _ => rfl⟩ hk hk
    rw [k2] at q1
    simp only [Option.some.injEq, Prod.mk.injEq] at q1
    obtain ⟨_, rfl, _⟩ := q1
    exact q2
  · rw [k2, k3]
    exact Alike.same h1 h1 (fun _ _ => rfl) fun _ => rfl

end Go.Am

/- THE ABSTRACT MACHINE, THIRTY-SECOND FILE: regions whose order is open: a step. -/
set_option linter.unusedSimpArgs false
set_option linter.unusedVariables false
namespace Go.Am
open Go.RowKit
variable [Pin] {P : Program} {c : Cfg} {R : Rec} {fid rid : Nat} {ops : Array Oper} {K : List Nat} {rdn : Nat → Option Nat} {tm tm' : List AV} {S S' : St} {fs : List Foot} {tms : Nat → List AV} {Ss : Nat → St} {vs : Nat → AV} {ft : Nat → Foot}

structure Inv (ops : Array Oper) (tm : List AV) (S : St) (tms : Nat → List AV) (Ss : Nat → St) (ft : Nat → Foot) (L : Nat → Prop) (tmC : List AV) (C : St) : Prop where
  tlen : tmC.length = tm.length
  len : C.h.length = C.n
  base : C.base = S.base
  temps : ∀ t, Cut ops.size (fun i t => (tms i).getD t .undef) (dstIs ops) L t (tmC.getD t .undef)
  objs : ∀ o, Cut ops.size (fun i o => (Ss i).get o) (footT ft) L o (C.get o)
  num : Cut ops.size (fun i (_ : Unit) => (Ss i).n) (footN ft) L () C.n

omit [Pin] in
theorem inv_kinds (t : Trace c R fid rid ops K rdn ops.toList tm S tm' S' fs tms Ss vs ft) {L : Nat → Prop} {tmC : List AV} {C : St} (h : Inv ops tm S tms Ss ft L tmC C) : ∀ k ∈ K, isPlain (C.get k) = true := fun k hk => by
  obtain ⟨q, hq, _, _, he⟩ := h.objs k
  rw [he]
  exact t.kinds q (by simpa using hq) k hk

omit [Pin] in
theorem inv_step (hL : RecLen R) (t : Trace c R fid rid ops K rdn ops.toList tm S tm' S' fs tms Ss vs ft) (hS : S.h.length = S.n) (hd : DrawFacts ops) (hf : feetOk ops fs = true) {L : Nat → Prop} {tmC : List AV} {C : St} (h : Inv ops tm S tms Ss ft L tmC C)
    (hc : ∀ i j, Less ops i j → L j → L i) {i : Nat} {o : Oper} (hi : ops[i]? = some o) (hiL : ¬ L i) (hp : ∀ j, Less ops j i → L j) :
    (awanted ops tmC o = true ∧ ∃ C1, opR c R fid rid K (rdn i) tmC o C = some (vs i, C1, ft i) ∧ Inv ops tm S tms Ss ft (fun j => L j ∨ j = i) (putT tmC o.dst (vs i)) C1) ∨
    (awanted ops tmC o = false ∧ vs i = .undef ∧ Inv ops tm S tms Ss ft (fun j => L j ∨ j = i) (putT tmC o.dst (vs i)) C) := by
  have hlt := (Array.getElem?_eq_some_iff.1 hi).1
  have hil : ops.toList[i]? = some o := by simpa using hi
  obtain ⟨s1, s2⟩ := t.step i o hil
  have hvT : ∀ j x, j < ops.size → ¬ dstIs ops j x → (fun i t => (tms i).getD t .undef) (j + 1) x = (fun i t => (tms i).getD t .undef) j x := fun j x hj hn => by
    have hjl : ops.toList[j]? = some ops[j] := by simp
    simp only [(t.step j _ hjl).1]
    exact putT_getD fun e => hn ⟨ops[j], by simp, e⟩
  have hvO : ∀ j x, j < ops.size → ¬ footT ft j x → (fun i o => (Ss i).get o) (j + 1) x = (fun i o => (Ss i).get o) j x := fun j x hj hn => ((trace_alike hL t hS hj).off x hn).2
  have hvN : ∀ j (x : Unit), j < ops.size → ¬ footN ft j x → (fun i (_ : Unit) => (Ss i).n) (j + 1) x = (fun i (_ : Unit) => (Ss i).n) j x := fun j x hj hn => ((trace_alike hL t hS hj).nonum (by unfold footN at hn; simpa using hn)).2
  have hoT := temps_ordered hd
  have hoO := objs_ordered t hf
  have hoN := nums_ordered t hf
  have hlook : ∀ u ∈ looks ops o, tmC.getD u .undef = (tms i).getD u .undef := fun u hu => Cut.look hvT hoT hc hlt hiL hp ⟨o, hi, .inl hu⟩ (h.temps u)
  have hobj : ∀ x, (ft i).F.has x → C.get x = (Ss i).get x := fun x hx => Cut.look hvO hoO hc hlt hiL hp hx (h.objs x)
  have hnum : (ft i).N = true → C.n = (Ss i).n := fun hn => Cut.look hvN hoN hc hlt hiL hp (x := ()) hn h.num
  obtain ⟨l1, l2, l3⟩ := trace_len hL t hS i (by omega)
  have hnear : Near (ft i) (Ss i) C := ⟨l1, h.len, h.base.trans l2.symm, hobj, fun x hx => hobj x (trace_TF t hlt hx), hnum⟩
  have hops : SameOn tmC (tms i) o.op.operands.toList := sameOn_of fun u hu => hlook u (by unfold looks; exact List.mem_append_left _ hu)
  have hw := awanted_same hlook
  -- the temporaries behind it
  have htemps : ∀ u, Cut ops.size (fun i t => (tms i).getD t .undef) (dstIs ops) (fun j => L j ∨ j = i) u ((putT tmC o.dst (vs i)).getD u .undef) := fun u => by
    by_cases hu : o.dst = some u
    · have := Cut.on (val := fun i t => (tms i).getD t .undef) hoT (fun j x ⟨q, h1, h2⟩ => ⟨q, h1, .inr h2⟩) hc hlt hiL hp (x := u) ⟨o, hi, hu⟩
      have he : (putT tmC o.dst (vs i)).getD u .undef = (tms (i + 1)).getD u .undef := by
        rw [s1, hu]
        exact putT_hit (h.tlen.trans l3.symm)
      rw [he]
      exact this
    · rw [putT_getD hu]
      refine Cut.off ?_ (h.temps u)
      rintro ⟨q, h1, h2⟩
      rw [hi] at h1
      cases h1
      exact hu h2
  have after : ∀ C1, Alike (ft i) (Ss i) (Ss (i + 1)) C C1 → Inv ops tm S tms Ss ft (fun j => L j ∨ j = i) (putT tmC o.dst (vs i)) C1 := fun C1 ha => by
    refine ⟨putT_length.trans h.tlen, ha.len, ha.base.trans h.base, htemps, fun x => ?_, ?_⟩
    · by_cases hx : footT ft i x
      · rw [ha.on x hx]
        refine Cut.on' (val := fun i o => (Ss i).get o) hoO hc (fun x => trace_TF t hlt) hlt hiL hp hx
      · rw [(ha.off x hx).1]
        exact Cut.off hx (h.objs x)
    · by_cases hn : footN ft i ()
      · rw [ha.num hn]
        exact Cut.on (val := fun i (_ : Unit) => (Ss i).n) hoN (fun _ _ x => x) hc hlt hiL hp hn
      · rw [(ha.nonum (by unfold footN at hn; simpa using hn)).1]
        exact Cut.off hn h.num
  rcases s2 with ⟨w1, w2⟩ | ⟨w1, w2, w3, w4⟩
  · obtain ⟨C1, q1, q2⟩ := opR_local hL w2 hnear (t.kinds i (by simpa using Nat.le_of_lt hlt)) (inv_kinds t h)
    exact .inl ⟨hw.trans w1, C1, by rw [opR_same C hops]; exact q1, after C1 q2⟩
  · refine .inr ⟨hw.trans w1, w2, after C ?_⟩
    rw [w3]
    exact Alike.same l1 h.len hnear.T hnear.N

end Go.Am

/- THE ABSTRACT MACHINE, THIRTY-THIRD FILE: the abstract machine is sound. -/
set_option linter.unusedSimpArgs false
set_option linter.unusedVariables false
namespace Go.Am
open Go.RowKit
variable [Pin] {P : Program} {c : Cfg} {R : Rec} {fid rid : Nat} {ops : Array Oper} {K : List Nat} {rdn : Nat → Option Nat} {tm tm' : List AV} {S S' : St} {fs : List Foot} {tms : Nat → List AV} {Ss : Nat → St} {vs : Nat → AV} {ft : Nat → Foot}

omit [Pin] in
theorem ancs_lt : ∀ {l : List Oper} {acc : List (List Nat)}, (∀ k i, i ∈ acc.getD k [] → i < k) → (∀ k o, l[k]? = some o → ∀ e ∈ edgesAny o, e < acc.length + k) → ∀ k i, i ∈ (ancs l acc).getD k [] → i < k
  | [], acc, h, _ => h
  | o :: l, acc, h, hl => by
    rw [ancs]
    refine ancs_lt (fun k i hi => ?_) (fun k o' ho e he => by
      have := hl (k + 1) o' (by simpa using ho) e he
      simp
      omega)
    rw [List.getD, List.getElem?_append] at hi
    split at hi
    · exact h k i hi
    · rename_i hge
      cases hkk : k - acc.length with
      | succ m => rw [hkk] at hi; simp at hi
      | zero =>
        rw [hkk] at hi
        simp only [List.getElem?_cons_zero, Option.getD_some, List.mem_eraseDups, List.mem_flatMap, List.mem_cons] at hi
        obtain ⟨e, he, hi⟩ := hi
        have hlt := hl 0 o rfl e he
        rcases hi with rfl | hi
        · omega
        · have := h e i hi
          omega

omit [Pin] in
theorem less_lt (hd : DrawFacts ops) {i j : Nat} (h : Less ops i j) : i < j :=
  ancs_lt (acc := []) (fun k i hi => by simp at hi) (fun k o ho e he => by simpa using hd.edges k o (by simpa using ho) e he) j i h

def On (listed : Array Bool) (i : Nat) : Prop := listed.getD i false = true

/-- Places of operations that have not come up yet are as they were. -/
def Unborn (ops : Array Oper) (rdn : Nat → Option Nat) (L : Nat → Prop) (G : Gh) (C : St) : Prop := ∀ i r, ¬ L i → rdn i = some r → C.get r = some .dead ∧ ∀ b, ¬ G.blk r b

theorem any_ok (hc : CfgOk P c) (hR : RecOk P R) (hL : RecLen R) (t : Trace c R fid rid ops K rdn ops.toList tm S tm' S' fs tms Ss vs ft) (hS : S.h.length = S.n) (hd : DrawFacts ops) (hf : feetOk ops fs = true) (hri : ∀ i j r, rdn i = some r → rdn j = some r → i = j) {rd : Option Nat} {Q : Exit → Act → World → Prop} :
    ∀ (fuel : Nat) (listed : Array Bool) (a : Act) (G : Gh) (w : World) (tmC : List AV) (C : St), listed.size = ops.size → (List.range ops.size).countP (fun i => !listed.getD i true) = fuel →
      (∀ j o, ops[j]? = some o → On listed j → ∀ e ∈ edgesAny o, On listed e) → Inv ops tm S tms Ss ft (On listed) tmC C → Unborn ops rdn (On listed) G C → Wrel G C w → RepL G w tmC a.tmps.toList →
      (∀ G' w' a', Wrel G' S' w' → StepK (fun x => ∃ i, rdn i = some x) G C w G' S' w' → RepL G' w' tm' a'.tmps.toList → a'.defers = a.defers → Q .normal a' w') →
      wpAnyIn (FR rd) 0 P .any ops Q fuel listed a w := by
  intro fuel
  have hn : ops.toList.length = ops.size := by simp
  have fin : ∀ (listed : Array Bool) (a : Act) (G : Gh) (w : World) (tmC : List AV) (C : St), (∀ i, i < ops.size → On listed i) → Inv ops tm S tms Ss ft (On listed) tmC C → Wrel G C w → RepL G w tmC a.tmps.toList →
      (∀ G' w' a', Wrel G' S' w' → StepK (fun x => ∃ i, rdn i = some x) G C w G' S' w' → RepL G' w' tm' a'.tmps.toList → a'.defers = a.defers → Q .normal a' w') → Q .normal a w := fun listed a G w tmC C hall h hW ht hQ => by
    obtain ⟨l1, l2, l3⟩ := trace_len hL t hS ops.size (Nat.le_refl _)
    have hSn : Ss ops.size = S' := by rw [← hn]; exact t.Sn
    have htn : tms ops.size = tm' := by rw [← hn]; exact t.tmn
    have hCS : C = S' := by
      rw [hSn] at l1 l2
      refine St.ext_get l1 h.len ?_ (h.base.trans l2.symm) fun x => ?_
      · have := Cut.all (fun j x hj hn => ((trace_alike hL t hS hj).nonum (by unfold footN at hn; simpa using hn)).2) hall h.num
        rw [← hSn]; exact this
      · have := Cut.all (fun j x hj hn => ((trace_alike hL t hS hj).off x hn).2) hall (h.objs x)
        rw [← hSn]; exact this
    have htm : tmC = tm' := by
      have hlen : tmC.length = tm'.length := by rw [h.tlen, ← htn, l3]
      apply List.ext_getElem hlen
      intro u h1 h2
      have := Cut.all (fun j x hj hn => by
        have hjl : ops.toList[j]? = some ops[j] := by simp
        simp only [(t.step j _ hjl).1]
        exact putT_getD fun e => hn ⟨ops[j], by simp, e⟩) hall (h.temps u)
      rw [htn] at this
      simpa [List.getD, h1, h2] using this
    subst hCS htm
    exact hQ G w a hW (.refl _ _ _ _) ht rfl
  induction fuel with
  | zero =>
    intro listed a G w tmC C hsz hcount hcl h hU hW ht hQ
    have hall : ∀ i, i < ops.size → On listed i := fun i hi => by
      have := List.countP_eq_zero.1 hcount i (List.mem_range.2 hi)
      have h1 : i < listed.size := by omega
      unfold On
      simp [h1] at this ⊢
      exact this
    refine ⟨?_, fin listed a G w tmC C hall h hW ht hQ⟩
    apply List.eq_nil_iff_forall_not_mem.2
    intro i hi
    have hi' := mem_ready.1 hi
    obtain ⟨k1, o, k2, _⟩ := hi'
    have hlt := (Array.getElem?_eq_some_iff.1 k2).1
    have := hall i hlt
    have h1 : i < listed.size := by omega
    unfold On at this
    simp [h1] at this k1
    rw [this] at k1
    cases k1
  | succ fuel ih =>
    intro listed a G w tmC C hsz hcount hcl h hU hW ht hQ
    refine ⟨fun hr => ?_, fun i hi => ?_⟩
    · refine fin listed a G w tmC C (fun i => ?_) h hW ht hQ
      induction i using Nat.strongRecOn with
      | _ i ihi =>
        intro hi
        have ho : ops[i]? = some ops[i] := by simp
        have hon : ¬ listed.getD i true = false := fun hf' => by
          have : i ∈ Region.ready .any ops listed := mem_ready.2 ⟨hf', _, ho, fun e he hb => by
            have hm : e.on ∈ edgesAny ops[i] := mem_edgesAny.2 ⟨e, he, hb, rfl⟩
            have hlt := hd.edges i _ ho _ hm
            exact ihi _ hlt (by omega)⟩
          rw [hr] at this
          cases this
        have h1 : i < listed.size := by omega
        unfold On
        simp [h1] at hon ⊢
        exact hon
    · obtain ⟨k1, o, ho, k3⟩ := mem_ready.1 hi
      have hlt := (Array.getElem?_eq_some_iff.1 ho).1
      have h1 : i < listed.size := by omega
      have hno : ¬ On listed i := by
        unfold On
        simp [h1] at k1 ⊢
        exact k1
      have hclosed := less_closed (L := On listed) hcl
      have hpre : ∀ j, Less ops j i → On listed j := fun j hj => by
        have hcl' : ∀ j' o', ops[j']? = some o' → (On listed j' ∨ j' = i) → ∀ e ∈ edgesAny o', (On listed e ∨ e = i) := fun j' o' ho' hj' e he => by
          rcases hj' with hj' | rfl
          · exact .inl (hcl j' o' ho' hj' e he)
          · rw [ho] at ho'
            cases ho'
            obtain ⟨d, d1, d2, d3⟩ := mem_edgesAny.1 he
            exact .inl (by rw [← d3]; exact k3 d d1 d2)
        exact (less_closed (L := fun k => On listed k ∨ k = i) hcl' j i hj (.inr rfl)).resolve_right (Nat.ne_of_lt (less_lt hd hj))
      have hon' : ∀ j, On (listed.setIfInBounds i true) j ↔ (On listed j ∨ j = i) := fun j => by
        unfold On
        by_cases e : i = j
        · subst e
          simp [h1]
        · rw [getD_set_ne false e]
          exact ⟨.inl, fun hh => hh.resolve_right fun h => e h.symm⟩
      have heq : (fun j => On listed j ∨ j = i) = On (listed.setIfInBounds i true) := funext fun j => propext (hon' j).symm
      have hcnt : (List.range ops.size).countP (fun j => !(listed.setIfInBounds i true).getD j true) = fuel := by
        have := countP_flip (p := fun j => !listed.getD j true) (q := fun j => !(listed.setIfInBounds i true).getD j true) hlt (by simp only [k1]; rfl) (by simp [h1]) (fun j hj => by simp only [getD_set_ne true (fun e => hj e.symm)])
        omega
      have hcl2 : ∀ j' o', ops[j']? = some o' → On (listed.setIfInBounds i true) j' → ∀ e ∈ edgesAny o', On (listed.setIfInBounds i true) e := fun j' o' ho' hj' e he => by
        rw [hon'] at hj' ⊢
        rcases hj' with hj' | rfl
        · exact .inl (hcl j' o' ho' hj' e he)
        · rw [ho] at ho'
          cases ho'
          obtain ⟨d, d1, d2, d3⟩ := mem_edgesAny.1 he
          exact .inl (by rw [← d3]; exact k3 d d1 d2)
      have hstep := inv_step hL t hS hd hf h hclosed ho hno hpre
      unfold wpOpIn
      rw [ho]
      simp only
      rw [← wanted_eq ht]
      rcases hstep with ⟨w1, C1, w2, w3⟩ | ⟨w1, w2, w3⟩
      · rw [if_pos w1]
        rw [heq] at w3
        refine opR_ok hc hR w2 (inv_kinds t h) G w a rd _ Q hW ht (fun r hr => (hU i r hno hr).2) fun G1 w' u hW1 hst1 hu => ?_
        have hU1 : Unborn ops rdn (On (listed.setIfInBounds i true)) G1 C1 := fun j r hj hr => by
          rw [hon'] at hj
          have hji : ¬ On listed j := fun x => hj (.inl x)
          obtain ⟨u1, u2⟩ := hU j r hji hr
          obtain ⟨v1, v2⟩ := hst1.dead r (fun e => hj (.inr (hri j i r hr e))) u1
          exact ⟨v1, fun b hb => u2 b (v2 b hb)⟩
        exact ih _ _ G1 w' _ C1 (by simpa using hsz) hcnt hcl2 w3 hU1 hW1 (put_rep (hst1.repL ht) _ hu) fun G' w'' a' hW' hst' ht' hd' => hQ G' w'' a' hW' (StepK.trans (hst1.weak fun x hx => ⟨i, hx⟩) hst') ht' (hd'.trans (put_defers _ _ _))
      · rw [if_neg (by simp [w1])]
        rw [heq] at w3
        refine ⟨fun f _ => trivial, ih _ _ G w _ C (by simpa using hsz) hcnt hcl2 w3 (fun j r hj hr => hU j r (fun x => hj ((hon' j).2 (.inl x))) hr) hW (put_rep ht _ (by rw [w2]; exact .undef)) fun G' w'' a' hW' hst' ht' hd' => hQ G' w'' a' hW' hst' ht' (hd'.trans (put_defers _ _ _))⟩


theorem wrel_drew {G : Gh} {S : St} {w : World} (h : Wrel G S w) : Wrel G S { w with drawn := w.drawn + 1 } ∧ Step G S w G S { w with drawn := w.drawn + 1 } :=
  same_step h ⟨rfl, rfl, rfl, rfl⟩

theorem push_dead {G : Gh} {S : St} {w : World} (h : Wrel G S w) : Wrel G (S.push .dead) w ∧ Step G S w G (S.push .dead) w :=
  push_step h (Laid.refl w) (.refl G) (fun _ _ x => .inl x) (fun b b' h1 h2 => h.fblk _ _ _ h1 h2) (fun _ _ _ x => .inl x) (fun g s s' h1 h2 => h.fseg _ _ _ _ h1 h2) (fun _ _ x => .inl x) (fun b x => x.elim) trivial

theorem pushD_ok {G : Gh} {w : World} : ∀ {k : Nat} {S : St}, Wrel G S w → Wrel G (S.pushD k) w ∧ Step G S w G (S.pushD k) w
  | 0, S, h => ⟨h, .refl _ _ _⟩
  | k + 1, S, h => by
    obtain ⟨h1, h2⟩ := push_dead h
    obtain ⟨h3, h4⟩ := pushD_ok (k := k) h1
    exact ⟨h3, h2.trans h4⟩
omit [Pin] in
theorem pushD_get : ∀ {k : Nat} {S : St} {o : Nat}, S.h.length = S.n → S.n ≤ o → o < S.n + k → (S.pushD k).get o = some .dead
  | 0, S, o, h, h1, h2 => by omega
  | k + 1, S, o, h, h1, h2 => by
    rw [St.pushD]
    rcases Nat.lt_or_eq_of_le h1 with h1 | rfl
    · exact pushD_get (by simp [St.push, h]) (by show S.n + 1 ≤ o; omega) (by show o < S.n + 1 + k; omega)
    · have key : ∀ (k : Nat) (T : St) (x : Nat), T.get x = some .dead → (T.pushD k).get x = some .dead := fun k => by
        induction k with
        | zero => exact fun T x hx => hx
        | succ k ih => exact fun T x hx => ih _ _ (by rw [St.get_push_old _ (St.get_lt hx)]; exact hx)
      exact key k _ _ (St.get_push_new S .dead)

omit [Pin] in
theorem pushD_old : ∀ {k : Nat} {S : St} {o : Nat}, (S.get o).isSome = true → (S.pushD k).get o = S.get o
  | 0, S, o, h => rfl
  | k + 1, S, o, h => by
    obtain ⟨a, ha⟩ := Option.isSome_iff_exists.1 h
    have h1 : (S.push .dead).get o = S.get o := St.get_push_old _ (St.get_lt ha)
    rw [St.pushD, pushD_old (by rw [h1]; exact h), h1]
omit [Pin] in
theorem isRow_some {x : Option AObj} (h : isRow x = true) : x.isSome = true := by
  unfold isRow at h
  split at h
  · rfl
  · simp at h
omit [Pin] in
theorem isRow_plain {x : Option AObj} (h : isRow x = true) : isPlain x = true := by
  unfold isRow at h
  split at h
  · rfl
  · simp at h

omit [Pin] in
theorem ridOf_mem {l : List Nat} {n i r : Nat} (h : ridOf l n i = some r) : r ∈ placesOf n l.length ∧ i ∈ l ∧ r = n + l.idxOf i := by
  unfold ridOf at h
  split at h
  · rename_i hi
    simp only [Option.some.injEq] at h
    have hi : i ∈ l := by simpa using hi
    refine ⟨?_, hi, h.symm⟩
    rw [placesOf, List.mem_map]
    exact ⟨l.idxOf i, by rw [List.mem_range]; exact List.idxOf_lt_length_iff.2 hi, h⟩
  · simp at h
omit [Pin] in
theorem ridOf_inj {l : List Nat} {n i j r : Nat} (h : ridOf l n i = some r) (k : ridOf l n j = some r) : i = j := by
  obtain ⟨_, h1, h2⟩ := ridOf_mem h
  obtain ⟨_, k1, k2⟩ := ridOf_mem k
  have e : l.idxOf i = l.idxOf j := by omega
  have a1 : l[l.idxOf i]? = some i := by
    rw [List.getElem?_eq_getElem (List.idxOf_lt_length_iff.2 h1), List.getElem_idxOf]
  have a2 : l[l.idxOf j]? = some j := by
    rw [List.getElem?_eq_getElem (List.idxOf_lt_length_iff.2 k1), List.getElem_idxOf]
  rw [e, a2] at a1
  exact (Option.some.inj a1).symm

theorem draw_okT (hc : CfgOk P c) (hR : RecOk P R) (hL : RecLen R) {id : Nat} {Q : Exit → Act → World → Prop} {G : Gh} {w : World} {a : Act} {rd : Option Nat} (hdr : drawOk ops = true) (hf : feetOk ops fs = true) (hri : ∀ i j r, rdn i = some r → rdn j = some r → i = j)
    (t : Trace c R fid rid ops K rdn ops.toList tm S tm' S' fs tms Ss vs ft) (hW : Wrel G S w) (ht : RepL G w tm a.tmps.toList) (hun : ∀ i r, rdn i = some r → S.get r = some .dead ∧ ∀ b, ¬ G.blk r b)
    (hQ : ∀ G' w' a', Wrel G' S' w' → StepK (fun x => ∃ i, rdn i = some x) G S w G' S' w' → RepL G' w' tm' a'.tmps.toList → a'.defers = a.defers → Q .normal a' w') : (Code.region id ops true).wpIn (FR rd) 0 P Q a w := by
  obtain ⟨g1, g2⟩ := wrel_drew hW
  have hno : ∀ j, ¬ On (Array.replicate ops.size false) j := fun j => by
    unfold On
    simp only [Array.getD_eq_getD_getElem?, Array.getElem?_replicate]
    split <;> simp
  refine wpIn_region_any hc.mixed (any_ok hc hR hL t hW.len (drawFacts hdr) hf hri ops.size _ a G _ tm S (by simp) ?_ (fun j o _ hj => absurd hj (hno j)) ⟨rfl, hW.len, rfl, fun u => ?_, fun o => ?_, ?_⟩ (fun i r _ hr => hun i r hr) g1 (g2.repL ht) fun G' w' a' hW' hst' ht' hd' => hQ G' w' a' hW' (StepK.trans (g2.weak fun _ x => x.elim) hst') ht' hd')
  · rw [List.countP_eq_length.2]
    · simp
    · intro j hj
      rw [List.mem_range] at hj
      simp [hj]
  · have := Cut.zero (n := ops.size) (val := fun i t => (tms i).getD t .undef) (T := dstIs ops) _ hno u
    simpa [t.tm0] using this
  · have := Cut.zero (n := ops.size) (val := fun i o => (Ss i).get o) (T := footT ft) _ hno o
    simpa [t.S0] using this
  · have := Cut.zero (n := ops.size) (val := fun i (_ : Unit) => (Ss i).n) (T := footN ft) _ hno ()
    simpa [t.S0] using this

theorem draw_ok (hc : CfgOk P c) (hR : RecOk P R) (hL : RecLen R) : DrawOk P c R := by
  intro fid rid ops tm S tm' S' h
  unfold aregion at h
  rw [if_pos rfl] at h
  split at h
  case isFalse => simp at h
  rename_i hdr
  split at h
  · simp only [Option.bind_eq_some_iff] at h
    obtain ⟨⟨tm2, S2, fs⟩, h1, h⟩ := h
    split at h
    case isFalse => simp at h
    rename_i hf
    simp only [Option.some.injEq, Prod.mk.injEq] at h
    obtain ⟨rfl, rfl⟩ := h
    obtain ⟨tms, Ss, vs, ft, t⟩ := trace_of h1
    intro G w a rd Q hW ht hQ
    exact draw_okT hc hR hL hdr hf (fun i j r e => by cases e) t hW ht (fun i r e => by cases e) fun G' w' a' hW' hst' ht' hd' => hQ G' w' a' hW' (hst'.weak fun x hx => by obtain ⟨i, hx⟩ := hx; cases hx) ht' hd'
  · simp only [Option.bind_eq_some_iff] at h
    obtain ⟨⟨tm2, S2, fs⟩, h1, h⟩ := h
    split at h
    case isFalse => simp at h
    rename_i hf
    simp only [Option.some.injEq, Prod.mk.injEq] at h
    obtain ⟨rfl, rfl⟩ := h
    intro G w a rd Q hW ht hQ
    obtain ⟨hW0, hst0⟩ := pushD_ok (k := (resvd c ops).length) hW
    have hpl : ∀ r ∈ placesOf S.n (resvd c ops).length, S.n ≤ r ∧ (S.pushD (resvd c ops).length).get r = some .dead := fun r hr => by
      rw [placesOf, List.mem_map] at hr
      obtain ⟨j, hj, rfl⟩ := hr
      rw [List.mem_range] at hj
      exact ⟨by omega, pushD_get hW.len (by omega) (by omega)⟩
    obtain ⟨tms, Ss, vs, ft, t⟩ := trace_ofR (fun k hk => by
      rcases List.mem_append.1 hk with hk | hk
      · rw [(hpl k hk).2]; rfl
      · unfold aside at hk
        rw [List.mem_filter] at hk
        rw [pushD_old (isRow_some hk.2)]
        exact isRow_plain hk.2) h1
    refine draw_okT hc hR hL hdr hf (fun i j r e k => ?_) t hW0 (hst0.repL ht) (fun i r e => ?_) fun G' w' a' hW' hst' ht' hd' => hQ G' w' a' hW' ⟨hst0.toStep0.trans hst'.toStep0, fun o _ hdo => ?_⟩ ht' hd'
    · have := ridOf_inj e k; omega
    · obtain ⟨e1, e2⟩ := hpl r (ridOf_mem e).1
      exact ⟨e2, fun b hb => by have := hW.bblk r b hb; omega⟩
    · obtain ⟨z1, z2⟩ := hst0.dead o id hdo
      obtain ⟨y1, y2⟩ := hst'.dead o (fun ⟨i, hm⟩ => by have := (hpl o (ridOf_mem hm).1).1; have := St.get_lt hdo; omega) z1
      exact ⟨y1, fun b hb => z2 b (y2 b hb)⟩

/-- **THE ABSTRACT MACHINE IS SOUND.** -/
theorem run_sound (hc : CfgOk P c) : ∀ n, RecOk P (run c n)
  | 0 => ⟨fun _ _ _ _ _ _ h => by simp [run] at h, fun _ _ _ _ _ _ h => by simp [run] at h, fun _ _ _ _ _ h => by simp [run] at h⟩
  | n + 1 => by
    have ih := run_sound hc n
    have hd := draw_ok hc ih (run_recLen n)
    exact ⟨fun code fr S ex fr' S' h => (exec_ok hc ih hd code fr S ex fr' S' h).1, fun b fr S ex fr' S' h => (exec_ok hc ih hd (.loop b) fr S ex fr' S' h).2 b rfl,
      fun f args S r S' h => callS_ok hc ih.code h⟩

end Go.Am

/- THE ABSTRACT MACHINE, THIRTY-FOURTH FILE: the machine without fuel. -/
set_option linter.unusedSimpArgs false
set_option linter.unusedVariables false
namespace Go.Am
variable {c : Cfg}

/-- From some number on. -/
def Ev (p : Nat → Prop) : Prop := ∃ n, ∀ m, n ≤ m → p m

theorem Ev.all {p : Nat → Prop} (h : ∀ m, p m) : Ev p := ⟨0, fun m _ => h m⟩
theorem Ev.mono {p q : Nat → Prop} (h : Ev p) (k : ∀ m, p m → q m) : Ev q := let ⟨n, hn⟩ := h; ⟨n, fun m hm => k m (hn m hm)⟩
theorem Ev.mono2 {p q r : Nat → Prop} (h : Ev p) (h' : Ev q) (k : ∀ m, p m → q m → r m) : Ev r :=
  let ⟨n, hn⟩ := h
  let ⟨n', hn'⟩ := h'
  ⟨max n n', fun m hm => k m (hn m (by omega)) (hn' m (by omega))⟩

/-- What comes of the one comes of the others, from some number on. -/
def To {α : Type} (X : Option α) (Xs : Nat → Option α) : Prop := ∀ r, X = some r → Ev fun m => Xs m = some r

theorem To.same {α : Type} (X : Option α) : To X fun _ => X := fun r h => .all fun _ => h
theorem To.bind {α β : Type} {X : Option α} {Xs : Nat → Option α} {f : α → Option β} {fs : Nat → α → Option β} (h : To X Xs) (k : ∀ a, To (f a) fun m => fs m a) : To (X.bind f) fun m => (Xs m).bind (fs m) := by
  intro r hr
  simp only [Option.bind_eq_some_iff] at hr
  obtain ⟨a, ha, hr⟩ := hr
  exact (h a ha).mono2 (k a r hr) fun m h1 h2 => by simp [h1, h2]
theorem To.map {α β : Type} {X : Option α} {Xs : Nat → Option α} {f : α → β} (h : To X Xs) : To (X.map f) fun m => (Xs m).map f := by
  intro r hr
  simp only [Option.map_eq_some_iff] at hr
  obtain ⟨a, ha, hr⟩ := hr
  exact (h a ha).mono fun m h1 => by simp [h1, hr]
theorem To.ite {α : Type} {p : Prop} [Decidable p] {X Y : Option α} {Xs Ys : Nat → Option α} (h : To X Xs) (k : To Y Ys) : To (if p then X else Y) fun m => if p then Xs m else Ys m := by
  by_cases hp : p
  · simpa [hp] using h
  · simpa [hp] using k

structure Lim (R : Rec) (Rs : Nat → Rec) : Prop where
  code : ∀ code fr S, To (R.code code fr S) fun m => (Rs m).code code fr S
  call : ∀ f args S, To (R.call f args S) fun m => (Rs m).call f args S

variable {R : Rec} {Rs : Nat → Rec}

theorem Lim.callM (L : Lim R Rs) (f : FuncId) (args : List AV) (S : St) : To (callM c R f args S) fun m => callM c (Rs m) f args S := by
  unfold Am.callM
  cases c.mode f with
  | raw => exact L.call _ _ _
  | pure => exact .bind (.same _) fun a => .bind (L.call _ _ _) fun r => .same _
  | temp => exact .bind (L.call _ _ _) fun r => .same _

theorem Lim.callF (L : Lim R Rs) (f : FuncId) (args : List AV) (S : St) : To (callF c R f args S) fun m => callF c (Rs m) f args S := by
  unfold Am.callF
  cases c.ext f with
  | none => exact L.callM _ _ _
  | some F =>
    cases F with
    | val F => exact .same _
    | push F =>
      simp only
      cases (XT.push F).run args S with
      | some r => exact .same _
      | none => exact L.callM _ _ _

theorem Lim.yieldS (L : Lim R Rs) (l : Nat) (args : List AV) (S : St) : To (yieldS R l args S) fun m => yieldS (Rs m) l args S := by
  unfold Am.yieldS
  cases S.get l with
  | none => exact .same _
  | some ob =>
    cases ob with
    | loop st p fn tmps ps asg body d =>
      cases st with
      | ready =>
        simp only
        refine .ite (.bind (L.code _ _ _) fun r => ?_) (.same _)
        refine .ite ?_ (.same _)
        cases r.2.2.get l with
        | none => exact .same _
        | some ob2 =>
          cases ob2 with
          | loop st2 p2 fn2 tmps2 ps2 asg2 body2 d2 =>
            cases st2 with
            | ready => exact .bind (.same _) fun Sb => .bind (L.code _ _ _) fun q => .same _
            | _ => exact .same _
          | _ => exact .same _
      | _ => exact .same _
    | _ => exact .same _

theorem Lim.callV (L : Lim R Rs) (g : AV) (args : List AV) (S : St) : To (callV c R g args S) fun m => callV c (Rs m) g args S := by
  unfold Am.callV
  cases g with
  | fn f a b => exact L.callF _ _ _
  | yield l => exact L.yieldS _ _ _
  | _ => exact .same _

theorem Lim.aeff (L : Lim R Rs) (fid rid : Nat) (tm : List AV) (o : Oper) (S : St) : To (aeff c R fid rid tm o S) fun m => aeff c (Rs m) fid rid tm o S := by
  unfold Am.aeff
  cases o.op with
  | call k =>
    obtain ⟨callee, args, argTypes⟩ := k
    cases callee with
    | value f => exact .bind (.same _) fun g => .bind (.same _) fun a => L.callV _ _ _
    | builtin b => cases b <;> exact .same _
    | _ => exact .same _
  | slice t x lo hi mx => cases mx <;> exact .same _
  | makeMap t r => cases r <;> exact .same _
  | _ => exact .same _

theorem Lim.aop (L : Lim R Rs) (fid rid : Nat) (tm : List AV) (o : Oper) (S : St) : To (aop c R fid rid tm o S) fun m => aop c (Rs m) fid rid tm o S := by
  unfold Am.aop
  cases aval c tm o S with
  | some v => exact .same _
  | none => exact L.aeff _ _ _ _ _

theorem Lim.calm (L : Lim R Rs) (tm : List AV) (o : Oper) : To (calm c R tm o) fun m => calm c (Rs m) tm o := by
  unfold Am.calm
  cases o.op with
  | call k =>
    obtain ⟨callee, args, argTypes⟩ := k
    cases callee with
    | value f =>
      cases f with
      | func f =>
        simp only
        cases c.ext f with
        | some F => cases F <;> exact .same _
        | none =>
          simp only
          cases c.mode f with
          | pure => exact .bind (.same _) fun a => .bind (.same _) fun q => .ite (.bind (L.call _ _ _) fun r => .same _) (.same _)
          | _ => exact .same _
      | _ => exact .same _
    | _ => exact .same _
  | _ => exact .same _

theorem Lim.opD (L : Lim R Rs) (fid rid : Nat) (tm : List AV) (o : Oper) (S : St) : To (opD c R fid rid tm o S) fun m => opD c (Rs m) fid rid tm o S := by
  unfold Am.opD
  cases aval c tm o S with
  | some v => exact .same _
  | none => exact .ite (.map (L.calm _ _)) (.map (L.aeff _ _ _ _ _))

theorem Lim.runOps (L : Lim R Rs) (fid rid : Nat) (ops : Array Oper) : ∀ (l : List Oper) (tm : List AV) (S : St), To (runOps c R fid rid ops l tm S) fun m => runOps c (Rs m) fid rid ops l tm S
  | [], tm, S => by simp only [Am.runOps]; exact .same _
  | o :: l, tm, S => by
    simp only [Am.runOps]
    exact .ite (.bind (L.aop _ _ _ _ _) fun r => L.runOps _ _ _ _ _ _) (L.runOps _ _ _ _ _ _)

theorem Lim.runOpsD (L : Lim R Rs) (fid rid : Nat) (ops : Array Oper) : ∀ (l : List Oper) (tm : List AV) (S : St), To (runOpsD c R fid rid ops l tm S) fun m => runOpsD c (Rs m) fid rid ops l tm S
  | [], tm, S => by simp only [Am.runOpsD]; exact .same _
  | o :: l, tm, S => by
    simp only [Am.runOpsD]
    exact .ite (.bind (L.opD _ _ _ _ _) fun r => .map (L.runOpsD _ _ _ _ _ _)) (.map (L.runOpsD _ _ _ _ _ _))

theorem Lim.opR (L : Lim R Rs) (fid rid : Nat) (K : List Nat) (r : Option Nat) (tm : List AV) (o : Oper) (S : St) : To (opR c R fid rid K r tm o S) fun m => opR c (Rs m) fid rid K r tm o S := by
  unfold Am.opR
  cases r with
  | some r => exact .same _
  | none => exact .ite (.bind (L.aeff _ _ _ _ _) fun q => .same _) (L.opD _ _ _ _ _)

theorem Lim.runOpsR (L : Lim R Rs) (fid rid : Nat) (ops : Array Oper) (K : List Nat) (rd : Nat → Option Nat) : ∀ (l : List Oper) (i : Nat) (tm : List AV) (S : St), To (runOpsR c R fid rid ops K rd l i tm S) fun m => runOpsR c (Rs m) fid rid ops K rd l i tm S
  | [], i, tm, S => by simp only [Am.runOpsR]; exact .same _
  | o :: l, i, tm, S => by
    simp only [Am.runOpsR]
    exact .ite (.bind (L.opR _ _ _ _ _ _ _) fun r => .ite (.map (L.runOpsR _ _ _ _ _ _ _ _ _)) (.same _)) (.map (L.runOpsR _ _ _ _ _ _ _ _ _))

theorem Lim.aregion (L : Lim R Rs) (fid rid : Nat) (ops : Array Oper) (draw : Bool) (tm : List AV) (S : St) : To (aregion c R fid rid ops draw tm S) fun m => aregion c (Rs m) fid rid ops draw tm S := by
  unfold Am.aregion
  exact .ite (.ite (.ite (.bind (L.runOpsD _ _ _ _ _ _) fun q => .same _) (.bind (L.runOpsR _ _ _ _ _ _ _ _ _) fun q => .same _)) (.same _)) (L.runOps _ _ _ _ _ _)

theorem Lim.execS (L : Lim R Rs) : ∀ (code : Code) (fr : Fr) (S : St), To (execS c R code fr S) fun m => execS c (Rs m) code fr S
  | .region id ops draw, fr, S => by simp only [Am.execS]; exact .map (L.aregion _ _ _ _ _ _)
  | .seq a b, fr, S => by
    simp only [Am.execS]
    exact .bind (L.execS a _ _) fun r => .ite (L.execS b _ _) (.same _)
  | .cond x a b, fr, S => by
    simp only [Am.execS]
    cases evalT fr.tmps x with
    | none => exact .same _
    | some v =>
      cases v with
      | bool t => cases t with
        | true => exact L.execS a _ _
        | false => exact L.execS b _ _
      | _ => exact .same _
  | .block id b, fr, S => by simp only [Am.execS]; exact .map (L.execS b _ _)
  | .loop b, fr, S => by
    simp only [Am.execS]
    exact .bind (L.execS b _ _) fun r => .ite (L.code _ _ _) (.same _)
  | .rangeFunc g ps asg body, fr, S => by
    simp only [Am.execS]
    refine .bind (.same _) fun q => ?_
    cases evalT fr.tmps g with
    | none => exact .same _
    | some v =>
      cases v with
      | fn f a b => exact .bind (L.call _ _ _) fun r => .same _
      | _ => exact .same _
  | .skip, fr, S => .same _
  | .label _, fr, S => .same _
  | .exit _, fr, S => .same _
  | .goto _, fr, S => .same _
  | .ret, fr, S => .same _
  | .refuse _, fr, S => .same _
  | .scope _, fr, S => .same _

theorem Lim.callS (L : Lim R Rs) (f : FuncId) (args : List AV) (S : St) : To (callS c R f args S) fun m => callS c (Rs m) f args S := by
  unfold Am.callS
  exact .bind (.same _) fun fn => .bind (.same _) fun b => .bind (L.code _ _ _) fun r => .same _

/-! ### More fuel, the same -/
theorem run_le (c : Cfg) : ∀ n, Lim (run c n) fun _ => run c (n + 1)
  | 0 => ⟨fun _ _ _ _ h => by simp [run] at h, fun _ _ _ _ h => by simp [run] at h⟩
  | n + 1 => ⟨fun code fr S => (run_le c n).execS code fr S, fun f args S => (run_le c n).callS f args S⟩

theorem run_code_le {n m : Nat} (h : n ≤ m) {code : Code} {fr : Fr} {S : St} {r : Ex × Fr × St} (k : (run c n).code code fr S = some r) : (run c m).code code fr S = some r := by
  induction h with
  | refl => exact k
  | step h ih =>
    obtain ⟨j, hj⟩ := (run_le c _).code _ _ _ _ ih
    exact hj j (Nat.le_refl _)
theorem run_call_le {n m : Nat} (h : n ≤ m) {f : FuncId} {args : List AV} {S : St} {r : AV × St} (k : (run c n).call f args S = some r) : (run c m).call f args S = some r := by
  induction h with
  | refl => exact k
  | step h ih =>
    obtain ⟨j, hj⟩ := (run_le c _).call _ _ _ _ ih
    exact hj j (Nat.le_refl _)

open Classical in
/-- What comes of some fuel. -/
noncomputable def lim (c : Cfg) : Rec where
  code code fr S := if h : ∃ n r, (run c n).code code fr S = some r then some h.choose_spec.choose else none
  call f args S := if h : ∃ n r, (run c n).call f args S = some r then some h.choose_spec.choose else none

theorem lim_code {code : Code} {fr : Fr} {S : St} {r : Ex × Fr × St} : (lim c).code code fr S = some r ↔ ∃ n, (run c n).code code fr S = some r := by
  unfold lim
  simp only
  constructor
  · intro h
    split at h
    · rename_i hx
      simp only [Option.some.injEq] at h
      subst h
      exact ⟨_, hx.choose_spec.choose_spec⟩
    · simp at h
  · rintro ⟨n, h⟩
    have hx : ∃ n r, (run c n).code code fr S = some r := ⟨n, r, h⟩
    rw [dif_pos hx]
    have k := hx.choose_spec.choose_spec
    have h1 := run_code_le (Nat.le_max_left n hx.choose) h
    have h2 := run_code_le (Nat.le_max_right n hx.choose) k
    rw [h1] at h2
    exact h2.symm
theorem lim_call {f : FuncId} {args : List AV} {S : St} {r : AV × St} : (lim c).call f args S = some r ↔ ∃ n, (run c n).call f args S = some r := by
  unfold lim
  simp only
  constructor
  · intro h
    split at h
    · rename_i hx
      simp only [Option.some.injEq] at h
      subst h
      exact ⟨_, hx.choose_spec.choose_spec⟩
    · simp at h
  · rintro ⟨n, h⟩
    have hx : ∃ n r, (run c n).call f args S = some r := ⟨n, r, h⟩
    rw [dif_pos hx]
    have k := hx.choose_spec.choose_spec
    have h1 := run_call_le (Nat.le_max_left n hx.choose) h
    have h2 := run_call_le (Nat.le_max_right n hx.choose) k
    rw [h1] at h2
    exact h2.symm

theorem lim_lim (c : Cfg) : Lim (lim c) (run c) :=
  ⟨fun code fr S r h => let ⟨n, hn⟩ := lim_code.1 h; ⟨n, fun m hm => run_code_le hm hn⟩, fun f args S r h => let ⟨n, hn⟩ := lim_call.1 h; ⟨n, fun m hm => run_call_le hm hn⟩⟩

theorem lim_ge (c : Cfg) (n : Nat) : Lim (run c n) fun _ => lim c :=
  ⟨fun code fr S r h => ⟨0, fun _ _ => lim_code.2 ⟨n, h⟩⟩, fun f args S r h => ⟨0, fun _ _ => lim_call.2 ⟨n, h⟩⟩⟩

/-- The machine without fuel: what a function comes to is what its body comes to. -/
theorem lim_call_eq (c : Cfg) (f : FuncId) (args : List AV) (S : St) : (lim c).call f args S = callS c (lim c) f args S := by
  apply Option.ext
  intro r
  constructor
  · intro h
    obtain ⟨n, hn⟩ := lim_call.1 h
    cases n with
    | zero => simp [run] at hn
    | succ n =>
      obtain ⟨_, k⟩ := (lim_ge c n).callS f args S r hn
      exact k _ (Nat.le_refl _)
  · intro h
    obtain ⟨n, k⟩ := (lim_lim c).callS f args S r h
    exact lim_call.2 ⟨n + 1, k n (Nat.le_refl _)⟩
theorem lim_code_eq (c : Cfg) (code : Code) (fr : Fr) (S : St) : (lim c).code code fr S = execS c (lim c) code fr S := by
  apply Option.ext
  intro r
  constructor
  · intro h
    obtain ⟨n, hn⟩ := lim_code.1 h
    cases n with
    | zero => simp [run] at hn
    | succ n =>
      obtain ⟨_, k⟩ := (lim_ge c n).execS code fr S r hn
      exact k _ (Nat.le_refl _)
  · intro h
    obtain ⟨n, k⟩ := (lim_lim c).execS code fr S r h
    exact lim_code.2 ⟨n + 1, k n (Nat.le_refl _)⟩

theorem lim_of_run {n : Nat} {f : FuncId} {args : List AV} {S : St} {r : AV × St} (h : (run c n).call f args S = some r) : (lim c).call f args S = some r := lim_call.2 ⟨n, h⟩

theorem lim_sound [Pin] {P : Program} (hc : CfgOk P c) {f : FuncId} {args : List AV} {S S' : St} {r : AV} (h : (lim c).call f args S = some (r, S')) : CallOk P f args S r S' :=
  let ⟨n, hn⟩ := lim_call.1 h
  (run_sound hc n).call _ _ _ _ _ hn

theorem opD_alloc_foot {R : Rec} {fid rid : Nat} {tm : List AV} {o : Oper} {S S1 : St} {v : AV} {ft : Foot} (ho : isAlloc o = true) (h : opD c R fid rid tm o S = some (v, S1, ft)) : ft = ⟨.ids [S.n], .ids [S.n], true⟩ := by
  obtain ⟨dst, op, type, pos, after, guard⟩ := o
  cases op with
  | alloc e =>
    simp only [opD, aval, calmable, Bool.false_eq_true, if_false, Option.map_eq_some_iff, Prod.mk.injEq, wfoot] at h
    obtain ⟨_, _, _, _, h⟩ := h
    exact h.symm
  | _ => simp [isAlloc] at ho
theorem opD_raw_foot {R : Rec} {fid rid : Nat} {tm : List AV} {o : Oper} {S S1 : St} {v : AV} {ft : Foot} (ho : rawCall c o = true) (h : opD c R fid rid tm o S = some (v, S1, ft)) : ft = .big := by
  obtain ⟨dst, op, type, pos, after, guard⟩ := o
  cases op with
  | call cl =>
    obtain ⟨callee, args, argTypes⟩ := cl
    cases callee with
    | value f =>
      cases f with
      | func f =>
        simp only [rawCall, Bool.and_eq_true, Option.isNone_iff_eq_none] at ho
        obtain ⟨he, hm⟩ := ho
        have hcm : calmable c tm ⟨dst, .call ⟨.value (.func f), args, argTypes⟩, type, pos, after, guard⟩ = false := by
          simp only [calmable, he]
          cases hq : c.mode f <;> simp [hq] at hm ⊢
        simp only [opD, aval, hcm, Bool.false_eq_true, if_false, Option.map_eq_some_iff, Prod.mk.injEq, wfoot, he] at h
        obtain ⟨_, _, _, _, h⟩ := h
        exact h.symm
      | _ => simp [rawCall] at ho
    | _ => simp [rawCall] at ho
  | _ => simp [rawCall] at ho

/-- Where a region's order is open and all goes well, no places need be kept. -/
theorem resvd_nil {R : Rec} {fid rid : Nat} {ops : Array Oper} {tm tm' : List AV} {S S' : St} {fs : List Foot} (h : runOpsD c R fid rid ops ops.toList tm S = some (tm', S', fs)) (hf : feetOk ops fs = true) : resvd c ops = [] := by
  obtain ⟨tms, Ss, vs, ft, t⟩ := trace_of h
  unfold resvd
  simp only [List.filter_eq_nil_iff, List.mem_range, Bool.and_eq_true, List.any_eq_true, not_and, not_exists]
  rintro i hi hx j hj
  have ei : ops[i]? = some ops[i] := by simp
  have ej : ops[j]? = some ops[j] := by simp [hj]
  rw [ei] at hx
  rw [ej]
  simp only [Bool.and_eq_true, Option.isNone_iff_eq_none] at hx ⊢
  rintro ⟨⟨hy, hgy⟩, hji⟩ hij
  simp only [Bool.not_eq_true', List.contains_eq_mem, decide_eq_false_iff_not] at hji hij
  have sti : awanted ops (tms i) ops[i] = true := by simp [awanted, hx.2]
  have stj : awanted ops (tms j) ops[j] = true := by simp [awanted, hgy]
  have fi : ft i = ⟨.ids [(Ss i).n], .ids [(Ss i).n], true⟩ := by
    rcases (t.step i ops[i] (by simp [hi])).2 with ⟨_, k⟩ | ⟨k, _⟩
    · rw [opR_nil] at k; exact opD_alloc_foot hx.1 k
    · rw [sti] at k; cases k
  have fj : ft j = .big := by
    rcases (t.step j ops[j] (by simp [hj])).2 with ⟨_, k⟩ | ⟨k, _⟩
    · rw [opR_nil] at k; exact opD_raw_foot hy k
    · rw [stj] at k; cases k
  rcases Nat.lt_trichotomy i j with hlt | rfl | hlt
  · rcases feetFacts hf i j _ _ hlt hj (t.feet i (by simpa using hi)) (t.feet j (by simpa using hj)) with k | k
    · exact hji k
    · rw [fi, fj] at k; simp [Foot.apart, Foot.big, Ft.apart] at k
  · rw [fi] at fj; simp [Foot.big] at fj
  · rcases feetFacts hf j i _ _ hlt hi (t.feet j (by simpa using hj)) (t.feet i (by simpa using hi)) with k | k
    · exact hij k
    · rw [fi, fj] at k; simp [Foot.apart, Foot.big, Ft.apart] at k
end Go.Am

