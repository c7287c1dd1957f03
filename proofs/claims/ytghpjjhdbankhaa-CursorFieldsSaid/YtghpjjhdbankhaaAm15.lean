/- THE ABSTRACT MACHINE, SIXTEENTH FILE: how a function is called. -/
import Derived.Test.YtghpjjhdbankhaaAm14
set_option linter.unusedSimpArgs false
set_option linter.unusedVariables false
namespace Go.Am
variable {P : Program} {c : Cfg}

/-- What a call is worth. -/
def CallOk (P : Program) (f : FuncId) (args : List AV) (S : St) (r : AV) (S' : St) : Prop :=
  ∀ (G : Gh) (w : World) (vs : Array Value), Wrel G S w → RepL G w args vs.toList → (callFunc f vs).run P w = .ok (.enter f vs) w ∧
    Calls P f vs w fun e w' => ∃ G' u, e = .returned u ∧ Wrel G' S' w' ∧ Step G S w G' S' w' ∧ Rep G' w' r u

theorem rows_kid {G : Gh} {w : World} {x : AV} {v : Value} {rows : Rows} (h : Rep G w x v) (hx : (∃ r, x = .vec r ∧ rows = r) ∨ (∃ r, x = .lit r ∧ rows = r) ∨ (∃ r o g, x = .own r o g ∧ rows = r) ∨ (x = .nils ∧ rows = []) ∨ (x = .emp ∧ rows = [])) :
    ∀ (i : Nat) (r : List AV) (j : Nat) (y : AV), rows[i]? = some r → r[j]? = some y → ∃ u, Rep G w y u := fun i r j y hi hj => by
  obtain ⟨a, cap, rfl, _, _, h1⟩ := rep_rows_inv h hx
  rcases h1 with rfl | ⟨b, p, es, _, h2⟩
  · simp at hi
  · obtain ⟨_, u, _, hu⟩ := h2.cell i r j y hi hj
    exact ⟨u, hu⟩

/-- A value that was there before, seen later: what it names was named before. -/
theorem Rep.back {G0 G1 G2 : Gh} {w0 w : World} {x : AV} {u : Value} (h : Rep G1 w x u) (hle : G0.Le G1) (hb : ∀ o b b', G1.blk o b → G1.blk o b' → b = b') (hs : ∀ o g s s', G1.seg o g s → G1.seg o g s' → s = s')
    (kb : ∀ o b, G0.blk o b → G2.blk o b) (ks : ∀ o g s, G0.seg o g s → G2.seg o g s) (ki : ∀ b f, G1.im b f → G2.im b f) : (∃ u0, Rep G0 w0 x u0) → Rep G2 w x u := by
  induction h with
  | int => exact fun _ => .int _ _
  | bool => exact fun _ => .bool _
  | str => exact fun _ => .str _
  | undef => exact fun _ => .undef
  | nilp => exact fun _ => .nilp
  | nils => exact fun _ => .nils
  | nilm => exact fun _ => .nilm
  | nilf => exact fun _ => .nilf
  | nili => exact fun _ => .nili
  | emp => exact fun _ => .emp _ _
  | ifc => exact fun _ => .ifc _ _
  | ptr o off b h =>
    rintro ⟨u0, h0⟩
    cases h0 with
    | ptr _ _ b0 h0 => cases hb _ _ _ h (hle.blk _ _ h0); exact .ptr _ _ _ (kb _ _ h0)
  | eptr o g i off s h =>
    rintro ⟨u0, h0⟩
    cases h0 with
    | eptr _ _ _ _ s0 h0 => cases hs _ _ _ _ h (hle.seg _ _ _ h0); exact .eptr _ _ _ _ _ (ks _ _ _ h0)
  | iptr row off b p us hl hc hr ih =>
    rintro ⟨u0, h0⟩
    cases h0 with
    | iptr _ _ b0 p0 us0 hl0 hc0 hr0 => exact .iptr _ _ _ _ us hl (fun j x h => ⟨ki _ _ (hc j x h).1, (hc j x h).2⟩) fun j x h => ih j x h ⟨_, hr0 j x h⟩
  | vec0 a cap h => exact fun _ => .vec0 _ _ h
  | vec rows es b p cap us hcap hes hl hc hr ih =>
    rintro ⟨u0, h0⟩
    have := rows_kid h0 (.inl ⟨_, rfl, rfl⟩)
    exact .vec _ _ _ _ _ us hcap hes hl (fun i r j x h h' => ⟨ki _ _ (hc i r j x h h').1, (hc i r j x h h').2⟩) fun i r j x h h' => ih i r j x h h' (this i r j x h h')
  | lit0 a => exact fun _ => .lit0 _
  | lit rows es b p us hes hl hc hr ih =>
    rintro ⟨u0, h0⟩
    have := rows_kid h0 (.inr (.inl ⟨_, rfl, rfl⟩))
    exact .lit _ _ _ _ us hes hl (fun i r j x h h' => ⟨ki _ _ (hc i r j x h h').1, (hc i r j x h h').2⟩) fun i r j x h h' => ih i r j x h h' (this i r j x h h')
  | own rows o g s us hs' hn hcap hes hl hc hr ih =>
    rintro ⟨u0, h0⟩
    have := rows_kid h0 (.inr (.inr (.inl ⟨_, _, _, rfl, rfl⟩)))
    cases h0 with
    | own _ _ _ s0 us0 hs0 =>
      cases hs _ _ _ _ hs' (hle.seg _ _ _ hs0)
      exact .own _ _ _ _ us (ks _ _ _ hs0) hn hcap hes hl (fun i r j x h h' => ⟨ki _ _ (hc i r j x h h').1, (hc i r j x h h').2⟩) fun i r j x h h' => ih i r j x h h' (this i r j x h h')
  | sref o g off len s hs' h hle' =>
    rintro ⟨u0, h0⟩
    cases h0 with
    | sref _ _ _ _ s0 hs0 => cases hs _ _ _ _ hs' (hle.seg _ _ _ hs0); exact .sref _ _ _ _ _ (ks _ _ _ hs0) h hle'
    | sref0 _ _ _ s0 hs0 => cases hs _ _ _ _ hs' (hle.seg _ _ _ hs0); exact .sref _ _ _ _ _ (ks _ _ _ hs0) h hle'
  | sref0 o g off s hs' h a =>
    rintro ⟨u0, h0⟩
    cases h0 with
    | sref _ _ _ _ s0 hs0 => cases hs _ _ _ _ hs' (hle.seg _ _ _ hs0); exact .sref0 _ _ _ _ (ks _ _ _ hs0) h _
    | sref0 _ _ _ s0 hs0 => cases hs _ _ _ _ hs' (hle.seg _ _ _ hs0); exact .sref0 _ _ _ _ (ks _ _ _ hs0) h _
  | map o b h =>
    rintro ⟨u0, h0⟩
    cases h0 with
    | map _ b0 h0 => cases hb _ _ _ h (hle.blk _ _ h0); exact .map _ _ (kb _ _ h0)
  | fn f first cap vf vc uf uc nf nc hf hc _ _ ihf ihc =>
    rintro ⟨u0, h0⟩
    cases h0 with
    | fn _ _ _ vf0 vc0 uf0 uc0 nf0 nc0 hf0 hc0 rf0 rc0 => exact .fn _ _ _ _ _ uf uc nf nc hf hc (fun j x h => ihf j x h ⟨_, rf0 j x h⟩) (fun j x h => ihc j x h ⟨_, rc0 j x h⟩)
  | yield l b h =>
    rintro ⟨u0, h0⟩
    cases h0 with
    | yield _ b0 h0 => cases hb _ _ _ h (hle.blk _ _ h0); exact .yield _ _ (kb _ _ h0)
  | agg cs vs us hn hl hv _ ih =>
    rintro ⟨u0, h0⟩
    cases h0 with
    | agg _ _ us0 hn0 hl0 hv0 hr0 => exact .agg _ _ us hn hl hv fun j x h => ih j x h ⟨_, hr0 j x h⟩
  | tup cs vs us hn hv _ ih =>
    rintro ⟨u0, h0⟩
    cases h0 with
    | tup _ _ us0 hn0 hv0 hr0 => exact .tup _ _ us hn hv fun j x h => ih j x h ⟨_, hr0 j x h⟩

/-- The objects of a memory whose later state holds more: seen later, without what is more. -/
theorem ObjRel.back {G0 G1 G2 : Gh} {w0 w : World} {o : Nat} {a : AObj} (h : ObjRel G1 w o a) (h0 : ObjRel G0 w0 o a) (hle : G0.Le G1) (hb : ∀ o b b', G1.blk o b → G1.blk o b' → b = b') (hs : ∀ o g s s', G1.seg o g s → G1.seg o g s' → s = s')
    (kb : ∀ o b, G0.blk o b → G2.blk o b) (ks : ∀ o g s, G0.seg o g s → G2.seg o g s) (ki : ∀ b f, G1.im b f ↔ G2.im b f) : ObjRel G2 w o a := by
  have bk : ∀ {x : AV} {u u0 : Value}, Rep G1 w x u → Rep G0 w0 x u0 → Rep G2 w x u := fun hr hr0 => hr.back hle hb hs kb ks (fun b f => (ki b f).1) ⟨_, hr0⟩
  cases a with
  | dead => trivial
  | row cs lock =>
    obtain ⟨b, h1, h2, h3, h4⟩ := h
    obtain ⟨b0, g1, g2, g3, g4⟩ := h0
    cases hb _ _ _ h1 (hle.blk _ _ g1)
    refine ⟨b, kb _ _ g1, h2, fun j x hj => ?_, fun e f hf => h4 e f ((ki _ _).2 hf)⟩
    obtain ⟨a1, u, a2, a3⟩ := h3 j x hj
    obtain ⟨_, u0, _, b3⟩ := g3 j x hj
    exact ⟨a1, u, a2, bk a3 b3⟩
  | seq g es rows exp =>
    obtain ⟨s, h1, h2, h3, h4, h5⟩ := h
    obtain ⟨s0, g1, g2, g3, g4, g5⟩ := h0
    cases hs _ _ _ _ h1 (hle.seg _ _ _ g1)
    refine ⟨s, ks _ _ _ g1, h2, h3, h4, fun hcp => ?_⟩
    obtain ⟨a1, a2, a3⟩ := h5 hcp
    obtain ⟨b1, b2, b3⟩ := g5 hcp
    refine ⟨a1, fun i r j x hi hj => ?_, fun f hf => a3 f ((ki _ _).2 hf)⟩
    obtain ⟨c1, u, c2, c3⟩ := a2 i r j x hi hj
    obtain ⟨_, u0, _, d3⟩ := b2 i r j x hi hj
    exact ⟨c1, u, c2, bk c3 d3⟩
  | tail g =>
    obtain ⟨s, h1, h2, h3⟩ := h
    obtain ⟨s0, g1, g2, g3⟩ := h0
    cases hs _ _ _ _ h1 (hle.seg _ _ _ g1)
    exact ⟨s, ks _ _ _ g1, h2, fun hcp => ⟨(h3 hcp).1, fun f hf => (h3 hcp).2 f ((ki _ _).2 hf)⟩⟩
  | map es clock =>
    obtain ⟨b, h1, mes, h2, h3, h4⟩ := h
    obtain ⟨b0, g1, mes0, g2, g3, g4⟩ := h0
    cases hb _ _ _ h1 (hle.blk _ _ g1)
    refine ⟨b, kb _ _ g1, mes, h2, h3, fun i e hi => ?_⟩
    obtain ⟨m, a1, a2, a3, a4⟩ := h4 i e hi
    obtain ⟨m0, b1, b2, b3, b4⟩ := g4 i e hi
    exact ⟨m, a1, bk a2 b2, bk a3 b3, a4⟩
  | miter => exact h
  | siter s pos =>
    obtain ⟨b, h1, h2⟩ := h
    obtain ⟨b0, g1, g2⟩ := h0
    cases hb _ _ _ h1 (hle.blk _ _ g1)
    exact ⟨b, kb _ _ g1, h2⟩
  | loop st pend fn tmps ps asg body d =>
    obtain ⟨b, db, tm, fn', h1, h2, h3, h4⟩ := h
    obtain ⟨b0, db0, tm0, fn0, g1, g2, g3, g4⟩ := h0
    cases hb _ _ _ h1 (hle.blk _ _ g1)
    cases hb _ _ _ h2 (hle.blk _ _ g2)
    refine ⟨b, db, tm, fn', kb _ _ g1, kb _ _ g2, ⟨h3.1, fun j x hj => ?_⟩, h4⟩
    obtain ⟨u, a1, a2⟩ := h3.2 j x hj
    obtain ⟨u0, b1, b2⟩ := g3.2 j x hj
    exact ⟨u, a1, bk a2 b2⟩
  | dfr =>
    obtain ⟨b, h1, h2⟩ := h
    obtain ⟨b0, g1, g2⟩ := h0
    cases hb _ _ _ h1 (hle.blk _ _ g1)
    exact ⟨b, kb _ _ g1, h2⟩

/-- What a call has made is thrown away: its caller's memory is as it was. -/
theorem drop_step {G G1 : Gh} {S S1 : St} {w w1 : World} (h : Wrel G S w) (h1 : Wrel G1 S1 w1) (hst : Step G { S with base := S.n } w G1 S1 w1) :
    Wrel ⟨G.blk, G.seg, G1.im⟩ S w1 ∧ Step G S w ⟨G.blk, G.seg, G1.im⟩ S w1 := by
  have hown : ∀ o b, Owns ⟨G.blk, G.seg, G1.im⟩ S o b → Owns G S o b := fun o b ⟨a, ha, ho⟩ => ⟨a, ha, ho.back (fun _ x => x) fun _ _ _ x => x⟩
  have hg : G.Le ⟨G.blk, G.seg, G1.im⟩ := ⟨fun _ _ x => x, fun _ _ _ x => x, fun b f x => hst.le.im b f x⟩
  refine ⟨⟨h.len, h.base, fun o a ha => ?_, fun o o' b x y => h.inj o o' b (hown _ _ x) (hown _ _ y), fun o b x => Nat.lt_of_lt_of_le (h.lt o b (hown _ _ x)) hst.size, h.fblk, h.fseg, h.bblk, h.bseg, fun b f hi => h1.im b f hi⟩, ?_⟩
  · have hlt := St.get_lt ha
    have ha1 : S1.get o = some a := by rw [hst.low o hlt]; exact ha
    exact (h1.obj o a ha1).back (h.obj o a ha) hst.le h1.fblk h1.fseg (fun _ _ x => x) (fun _ _ _ x => x) fun _ _ => Iff.rfl
  · exact ⟨hg, hst.kept, hst.size, hst.os, hst.tape, hst.output, fun b hb hn => hst.frame b hb hn, fun o b x => .inl ⟨o, hown o b x⟩, fun b f hi => hst.newim b f hi, rfl, Nat.le_refl _, fun _ _ => rfl⟩

theorem wrel_base {G : Gh} {S : St} {w : World} (h : Wrel G S w) : Wrel G { S with base := S.n } w :=
  ⟨h.len, Nat.le_refl _, h.obj, h.inj, h.lt, h.fblk, h.fseg, h.bblk, h.bseg, h.im⟩

theorem wrel_nil {G : Gh} {S : St} {w : World} (h : Wrel G S w) : Wrel ⟨fun _ _ => False, fun _ _ _ => False, G.im⟩ St.nil w :=
  ⟨rfl, Nat.le_refl _, fun o a ha => by have := St.get_lt ha; simp [St.nil] at this, fun o o' b ⟨a, ha, _⟩ => by have := St.get_lt ha; simp [St.nil] at this, fun o b ⟨a, ha, _⟩ => by have := St.get_lt ha; simp [St.nil] at this,
    fun _ _ _ x => x.elim, fun _ _ _ _ x => x.elim, fun _ _ x => x.elim, fun _ _ _ x => x.elim, h.im⟩


theorem frz_locks {G : Gh} {S : St} {w : World} {x y : AV} {v : Value} {l : List (Nat × Nat)} (hW : Wrel G S w) (h : frz S x = some (y, l)) (hr : Rep G w x v) : ∀ o k, (o, k) ∈ l → ∃ g es rows exp, S.get o = some (.seq g es rows exp) :=
  (frz_rep (IM := fun _ _ => True) (G' := G.withIm fun _ _ => True) hW h hr (fun _ _ _ => trivial) (fun _ _ _ _ _ _ _ _ _ _ _ _ _ _ _ => trivial) fun _ _ _ => trivial).2

theorem callM_ok {R : Rec} (hR : ∀ f args S r S', R.call f args S = some (r, S') → CallOk P f args S r S') {f : FuncId} {args : List AV} {S S' : St} {r : AV} (h : callM c R f args S = some (r, S')) : CallOk P f args S r S' := by
  unfold callM at h
  split at h
  · exact hR _ _ _ _ _ h
  · -- pure
    simp only [Option.bind_eq_some_iff, Option.map_eq_some_iff, Prod.mk.injEq] at h
    obtain ⟨⟨a, la⟩, ha, ⟨q, Sq⟩, hq, ⟨v, lv⟩, hv, S1, hS1, rfl, rfl⟩ := h
    intro G w vs hW hargs
    obtain ⟨IM, hW1, hst1, hL, _⟩ := lockAll_ok hW hS1
    have h0 := wrel_nil hW1
    obtain ⟨hra, _⟩ := frzLA_rep (G' := ⟨fun _ _ => False, fun _ _ _ => False, IM⟩) hW ha hargs (fun b f hi => hst1.le.im b f hi) hL fun _ _ x => x
    obtain ⟨c1, c2⟩ := hR _ _ _ _ _ hq _ w vs h0 hra
    refine ⟨c1, c2.mono fun e w' ⟨G', u, he, hW', hst', hu⟩ => ?_⟩
    have hlk := frz_locks hW' hv hu
    obtain ⟨S2, hS2⟩ := lockAll_some hW' fun o k hm => ⟨by rw [hst'.base]; exact Nat.zero_le _, hlk o k hm⟩
    obtain ⟨IM2, hW2, hst2, hL2, _⟩ := lockAll_ok hW' hS2
    have hst3 := hst'.trans hst2
    have hno : ∀ o b, ¬ Owns ⟨fun _ _ => False, fun _ _ _ => False, IM⟩ St.nil o b := fun o b ⟨a, ha, _⟩ => by have := St.get_lt ha; simp [St.nil] at this
    have hlaid : Laid w w' := ⟨hst'.size, hst'.os, hst'.tape, hst'.output, fun k hk => hst'.frame k hk fun o => hno o k⟩
    obtain ⟨g1, g2⟩ := im_step hW1 hlaid (fun b f => IM2 b f ∧ w.heap.size ≤ b) fun b f ⟨x, y⟩ => ⟨y, hW2.im b f x⟩
    refine ⟨_, u, he, g1, hst1.trans g2, (frz_rep hW' hv hu (fun b f hi => hst2.le.im b f hi) hL2 fun b f hi => ?_).1⟩
    rcases hst3.newim b f hi with hi' | ⟨o, ho⟩ | hi'
    · exact .inl hi'
    · exact (hno o b ho).elim
    · exact .inr ⟨hi, hi'⟩
  · -- temp
    simp only [Option.bind_eq_some_iff, Option.map_eq_some_iff, Prod.mk.injEq] at h
    obtain ⟨⟨q, Sq⟩, hq, ⟨v, lv⟩, hv, S1, hS1, rfl, rfl⟩ := h
    intro G w vs hW hargs
    obtain ⟨c1, c2⟩ := hR _ _ _ _ _ hq _ w vs (wrel_base hW) hargs
    refine ⟨c1, c2.mono fun e w' ⟨G', u, he, hW', hst', hu⟩ => ?_⟩
    have hlk := frz_locks hW' hv hu
    obtain ⟨S2, hS2⟩ := lockAll_some (l := lv.filter fun q => !decide (q.1 < S.n)) hW' fun o k hm => by
      rw [List.mem_filter] at hm
      refine ⟨?_, hlk o k hm.1⟩
      rw [hst'.base]
      simpa using hm.2
    obtain ⟨IM2, hW2, hst2, hL2, _⟩ := lockAll_ok hW' hS2
    obtain ⟨k1, k2⟩ := drop_step hW hW2 (hst'.trans hst2)
    obtain ⟨IM3, hW3, hst3, hL3, _⟩ := lockAll_ok k1 hS1
    refine ⟨_, u, he, hW3, k2.trans hst3, (frz_rep hW' hv hu (IM := IM3) (fun b f hi => hst3.le.im b f (hst2.le.im b f hi)) ?_ fun b f hi => hi).1⟩
    intro o k hm g es rows exp s hg hs hcp f f1 f2 f3
    by_cases ho : o < S.n
    · have hg' : S.get o = some (.seq g es rows exp) := (hst'.low o ho).symm.trans hg
      obtain ⟨s0, hs0, _⟩ := hW.obj o _ hg'
      cases hW'.fseg _ _ _ _ hs (hst'.le.seg _ _ _ hs0)
      exact hL3 o k (List.mem_filter.2 ⟨hm, by simpa using ho⟩) g es rows exp s hg' hs0 hcp f f1 f2 f3
    · exact hst3.le.im _ _ (hL2 o k (List.mem_filter.2 ⟨hm, by simpa using ho⟩) g es rows exp s hg hs hcp f f1 f2 f3)

theorem callF_ok (hc : CfgOk P c) {R : Rec} (hR : ∀ f args S r S', R.call f args S = some (r, S') → CallOk P f args S r S') {f : FuncId} {args : List AV} {S S' : St} {r : AV} (h : callF c R f args S = some (r, S')) : CallOk P f args S r S' := by
  unfold callF at h
  split at h
  · rename_i F hF
    exact fun G w vs hW hv => hc.ext f _ hF G S S' w args vs r h hW hv
  · rename_i F hF
    split at h
    · rename_i q hq
      simp only [Option.some.injEq] at h
      subst h
      exact fun G w vs hW hv => hc.ext f _ hF G S S' w args vs r hq hW hv
    · exact callM_ok hR h
  · exact callM_ok hR h

end Go.Am
