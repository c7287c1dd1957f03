/- THE BUILDER: a place for a new slot; a handle's root. -/
import Derived.Test.YtbmfnoaogebjfaaDoorT2
set_option linter.unusedSimpArgs false
set_option linter.unusedVariables false
set_option maxRecDepth 20000
namespace Go.Am.R
open Go.Proofs Go.IntWalk

variable {w : Ways}

/-- What is neither a row of rows nor a map stays, but o. -/
structure Kq (o : Nat) (S S' : St) : Prop where
  ok : S'.ok
  base : S'.base = S.base
  n : S.n ≤ S'.n
  get : ∀ q x, q < S.n → q ≠ o → (∀ g es rows e, x ≠ AObj.seq g es rows e) → (∀ es c, x ≠ AObj.map es c) → S.get q = some x → S'.get q = some x
theorem Kq.refl {o : Nat} {S : St} (h : S.ok) : Kq o S S := ⟨h, rfl, Nat.le_refl _, fun _ _ _ _ _ _ h => h⟩
theorem Kq.trans {o : Nat} {A B C : St} (h : Kq o A B) (k : Kq o B C) : Kq o A C :=
  ⟨k.ok, k.base.trans h.base, Nat.le_trans h.n k.n, fun q x hq hn hx hy hg => k.get q x (Nat.lt_of_lt_of_le hq h.n) hn hx hy (h.get q x hq hn hx hy hg)⟩
theorem Kq.push {o : Nat} {S : St} (h : S.ok) (a : AObj) : Kq o S (S.push a) :=
  ⟨St.ok_push h, St.pushB _ _, by rw [St.pushN]; omega, fun q x hq hn hx hy hg => by rw [St.get_pushn (by omega)]; exact hg⟩
theorem Kq.set {o : Nat} {S : St} (h : S.ok) (ho : o < S.n) (a : AObj) : Kq o S (S.set o a) :=
  ⟨St.ok_set h, St.setB _ _ _, Nat.le_of_eq (St.setN _ _ _).symm, fun q x hq hn hx hy hg => by rw [St.get_setn ho hn]; exact hg⟩
theorem Kq.seq {o q g es : Nat} {rows : Rows} {e : Nat} {S : St} (h : S.ok) (hq : q < S.n) (hg : S.get q = some (.seq g es rows e)) (a : AObj) : Kq o S (S.set q a) :=
  ⟨St.ok_set h, St.setB _ _ _, Nat.le_of_eq (St.setN _ _ _).symm, fun i x hi hn hx hy hgi => by
    by_cases e1 : i = q
    · subst e1; rw [hg] at hgi; cases hgi; exact absurd rfl (hx _ _ _ _)
    · rw [St.get_setn hq e1]; exact hgi⟩
theorem Kq.map {o q : Nat} {es : List (AV × AV × Nat)} {c : Nat} {S : St} (h : S.ok) (hq : q < S.n) (hg : S.get q = some (.map es c)) (a : AObj) : Kq o S (S.set q a) :=
  ⟨St.ok_set h, St.setB _ _ _, Nat.le_of_eq (St.setN _ _ _).symm, fun i x hi hn hx hy hgi => by
    by_cases e1 : i = q
    · subst e1; rw [hg] at hgi; cases hgi; exact absurd rfl (hy _ _)
    · rw [St.get_setn hq e1]; exact hgi⟩

theorem MV.alen {es : Nat} {v : AV} {R : Rows} {S : St} (h : MV es v R S) {t e : TypeId} (ht : kindOf (cfg w) t = .slice e) (T : St) : Am.alen (cfg w) T t v = some (.int .i64 R.length) := by
  unfold Am.alen
  rw [ht]
  rcases h with ⟨rfl, rfl | rfl⟩ | ⟨o, g, rfl, _⟩ <;> rfl
/-- Appending where rows may be written. -/
theorem app_mv {es bytes : Nat} {R : Rows} {v : AV} {S : St} (row : List AV) (h : MV es v R S) (hok : S.ok) (hb : S.base = 0) (hr : row.length = es) (hh : headOk es R = true) (hc : capOk (R.length + 1) bytes = true) :
    ∃ v' S', aappend es bytes true v [row] S = some (v', S') ∧ MV es v' (R ++ [row]) S' ∧ S'.ok ∧ S'.base = 0 ∧ S.n ≤ S'.n ∧ leafC v' = true ∧ v'.cells = [v'] ∧
      (∀ q x, q < S.n → (∀ g rows e, x ≠ AObj.seq g es rows e) → S.get q = some x → S'.get q = some x) := by
  have hh' : headOk es [row] = true := by simp [headOk, hr]
  have hf : aappend.fresh es true [row] S = some (.sref S.n 0 0 1, S.push (.seq 0 es [row] 0)) := rfl
  have hm : MV es (.sref S.n 0 0 1) [row] (S.push (.seq 0 es [row] 0)) := .inr ⟨S.n, 0, rfl, by rw [St.pushN]; omega, St.get_pushe⟩
  rcases h with ⟨rfl, rfl | rfl⟩ | ⟨o, g, rfl, h3, h4⟩
  · refine ⟨.sref S.n 0 0 1, S.push (.seq 0 es [row] 0), ?_, hm, St.ok_push hok, by rw [St.pushB]; exact hb, by rw [St.pushN]; omega, rfl, rfl, fun q x hq hx hg => by rw [St.get_pushn (by omega)]; exact hg⟩
    have hc' : capOk (([] : Rows).length + ([row] : Rows).length) bytes = true := hc
    simp [aappend, hh', hh, hf]
    simpa using hc
  · refine ⟨.sref S.n 0 0 1, S.push (.seq 0 es [row] 0), ?_, hm, St.ok_push hok, by rw [St.pushB]; exact hb, by rw [St.pushN]; omega, rfl, rfl, fun q x hq hx hg => by rw [St.get_pushn (by omega)]; exact hg⟩
    simp [aappend, hh', hf]
    simpa using hc
  · refine ⟨.sref o (g + 1) 0 (R.length + 1), S.set o (.seq (g + 1) es (R ++ [row]) 0), ?_, .inr ⟨o, g + 1, by simp, by rw [St.setN]; exact h3, St.get_sete hok h3⟩, St.ok_set hok, by rw [St.setB]; exact hb, by rw [St.setN]; omega, rfl, rfl, fun q x hq hx hg => ?_⟩
    · have hb' : S.base ≤ o := by omega
      have hc' : capOk (R.length + ([row] : Rows).length) bytes = true := hc
      simp [aappend, hh', h4, hb']
      simpa using hc'
    · by_cases e1 : q = o
      · subst e1; rw [h4] at hg; cases hg; exact absurd rfl (hx _ _ _)
      · rw [St.get_setn h3 e1]; exact hg
theorem MV.kp {es : Nat} {v : AV} {R : Rows} {S S' : St} (h : MV es v R S) (hn : S.n ≤ S'.n) (hg : ∀ q g rows e, q < S.n → S.get q = some (.seq g es rows e) → S'.get q = some (.seq g es rows e)) : MV es v R S' := by
  rcases h with h | ⟨o, g, h2, h3, h4⟩
  · exact .inl h
  · exact .inr ⟨o, g, h2, by omega, hg _ _ _ _ h3 h4⟩

/-- The builder's own row is changed. -/
theorem Bd.row {o m : Nat} {sv rv : AV} {R : Rows} {es : List (AV × AV × Nat)} {clock : Nat} {A : Ar} {full : Bool} {S : St} (h : Bd o m sv rv R es clock A full S) (fr : Option Nat) (f' : Bool) :
    Bd o m sv rv R es clock ⟨A.slots, fr, A.roots⟩ f' (S.set o (.row [sv, .int .i64 (optI fr), rv, .map m, .bool f'] false)) ∧ Kq o S (S.set o (.row [sv, .int .i64 (optI fr), rv, .map m, .bool f'] false)) := by
  have hk : ∀ q x, q < S.n → (∀ c l, x ≠ AObj.row c l) → S.get q = some x → (S.set o (.row [sv, .int .i64 (optI fr), rv, .map m, .bool f'] false)).get q = some x := fun q x hq hx hg => by
    by_cases e1 : q = o
    · subst e1; rw [h.g] at hg; cases hg; exact absurd rfl (hx _ _)
    · rw [St.get_setn h.n e1]; exact hg
  exact ⟨⟨St.ok_set h.ok, by rw [St.setB]; exact h.base, by rw [St.setN]; exact h.n, St.get_sete h.ok h.n, by rw [St.setN]; exact h.mn, hk _ _ h.mn (fun c l e => by cases e) h.mg, h.mok,
    h.sv.kp (by rw [St.setN]; omega) (fun q g rows e hq hg => hk _ _ hq (fun c l e => by cases e) hg), h.rows, h.rv.kp (by rw [St.setN]; omega) (fun q g rows e hq hg => hk _ _ hq (fun c l e => by cases e) hg)⟩, Kq.set h.ok h.n _⟩

theorem MapOk.snoc {es : List (AV × AV × Nat)} {clock : Nat} {S : List Sl} (h : MapOk es clock S) {z : Sl} (hz : z.refs = 0) : MapOk es clock (S ++ [z]) := by
  obtain ⟨M, h1, h2, h3⟩ := h.ex
  refine ⟨⟨M, h1, h2, fun K i => ?_⟩, h.born⟩
  rw [h3]
  constructor
  · rintro ⟨s, a1, a2, a3⟩
    exact ⟨s, by rw [List.getElem?_append_left (List.getElem?_eq_some_iff.1 a1).1]; exact a1, a2, a3⟩
  · rintro ⟨s, a1, a2, a3⟩
    by_cases hi : i < S.length
    · rw [List.getElem?_append_left hi] at a1
      exact ⟨s, a1, a2, a3⟩
    · rw [List.getElem?_append_right (by omega)] at a1
      have : i - S.length = 0 := by
        have := (List.getElem?_eq_some_iff.1 a1).1
        simp at this; omega
      rw [this] at a1
      simp at a1; subst a1
      exact absurd hz a2

set_option maxHeartbeats 2000000 in
theorem room62 (hw : Std w) {o : Nat} {A : Ar} {S : St} (h : BD o A false S) (hfr : ∀ i, A.free = some i → ∃ s, A.slots[i]? = some s) (hlen : A.slots.length ≤ 4096) :
    CallQ (cfg w) 62 [.ptr o 0] S fun v S' => Kq o S S' ∧ match room A with
      | none => v = .int .i64 (-1) ∧ BD o A true S'
      | some (i, B) => v = .int .i64 (i : Nat) ∧ BD o B false S' := by
  obtain ⟨m, sv, rv, R, es, clock, h⟩ := h
  have hg := h.g
  have hok := h.ok
  have hb := h.base
  have hn := h.n
  unfold room
  cases hf : A.free with
  | some i =>
    obtain ⟨s, hs⟩ := hfr i hf
    obtain ⟨row, hrow, hsr⟩ := h.rows.get hs
    obtain ⟨c6, c7, rfl, -, -⟩ := hsr
    have hsv := h.sv
    rcases hsv with ⟨rfl, -⟩ | ⟨so, sg, rfl, hso, hsg⟩
    · simp at hrow
    rw [hf] at hg
    have h1 : (i : Int) < (R.length : Int) := by have := (List.getElem?_eq_some_iff.1 hrow).1; omega
    have h0 : (0 : Int) ≤ (i : Int) := by omega
    have hg9 : (slC s c6 c7)[9]? = some (.int .i64 (optI s.next)) := rfl
    refine call_of_W (fn62 w) rfl ?_
    simp only [Tryd.f62, List.length_cons, List.length_nil, Nat.reduceAdd, Nat.reduceSub, List.cons_append, List.nil_append]
    repeat with_reducible (first | apply E0 | apply E1 | apply E2 | apply E3 | apply E4 | refine E5 (by decide) ?_ | apply E6 | apply E7 | apply E8 | apply E9 | apply Ea | apply Eb | apply Ec | apply Ed)
    refine W_region fun K hK => ?_
    simp only [KA, KB, KP, KQ, KM, simprocAttr, KT w, KI, hw.KF]
    refine hK _ _ ?_
    clear hK
    clear K
    repeat with_reducible (first | apply E0 | apply E1 | apply E2 | apply E3 | apply E4 | refine E5 (by decide) ?_ | apply E6 | apply E7 | apply E8 | apply E9 | apply Ea | apply Eb | apply Ec | apply Ed)
    refine W_region fun K hK => ?_
    simp only [KA, KB, KP, KQ, KM, simprocAttr, KT w, KI, hw.KF, hg, optI]
    refine hK _ _ ?_
    clear hK
    clear K
    repeat with_reducible (first | apply E0 | apply E1 | apply E2 | apply E3 | apply E4 | refine E5 (by decide) ?_ | apply E6 | apply E7 | apply E8 | apply E9 | apply Ea | apply Eb | apply Ec | apply Ed)
    refine W_region fun K hK => ?_
    simp only [KA, KB, KP, KQ, KM, simprocAttr, KT w, KI, hw.KF, h0]
    refine hK _ _ ?_
    clear hK
    clear K
    repeat with_reducible (first | apply E0 | apply E1 | apply E2 | apply E3 | apply E4 | refine E5 (by decide) ?_ | apply E6 | apply E7 | apply E8 | apply E9 | apply Ea | apply Eb | apply Ec | apply Ed)
    refine W_condT (by simp only [KA, KP, KQ, simprocAttr, KT w, KI, hw.KF]) ?_
    repeat with_reducible (first | apply E0 | apply E1 | apply E2 | apply E3 | apply E4 | refine E5 (by decide) ?_ | apply E6 | apply E7 | apply E8 | apply E9 | apply Ea | apply Eb | apply Ec | apply Ed)
    refine W_region fun K hK => ?_
    simp only [KA, KB, KP, KQ, KM, simprocAttr, KT w, KI, hw.KF, hg, hsg, h0, h1, hrow, hg9, hok, hb, hn, splice]
    refine hK _ _ ?_
    clear hK
    clear K
    repeat with_reducible (first | apply E0 | apply E1 | apply E2 | apply E3 | apply E4 | refine E5 (by decide) ?_ | apply E6 | apply E7 | apply E8 | apply E9 | apply Ea | apply Eb | apply Ec | apply Ed)
    refine W_region fun K hK => ?_
    simp only [KA, KB, KP, KQ, KM, simprocAttr, KT w, KI, hw.KF]
    refine hK _ _ ?_
    clear hK
    clear K
    repeat with_reducible (first | apply E0 | apply E1 | apply E2 | apply E3 | apply E4 | refine E5 (by decide) ?_ | apply E6 | apply E7 | apply E8 | apply E9 | apply Ea | apply Eb | apply Ec | apply Ed)
    refine AtEnd_of rfl ?_
    simp only [KA, KP, KQ, simprocAttr, KT w, KI, hw.KF, RS_some, aresults_nil, aresults_tmp, aresults_cell, one]
    obtain ⟨k1, k2⟩ := h.row s.next false
    have hgd : (A.slots.getD i default).next = s.next := by simp [List.getD, hs]
    refine ⟨k2, ?_⟩
    simp only [hgd]
    exact ⟨_, _, _, _, _, _, k1⟩
  | none =>
    rw [hf] at hg
    have hal := h.sv.alen (w := w) (t := 22) (e := 60) (Tk22 w)
    rw [h.rows.len] at hal
    by_cases hl : A.slots.length < 4096
    case neg =>
      have hl' : (4096 : Int) ≤ (A.slots.length : Int) := by omega
      simp only [if_neg hl]
      refine call_of_W (fn62 w) rfl ?_
      simp only [Tryd.f62, List.length_cons, List.length_nil, Nat.reduceAdd, Nat.reduceSub, List.cons_append, List.nil_append]
      repeat with_reducible (first | apply E0 | apply E1 | apply E2 | apply E3 | apply E4 | refine E5 (by decide) ?_ | apply E6 | apply E7 | apply E8 | apply E9 | apply Ea | apply Eb | apply Ec | apply Ed)
      refine W_region fun K hK => ?_
      simp only [KA, KB, KP, KQ, KM, simprocAttr, KT w, KI, hw.KF]
      refine hK _ _ ?_
      clear hK
      clear K
      repeat with_reducible (first | apply E0 | apply E1 | apply E2 | apply E3 | apply E4 | refine E5 (by decide) ?_ | apply E6 | apply E7 | apply E8 | apply E9 | apply Ea | apply Eb | apply Ec | apply Ed)
      refine W_region fun K hK => ?_
      simp only [KA, KB, KP, KQ, KM, simprocAttr, KT w, KI, hw.KF, hg, optI]
      refine hK _ _ ?_
      clear hK
      clear K
      repeat with_reducible (first | apply E0 | apply E1 | apply E2 | apply E3 | apply E4 | refine E5 (by decide) ?_ | apply E6 | apply E7 | apply E8 | apply E9 | apply Ea | apply Eb | apply Ec | apply Ed)
      refine W_region fun K hK => ?_
      simp only [KA, KB, KP, KQ, KM, simprocAttr, KT w, KI, hw.KF]
      refine hK _ _ ?_
      clear hK
      clear K
      repeat with_reducible (first | apply E0 | apply E1 | apply E2 | apply E3 | apply E4 | refine E5 (by decide) ?_ | apply E6 | apply E7 | apply E8 | apply E9 | apply Ea | apply Eb | apply Ec | apply Ed)
      refine W_condF (by simp only [KA, KP, KQ, simprocAttr, KT w, KI, hw.KF]) ?_
      repeat with_reducible (first | apply E0 | apply E1 | apply E2 | apply E3 | apply E4 | refine E5 (by decide) ?_ | apply E6 | apply E7 | apply E8 | apply E9 | apply Ea | apply Eb | apply Ec | apply Ed)
      refine W_region fun K hK => ?_
      simp only [KA, KB, KP, KQ, KM, simprocAttr, KT w, KI, hw.KF, hg, hal, hl']
      refine hK _ _ ?_
      clear hK
      clear K
      repeat with_reducible (first | apply E0 | apply E1 | apply E2 | apply E3 | apply E4 | refine E5 (by decide) ?_ | apply E6 | apply E7 | apply E8 | apply E9 | apply Ea | apply Eb | apply Ec | apply Ed)
      refine W_condT (by simp only [KA, KP, KQ, simprocAttr, KT w, KI, hw.KF]) ?_
      repeat with_reducible (first | apply E0 | apply E1 | apply E2 | apply E3 | apply E4 | refine E5 (by decide) ?_ | apply E6 | apply E7 | apply E8 | apply E9 | apply Ea | apply Eb | apply Ec | apply Ed)
      refine W_region fun K hK => ?_
      simp only [KA, KB, KP, KQ, KM, simprocAttr, KT w, KI, hw.KF, hg, hok, hb, hn, splice]
      refine hK _ _ ?_
      clear hK
      clear K
      repeat with_reducible (first | apply E0 | apply E1 | apply E2 | apply E3 | apply E4 | refine E5 (by decide) ?_ | apply E6 | apply E7 | apply E8 | apply E9 | apply Ea | apply Eb | apply Ec | apply Ed)
      refine W_region fun K hK => ?_
      simp only [KA, KB, KP, KQ, KM, simprocAttr, KT w, KI, hw.KF]
      refine hK _ _ ?_
      clear hK
      clear K
      repeat with_reducible (first | apply E0 | apply E1 | apply E2 | apply E3 | apply E4 | refine E5 (by decide) ?_ | apply E6 | apply E7 | apply E8 | apply E9 | apply Ea | apply Eb | apply Ec | apply Ed)
      refine AtEnd_of rfl ?_
      simp only [KA, KP, KQ, simprocAttr, KT w, KI, hw.KF, RS_some, aresults_nil, aresults_tmp, aresults_cell, one]
      obtain ⟨k1, k2⟩ := h.row none true
      refine ⟨k2, m, sv, rv, R, es, clock, ?_⟩
      obtain ⟨sl, fr, rt⟩ := A
      simp only at hf
      subst hf
      exact k1
    · have hl' : ¬ (4096 : Int) ≤ (A.slots.length : Int) := by omega
      simp only [if_pos hl]
      obtain ⟨v', S', hap, hmv, ok', b', n', lf', cl', fr'⟩ := app_mv (es := 10) (bytes := 128) (slC (zs (some 0)) .nils .nils) h.sv hok hb rfl h.rows.hd (by simp [capOk, h.rows.len]; omega)
      have hz : slC (zs (some 0)) .nils .nils = [.str [], .bool false, .str [], .int .i64 0, .int .i64 0, .int .i64 0, .nils, .nils, .int .i64 0, .int .i64 0] := rfl
      rw [hz] at hap
      have hg' : S'.get o = some (.row [sv, .int .i64 (optI none), rv, .map m, .bool false] false) := fr' _ _ hn (fun g rows e hh => by cases hh) hg
      have hn' : o < S'.n := by omega
      have hal2 := hmv.alen (w := w) (t := 22) (e := 60) (Tk22 w)
      rw [List.length_append, h.rows.len] at hal2
      have hgn : ∀ X, (S'.set o X).get o = some X := fun X => St.get_sete ok' hn'
      have e1 : IntKind.i64.wrap (((A.slots.length + 1 : Nat) : Int) - 1) = (A.slots.length : Int) := by rw [i64_in _ (by omega)]; omega
      refine call_of_W (fn62 w) rfl ?_
      simp only [Tryd.f62, List.length_cons, List.length_nil, Nat.reduceAdd, Nat.reduceSub, List.cons_append, List.nil_append]
      repeat with_reducible (first | apply E0 | apply E1 | apply E2 | apply E3 | apply E4 | refine E5 (by decide) ?_ | apply E6 | apply E7 | apply E8 | apply E9 | apply Ea | apply Eb | apply Ec | apply Ed)
      refine W_region fun K hK => ?_
      simp only [KA, KB, KP, KQ, KM, simprocAttr, KT w, KI, hw.KF]
      refine hK _ _ ?_
      clear hK
      clear K
      repeat with_reducible (first | apply E0 | apply E1 | apply E2 | apply E3 | apply E4 | refine E5 (by decide) ?_ | apply E6 | apply E7 | apply E8 | apply E9 | apply Ea | apply Eb | apply Ec | apply Ed)
      refine W_region fun K hK => ?_
      simp only [KA, KB, KP, KQ, KM, simprocAttr, KT w, KI, hw.KF, hg, optI]
      refine hK _ _ ?_
      clear hK
      clear K
      repeat with_reducible (first | apply E0 | apply E1 | apply E2 | apply E3 | apply E4 | refine E5 (by decide) ?_ | apply E6 | apply E7 | apply E8 | apply E9 | apply Ea | apply Eb | apply Ec | apply Ed)
      refine W_region fun K hK => ?_
      simp only [KA, KB, KP, KQ, KM, simprocAttr, KT w, KI, hw.KF]
      refine hK _ _ ?_
      clear hK
      clear K
      repeat with_reducible (first | apply E0 | apply E1 | apply E2 | apply E3 | apply E4 | refine E5 (by decide) ?_ | apply E6 | apply E7 | apply E8 | apply E9 | apply Ea | apply Eb | apply Ec | apply Ed)
      refine W_condF (by simp only [KA, KP, KQ, simprocAttr, KT w, KI, hw.KF]) ?_
      repeat with_reducible (first | apply E0 | apply E1 | apply E2 | apply E3 | apply E4 | refine E5 (by decide) ?_ | apply E6 | apply E7 | apply E8 | apply E9 | apply Ea | apply Eb | apply Ec | apply Ed)
      refine W_region fun K hK => ?_
      simp only [KA, KB, KP, KQ, KM, simprocAttr, KT w, KI, hw.KF, hg, hal, hl']
      refine hK _ _ ?_
      clear hK
      clear K
      repeat with_reducible (first | apply E0 | apply E1 | apply E2 | apply E3 | apply E4 | refine E5 (by decide) ?_ | apply E6 | apply E7 | apply E8 | apply E9 | apply Ea | apply Eb | apply Ec | apply Ed)
      refine W_condF (by simp only [KA, KP, KQ, simprocAttr, KT w, KI, hw.KF]) ?_
      repeat with_reducible (first | apply E0 | apply E1 | apply E2 | apply E3 | apply E4 | refine E5 (by decide) ?_ | apply E6 | apply E7 | apply E8 | apply E9 | apply Ea | apply Eb | apply Ec | apply Ed)
      refine W_region fun K hK => ?_
      simp only [KA, KB, KP, KQ, KM, reduceCtorEq, ↓reduceIte, Int.reduceLT, Int.reduceLE, Int.reduceAdd, Int.reduceSub, Int.reduceNeg, Int.reduceMul, Int.reduceToNat, Int.reduceEq, Int.reduceNe, Int.reduceGT, Int.reduceGE, Nat.reducePow, Nat.reduceAdd, Nat.reduceSub, Nat.reduceLT, Nat.reduceMul, Nat.reduceDiv, Nat.reduceEqDiff, Nat.reduceLeDiff, KT w, KI, hw.KF, hg, hap, hg', ok', b', hn', lf', cl', splice]
      refine hK _ _ ?_
      clear hK
      clear K
      repeat with_reducible (first | apply E0 | apply E1 | apply E2 | apply E3 | apply E4 | refine E5 (by decide) ?_ | apply E6 | apply E7 | apply E8 | apply E9 | apply Ea | apply Eb | apply Ec | apply Ed)
      refine W_region fun K hK => ?_
      simp only [KA, KB, KP, KQ, KM, simprocAttr, KT w, KI, hw.KF, hgn, hal2, e1, A2t, A2u]
      refine hK _ _ ?_
      clear hK
      clear K
      repeat with_reducible (first | apply E0 | apply E1 | apply E2 | apply E3 | apply E4 | refine E5 (by decide) ?_ | apply E6 | apply E7 | apply E8 | apply E9 | apply Ea | apply Eb | apply Ec | apply Ed)
      refine AtEnd_of rfl ?_
      simp only [KA, KP, KQ, simprocAttr, KT w, KI, hw.KF, RS_some, aresults_nil, aresults_tmp, aresults_cell, one]
      have hS2 : ∀ q x, q < S.n → q ≠ o → (∀ g rows e, x ≠ AObj.seq g 10 rows e) → S.get q = some x → (S'.set o (.row [v', .int .i64 (optI none), rv, .map m, .bool false] false)).get q = some x := fun q x hq hqo hx hgq => by
        rw [St.get_setn hn' hqo]
        exact fr' q x hq hx hgq
      have hmo : m ≠ o := fun e => by
        have := h.mg; rw [e, hg] at this; cases this
      refine ⟨⟨St.ok_set ok', by rw [St.setB, b', hb], by rw [St.setN]; omega, fun q x hq hqo hx hy hgq => hS2 q x hq hqo (fun g rows e => hx g 10 rows e) hgq⟩, m, v', rv, R ++ [[.str [], .bool false, .str [], .int .i64 0, .int .i64 0, .int .i64 0, .nils, .nils, .int .i64 0, .int .i64 0]], es, clock, ?_⟩
      refine ⟨St.ok_set ok', by rw [St.setB]; exact b', by rw [St.setN]; exact hn', hgn _, by rw [St.setN]; have := h.mn; omega, hS2 m _ h.mn hmo (fun g rows e hh => by cases hh) h.mg, h.mok.snoc rfl, ?_, h.rows.snoc ⟨.nils, .nils, hz.symm, .inl rfl, .inr (.inr ⟨rfl, rfl⟩)⟩, ?_⟩
      · rcases hmv with ⟨hr0, _⟩ | ⟨so, sg, e1, e2, e3⟩
        · simp at hr0
        · have hso : so ≠ o := fun e => by rw [e, hg'] at e3; cases e3
          exact .inr ⟨so, sg, e1, by rw [St.setN]; exact e2, by rw [St.get_setn hn' hso]; exact e3⟩
      · rcases h.rv with h0 | ⟨ro, rg, e1, e2, e3⟩
        · exact .inl h0
        · have hro : ro ≠ o := fun e => by rw [e, hg] at e3; cases e3
          exact .inr ⟨ro, rg, e1, by rw [St.setN]; omega, hS2 ro _ e2 hro (fun g rows e hh => by cases hh) e3⟩
end Go.Am.R
