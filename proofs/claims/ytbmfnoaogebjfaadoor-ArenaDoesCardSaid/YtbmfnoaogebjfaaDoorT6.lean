/- THE BUILDER: a reference less, walked. -/
import Derived.Test.YtbmfnoaogebjfaaDoorT5
import Derived.Test.YtbmfnoaogebjfaaDoorP4
set_option linter.unusedSimpArgs false
set_option linter.unusedVariables false
set_option maxRecDepth 20000
namespace Go.Am.R
open Go.Proofs Go.IntWalk

variable {w : Ways}

theorem opX_extv {c : Cfg} {R : Rec} {f r : Nat} {tm : List AV} {d : Option Tmp} {ty : TypeId} {p : String} {a : Array Edge} {g : Option (Nat × Bool)} {S : St} {fn : FuncId} {F : List AV → Option AV} {x : Array Operand} {t : Array TypeId} (he : c.ext fn = some (.val F)) :
    opX c R f r tm ⟨d, .call { callee := .value (.func fn), args := x, argTypes := t }, ty, p, a, g⟩ S = ((evalL tm x.toList).bind F).map fun v => (v, S, .none) := by
  unfold opX
  rw [opQ_ext he]
  cases (evalL tm x.toList).bind F with
  | some v => rfl
  | none => simp [calmable, he]
theorem IsK.alen {c : AV} {l : List Nat} (h : IsK c l) {t e : TypeId} (ht : kindOf (cfg w) t = .slice e) (T : St) : Am.alen (cfg w) T t c = some (.int .i64 l.length) := by
  unfold Am.alen
  rw [ht]
  rcases h with rfl | ⟨_, o, g, rfl⟩ | ⟨rfl, rfl⟩ <;> simp [ks_len]

theorem map_erase {α β : Type} (f : α → β) : ∀ (l : List α) (n : Nat), (l.eraseIdx n).map f = (l.map f).eraseIdx n
  | [], n => by simp
  | a :: l, 0 => by simp
  | a :: l, n + 1 => by simp [map_erase f l n]
theorem erase_mid {α : Type} (x : α) (b : List α) : ∀ (a : List α), (a ++ x :: b).eraseIdx a.length = a ++ b
  | [] => by simp
  | y :: a => by simp [erase_mid x b a]
theorem MapOk.del {es : List (AV × AV × Nat)} {clock : Nat} {S : List Sl} {i : Nat} {s : Sl} (h : MapOk es clock S) (hs : S[i]? = some s) (hr : s.refs ≠ 0) (n : Sl) (hn : n.refs = 0) :
    ∃ pos v, findKey (.agg (keyC s.key)) es 0 = some (some (pos, v)) ∧ MapOk (es.eraseIdx pos) clock (S.set i n) := by
  obtain ⟨M, h1, h2, h3⟩ := h.ex
  obtain ⟨M1, M2, hM⟩ := List.append_of_mem ((h3 s.key i).2 ⟨s, hs, hr, rfl⟩)
  rw [hM] at h1 h2 h3
  have hno : ∀ x ∈ M1, x.1 ≠ s.key := fun x hx e => by
    rw [List.map_append, List.nodup_append] at h2
    exact h2.2.2 x.1 (List.mem_map_of_mem hx) s.key (by simp) e
  have hno2 : ∀ x ∈ M2, x.1 ≠ s.key := fun x hx e => by
    rw [List.map_append, List.nodup_append] at h2
    have h4 := h2.2.1
    rw [List.map_cons, List.nodup_cons] at h4
    have h5 : x.1 ∈ M2.map (·.1) := List.mem_map_of_mem hx
    rw [e] at h5
    exact h4.1 h5
  have hlt := (List.getElem?_eq_some_iff.1 hs).1
  refine ⟨M1.length, .int .i64 (i : Nat), by rw [find_yes es M1 M2 0 h1 hno]; simp, ⟨M1 ++ M2, by rw [map_erase, h1, ← map_erase, erase_mid], ?_, fun K j => ?_⟩, fun e he => h.born e (List.mem_of_mem_eraseIdx he)⟩
  · rw [List.map_append, List.map_cons] at h2
    rw [List.map_append]
    exact h2.sublist (List.Sublist.append (List.Sublist.refl _) (List.sublist_cons_self _ _))
  · have h4 := h3 K j
    constructor
    · intro hm
      have hKs : K ≠ s.key := by
        rcases List.mem_append.1 hm with hm | hm
        · exact hno _ hm
        · exact hno2 _ hm
      obtain ⟨u, a1, a2, a3⟩ := h4.1 (by
        rcases List.mem_append.1 hm with hm | hm
        · exact List.mem_append_left _ hm
        · exact List.mem_append_right _ (List.mem_cons_of_mem _ hm))
      have hij : i ≠ j := fun e => by subst e; rw [hs] at a1; cases a1; exact hKs a3.symm
      exact ⟨u, by rw [List.getElem?_set_ne hij]; exact a1, a2, a3⟩
    · rintro ⟨u, a1, a2, a3⟩
      by_cases hij : i = j
      · subst hij
        rw [List.getElem?_set_self hlt] at a1; cases a1
        exact absurd hn a2
      · rw [List.getElem?_set_ne hij] at a1
        have hm := h4.2 ⟨u, a1, a2, a3⟩
        rcases List.mem_append.1 hm with hm | hm
        · exact List.mem_append_left _ hm
        · rcases List.mem_cons.1 hm with e | hm
          · cases e; exact absurd rfl hij
          · exact List.mem_append_right _ hm

/-- One after another. -/
def Runs (w : Ways) (o : Nat) : List Nat → St → (St → Prop) → Prop
  | [], S, Q => Q S
  | i :: r, S, Q => ∃ v S1, (lim (cfg w)).call 38 [.ptr o 0, .int .i64 (i : Nat)] S = some (v, S1) ∧ Runs w o r S1 Q
theorem Runs.mono {o : Nat} {Q Q' : St → Prop} (h : ∀ S, Q S → Q' S) : ∀ {r : List Nat} {S : St}, Runs w o r S Q → Runs w o r S Q'
  | [], S, hr => h S hr
  | i :: r, S, ⟨v, S1, h1, h2⟩ => ⟨v, S1, h1, Runs.mono h h2⟩

def LQ (o : Nat) (c : Int) (C : Ar) (S : St) : St → Prop := fun S' => BD o C false S' ∧ Kq o S S' ∧ RB c C.slots

set_option maxHeartbeats 4000000 in
theorem less_keep (hw : Std w) {o i : Nat} {A : Ar} {s : Sl} (hs : A.slots[i]? = some s) (h1 : 1 < s.refs) (h2 : s.refs ≤ 1000000000000000) {S : St} (hBD : BD o A false S) :
    CallQ (cfg w) 38 [.ptr o 0, .int .i64 (i : Nat)] S fun v S' => BD o { A with slots := decS A.slots i } false S' ∧ Kq o S S' := by
  obtain ⟨m5, sv5, rv5, R5, es5, clock5, h5⟩ := hBD
  have g5 := h5.g
  have ok5 := h5.ok
  have b5 := h5.base
  obtain ⟨xrow, hxrow, hxr⟩ := h5.rows.get hs
  obtain ⟨c6, c7, rfl, hc6, hc7⟩ := hxr
  rcases h5.sv with ⟨hR0, -⟩ | ⟨so5, sg5, rfl, hso5, hsg5⟩
  · rw [hR0] at hxrow; simp at hxrow
  have hx1 : (i : Int) < (R5.length : Int) := by have := (List.getElem?_eq_some_iff.1 hxrow).1; omega
  have hx0 : (0 : Int) ≤ (i : Int) := by omega
  have hmx : max s.refs 0 = s.refs := by omega
  have ew : IntKind.i64.wrap (s.refs - 1) = s.refs - 1 := i64_in _ (by omega)
  have hge : 0 < s.refs - 1 := by omega
  obtain ⟨P5, PK5⟩ := h5.put hso5 hsg5 (x := i) (s' := { s with refs := s.refs - 1 }) (row' := [.str s.fs.kind, .bool s.fs.named, .str s.fs.field, .int .i64 s.fs.frm, .int .i64 s.fs.to, .int .i64 s.fs.bad, c6, c7, .int .i64 (s.refs - 1), .int .i64 (optI s.next)])
    ⟨c6, c7, by simp only [slC, show max (s.refs - 1) 0 = s.refs - 1 from by omega], hc6, hc7⟩ (h5.mok.refs hs (by omega) (by omega))
  have g6 := P5.g
  have hg6 : ∀ X, (S.set so5 X).get so5 = some X := fun X => St.get_sete ok5 hso5
  have hrl : ∀ X : List AV, (R5.set i X)[i]? = some X := fun X => List.getElem?_set_self (List.getElem?_eq_some_iff.1 hxrow).1
  have hgo : ∀ X, (S.set so5 X).get o = S.get o := fun X => St.get_setn hso5 (fun e => by rw [← e, g5] at hsg5; cases hsg5)
  have hlen2 : ∀ X : List AV, (R5.set i X).length = R5.length := fun X => List.length_set
  refine call_of_W (fn38 w) rfl ?_
  simp only [Tryd.f38, List.length_cons, List.length_nil, Nat.reduceAdd, Nat.reduceSub, List.cons_append, List.nil_append]
  repeat with_reducible (first | apply E0 | apply E1 | apply E2 | apply E3 | apply E4 | refine E5 (by decide) ?_ | apply E6 | apply E7 | apply E8 | apply E9 | apply Ea | apply Eb | apply Ec | apply Ed)
  refine W_region fun K hK => ?_
  simp only [KA, KB, KP, KQ, KM, simprocAttr, KT w, KI, hw.KF, g5, hsg5, hx0, hx1, hxrow, slC, hmx, ew, ok5, b5, hso5, splice]
  refine hK _ _ ?_
  clear hK
  clear K
  repeat with_reducible (first | apply E0 | apply E1 | apply E2 | apply E3 | apply E4 | refine E5 (by decide) ?_ | apply E6 | apply E7 | apply E8 | apply E9 | apply Ea | apply Eb | apply Ec | apply Ed)
  refine W_region fun K hK => ?_
  simp only [KA, KB, KP, KQ, KM, simprocAttr, KT w, KI, hw.KF, hgo, g5, hg6, hx0, hx1, hrl, hlen2, hge]
  refine hK _ _ ?_
  clear hK
  clear K
  repeat with_reducible (first | apply E0 | apply E1 | apply E2 | apply E3 | apply E4 | refine E5 (by decide) ?_ | apply E6 | apply E7 | apply E8 | apply E9 | apply Ea | apply Eb | apply Ec | apply Ed)
  refine W_condT (by simp only [KA, KP, KQ, simprocAttr, KT w, KI, hw.KF, hge]) ?_
  repeat with_reducible (first | apply E0 | apply E1 | apply E2 | apply E3 | apply E4 | refine E5 (by decide) ?_ | apply E6 | apply E7 | apply E8 | apply E9 | apply Ea | apply Eb | apply Ec | apply Ed)
  refine AtEnd_of rfl ?_
  simp only [KA, KP, KQ, simprocAttr, KT w, KI, hw.KF, RS_some, aresults_nil, aresults_tmp, aresults_cell, one]
  refine ⟨?_, PK5⟩
  rw [dec_set hs]
  exact ⟨_, _, _, _, _, _, P5⟩

theorem set_comm {S : St} {a b : Nat} {x y : AObj} (h : a ≠ b) (ha : a < S.n) (hb : b < S.n) : (S.set a x).set b y = (S.set b y).set a x := by
  simp only [St.set]
  congr 1
  exact List.set_comm _ _ (by omega)
/-- A slot goes. -/
theorem Bd.gone {o m so sg : Nat} {rv : AV} {R : Rows} {es es' : List (AV × AV × Nat)} {clock : Nat} {A : Ar} {S : St} (h : Bd o m (.sref so sg 0 R.length) rv R es clock A false S) (hso : so < S.n) (hsg : S.get so = some (.seq sg 10 R 0)) {i : Nat} {zrow : List AV} (hz : SlRow (zs A.free) zrow) (hm : MapOk es' clock (A.slots.set i (zs A.free))) :
    Bd o m (.sref so sg 0 R.length) rv (R.set i zrow) es' clock (gone A i) false (((S.set m (.map es' clock)).set so (.seq sg 10 (R.set i zrow) 0)).set o (.row [.sref so sg 0 R.length, .int .i64 (i : Nat), rv, .map m, .bool false] false)) ∧
      Kq o S (((S.set m (.map es' clock)).set so (.seq sg 10 (R.set i zrow) 0)).set o (.row [.sref so sg 0 R.length, .int .i64 (i : Nat), rv, .map m, .bool false] false)) := by
  have hso' : so ≠ o := fun e => by have := h.g; rw [← e, hsg] at this; cases this
  have hsm : so ≠ m := fun e => by have := h.mg; rw [← e, hsg] at this; cases this
  have hmo : m ≠ o := fun e => by have := h.mg; rw [e, h.g] at this; cases this
  have h1 := h.n; have h2 := h.mn
  have ok1 : (S.set m (.map es' clock)).ok := St.ok_set h.ok
  have n1 : (S.set m (.map es' clock)).n = S.n := St.setN _ _ _
  have ok2 : ((S.set m (.map es' clock)).set so (.seq sg 10 (R.set i zrow) 0)).ok := St.ok_set ok1
  have n2 : ((S.set m (.map es' clock)).set so (.seq sg 10 (R.set i zrow) 0)).n = S.n := by rw [St.setN, n1]
  have other : ∀ q y, q < S.n → q ≠ o → q ≠ so → q ≠ m → S.get q = some y → (((S.set m (.map es' clock)).set so (.seq sg 10 (R.set i zrow) 0)).set o (.row [.sref so sg 0 R.length, .int .i64 (i : Nat), rv, .map m, .bool false] false)).get q = some y := fun q y hq a b c hy => by
    rw [St.get_setn (by omega) a, St.get_setn (by omega) b, St.get_setn (by omega) c]; exact hy
  have b3 : (((S.set m (.map es' clock)).set so (.seq sg 10 (R.set i zrow) 0)).set o (.row [.sref so sg 0 R.length, .int .i64 (i : Nat), rv, .map m, .bool false] false)).base = S.base := by simp only [St.setB]
  refine ⟨⟨St.ok_set ok2, b3.trans h.base, by rw [St.setN, n2]; exact h1, St.get_sete ok2 (by omega), by rw [St.setN, n2]; exact h2, ?_, hm, ?_, h.rows.set hz i, ?_⟩, ⟨St.ok_set ok2, b3, by rw [St.setN, n2]; omega, fun q y hq a hx hy hg => other q y hq a (fun e => by rw [e, hsg] at hg; cases hg; exact hx _ _ _ _ rfl) (fun e => by rw [e, h.mg] at hg; cases hg; exact hy _ _ rfl) hg⟩⟩
  · rw [St.get_setn (by omega) hmo, St.get_setn (by omega) (Ne.symm hsm)]; exact St.get_sete h.ok h2
  · exact .inr ⟨so, sg, by rw [List.length_set], by rw [St.setN, n2]; exact hso, by rw [St.get_setn (by omega) hso']; exact St.get_sete ok1 (by omega)⟩
  · refine h.rv.kp (by rw [St.setN, n2]; omega) fun q g rows e hq hg => other q _ hq (fun e1 => ?_) (fun e1 => ?_) (fun e1 => ?_) hg
    · rw [e1, h.g] at hg; cases hg
    · rw [e1, hsg] at hg; cases hg
    · rw [e1, h.mg] at hg; cases hg

set_option maxHeartbeats 8000000 in
theorem less_gone (hw : Std w) (hkey : w.ext 46 = some (.val keyF)) {o i : Nat} {A B : Ar} {s : Sl} (hs : A.slots[i]? = some s) (h1 : s.refs = 1) (hkl : Kok s.kids) {c : Int} {S : St} (hBD : BD o A false S) (ih : ∀ S, BD o (gone A i) false S → Runs w o s.kids S (LQ o c B S)) :
    CallQ (cfg w) 38 [.ptr o 0, .int .i64 (i : Nat)] S fun v S' => LQ o c B S S' := by
  obtain ⟨m5, sv5, rv5, R5, es5, clock5, h5⟩ := hBD
  have g5 := h5.g
  have ok5 := h5.ok
  have b5 := h5.base
  have on5 := h5.n
  have mg5 := h5.mg
  obtain ⟨xrow, hxrow, hxr⟩ := h5.rows.get hs
  obtain ⟨c6, c7, rfl, hc6, hc7⟩ := hxr
  rcases h5.sv with ⟨hR0, -⟩ | ⟨so5, sg5, rfl, hso5, hsg5⟩
  · rw [hR0] at hxrow; simp at hxrow
  have hx1 : (i : Int) < (R5.length : Int) := by have := (List.getElem?_eq_some_iff.1 hxrow).1; omega
  have hx0 : (0 : Int) ≤ (i : Int) := by omega
  have hmx : max s.refs 0 = 1 := by omega
  have hso' : so5 ≠ o := fun e => by rw [e, g5] at hsg5; cases hsg5
  have hsm : so5 ≠ m5 := fun e => by rw [e, mg5] at hsg5; cases hsg5
  have hmo : m5 ≠ o := fun e => by rw [e, g5] at mg5; cases mg5
  have okX : ∀ X, (S.set so5 X).ok := fun X => St.ok_set ok5
  have bX : ∀ X, (S.set so5 X).base = 0 := fun X => by rw [St.setB]; exact b5
  have hg6 : ∀ X, (S.set so5 X).get so5 = some X := fun X => St.get_sete ok5 hso5
  have hrl : ∀ X : List AV, (R5.set i X)[i]? = some X := fun X => List.getElem?_set_self (List.getElem?_eq_some_iff.1 hxrow).1
  have hgo : ∀ X, (S.set so5 X).get o = S.get o := fun X => St.get_setn hso5 (Ne.symm hso')
  have hgm : ∀ X, (S.set so5 X).get m5 = S.get m5 := fun X => St.get_setn hso5 (Ne.symm hsm)
  have hlen2 : ∀ X : List AV, (R5.set i X).length = R5.length := fun X => List.length_set
  have hkl1 := hkl.1
  have hkc := keyF_eq hkl (fs := s.fs) (l := s.kids) (c6 := c6) (c7 := c7) (r := 0) (x := optI s.next) hc6 hc7
  have he46 : (cfg w).ext 46 = some (.val keyF) := by rw [cfgP_ext]; exact hkey
  have hX := @opX_extv (cfg w) (lim (cfg w)) 38 3 (fn := 46) (F := keyF) (he := he46)
  have ew : IntKind.i64.wrap 0 = 0 := i64_in _ (by omega)
  obtain ⟨pos, pv, hfind, hmok⟩ := h5.mok.del hs (by omega) (zs A.free) rfl
  have hkey0 : s.key = (s.fs, s.kids) := rfl
  rw [hkey0] at hfind
  have hfit := fits80 hw (s.fs, s.kids)
  obtain ⟨KC, hKC⟩ : ∃ KC, keyC (s.fs, s.kids) = KC := ⟨_, rfl⟩
  rw [hKC] at hkc hfind hfit
  have hdel : ∀ X, adelete (cfg w) (S.set so5 X) 64 (.map m5) (.agg KC) = some ((S.set so5 X).set m5 (.map (es5.eraseIdx pos) clock5)) := fun X => by
    simp only [adelete, Tk64, hfit, if_true, hgm, mg5, hfind, Option.bind_some, St.putO, bX, Nat.zero_le]
  refine call_of_W (fn38 w) rfl ?_
  simp only [Tryd.f38, List.length_cons, List.length_nil, Nat.reduceAdd, Nat.reduceSub, List.cons_append, List.nil_append]
  repeat with_reducible (first | apply E0 | apply E1 | apply E2 | apply E3 | apply E4 | refine E5 (by decide) ?_ | apply E6 | apply E7 | apply E8 | apply E9 | apply Ea | apply Eb | apply Ec | apply Ed)
  refine W_region fun K hK => ?_
  simp only [KA, KB, KP, KQ, KM, simprocAttr, KT w, KI, hw.KF, g5, hsg5, hx0, hx1, hxrow, slC, hmx, ew, ok5, b5, hso5, splice]
  refine hK _ _ ?_
  clear hK
  clear K
  repeat with_reducible (first | apply E0 | apply E1 | apply E2 | apply E3 | apply E4 | refine E5 (by decide) ?_ | apply E6 | apply E7 | apply E8 | apply E9 | apply Ea | apply Eb | apply Ec | apply Ed)
  refine W_region fun K hK => ?_
  simp only [KA, KB, KP, KQ, KM, simprocAttr, KT w, KI, hw.KF, hgo, g5, hg6, hx0, hx1, hrl, hlen2]
  refine hK _ _ ?_
  clear hK
  clear K
  repeat with_reducible (first | apply E0 | apply E1 | apply E2 | apply E3 | apply E4 | refine E5 (by decide) ?_ | apply E6 | apply E7 | apply E8 | apply E9 | apply Ea | apply Eb | apply Ec | apply Ed)
  refine W_condF (by simp only [KA, KP, KQ, simprocAttr, KT w, KI, hw.KF]) ?_
  repeat with_reducible (first | apply E0 | apply E1 | apply E2 | apply E3 | apply E4 | refine E5 (by decide) ?_ | apply E6 | apply E7 | apply E8 | apply E9 | apply Ea | apply Eb | apply Ec | apply Ed)
  refine W_region fun K hK => ?_
  simp only [KA, KB, KP, KQ, KM, simprocAttr, KT w, KI, hw.KF, hgo, g5, hg6, hx0, hx1, hrl, hlen2]
  refine hK _ _ ?_
  clear hK
  clear K
  repeat with_reducible (first | apply E0 | apply E1 | apply E2 | apply E3 | apply E4 | refine E5 (by decide) ?_ | apply E6 | apply E7 | apply E8 | apply E9 | apply Ea | apply Eb | apply Ec | apply Ed)
  have d1 : (m5 == o) = false := beq_eq_false_iff_ne.2 hmo
  have d2 : (m5 == so5) = false := beq_eq_false_iff_ne.2 (Ne.symm hsm)
  refine W_regionD [[], [0], [1, 0], [2, 1, 0], [], [4], [5, 4], [6, 5, 4], [7, 6, 5, 4], [], [8, 7, 6, 5, 4, 9], [10, 8, 7, 6, 5, 4, 9], [11, 10, 8, 7, 6, 5, 4, 9], [3, 2, 1, 0, 12, 11, 10, 8, 7, 6, 5, 4, 9]] (by decide +kernel) (by decide +kernel) (by decide +kernel) fun K hK => ?_
  simp only [KA, KB, KP, KQ, KM, simprocAttr, KT w, KI, hw.KF, A58, A59, A5a, A5b, A5c, A5d, A5e, A5f, A5g, A5h, KX, Foot.big, A5i, opP, rfoot, refsO, refs, wfoot, A5j, A5k, noisyOk, pairOk, Foot.isQuiet, Foot.apart, Ft.apart, Foot.none, A5l, A5m, A48, A49, A5n, A5o, A5p, A5q, Nat.reduceBEq, hX, hgo, g5, hg6, hx0, hx1, hrl, hlen2, hkc, hdel, okX, bX]
  refine hK _ _ ?_
  clear hK
  clear K
  repeat with_reducible (first | apply E0 | apply E1 | apply E2 | apply E3 | apply E4 | refine E5 (by decide) ?_ | apply E6 | apply E7 | apply E8 | apply E9 | apply Ea | apply Eb | apply Ec | apply Ed)
  have n1 : ∀ X, (S.set so5 X).n = S.n := fun X => St.setN _ _ _
  have hgo2 : ∀ X Y, ((S.set so5 X).set m5 Y).get o = S.get o := fun X Y => by rw [St.get_setn (by rw [n1]; exact h5.mn) (Ne.symm hmo)]; exact hgo X
  have hg7 : ∀ X Y, ((S.set so5 X).set m5 Y).get so5 = some X := fun X Y => by rw [St.get_setn (by rw [n1]; exact h5.mn) hsm]; exact hg6 X
  have ok7 : ∀ X Y, ((S.set so5 X).set m5 Y).ok := fun X Y => St.ok_set (okX X)
  have b7 : ∀ X Y, ((S.set so5 X).set m5 Y).base = 0 := fun X Y => by rw [St.setB]; exact bX X
  have n7 : ∀ X Y, ((S.set so5 X).set m5 Y).n = S.n := fun X Y => by rw [St.setN]; exact n1 X
  have hgo3 : ∀ X Y Z, (((S.set so5 X).set m5 Y).set so5 Z).get o = S.get o := fun X Y Z => by rw [St.get_setn (by rw [n7]; exact hso5) (Ne.symm hso')]; exact hgo2 X Y
  have ok8 : ∀ X Y Z, (((S.set so5 X).set m5 Y).set so5 Z).ok := fun X Y Z => St.ok_set (ok7 X Y)
  have b8 : ∀ X Y Z, (((S.set so5 X).set m5 Y).set so5 Z).base = 0 := fun X Y Z => by rw [St.setB]; exact b7 X Y
  have n8 : ∀ X Y Z, (((S.set so5 X).set m5 Y).set so5 Z).n = S.n := fun X Y Z => by rw [St.setN]; exact n7 X Y
  refine W_regionD [[], [0], [1, 0], [2, 1, 0], [3, 2, 1, 0], [], [], [6], [7, 6], [8, 7, 6], [9, 8, 7, 6], [10, 9, 8, 7, 6], [4, 3, 2, 1, 0, 5, 6, 7, 8, 9, 10, 11], [12, 4, 3, 2, 1, 0, 5, 6, 7, 8, 9, 10, 11]] (by decide +kernel) (by decide +kernel) (by decide +kernel) fun K hK => ?_
  simp only [KA, KB, KP, KQ, KM, simprocAttr, KT w, KI, hw.KF, A58, A59, A5a, A5b, A5c, A5d, A5e, A5f, A5g, A5h, KX, Foot.big, A5i, opP, rfoot, refsO, refs, wfoot, A5j, A5k, noisyOk, pairOk, Foot.isQuiet, Foot.apart, Ft.apart, Foot.none, A5l, A5m, A48, A49, A5n, A5o, A5p, A5q, Nat.reduceBEq, hgo2, g5, hg7, hx0, hx1, hrl, hlen2, ok5, b5, hso5, splice]
  refine hK _ _ ?_
  clear hK
  clear K
  repeat with_reducible (first | apply E0 | apply E1 | apply E2 | apply E3 | apply E4 | refine E5 (by decide) ?_ | apply E6 | apply E7 | apply E8 | apply E9 | apply Ea | apply Eb | apply Ec | apply Ed)
  refine W_region fun K hK => ?_
  simp only [KA, KB, KP, KQ, KM, simprocAttr, KT w, KI, hw.KF, hgo3, g5, ok5, b5, on5, splice]
  refine hK _ _ ?_
  clear hK
  clear K
  repeat with_reducible (first | apply E0 | apply E1 | apply E2 | apply E3 | apply E4 | refine E5 (by decide) ?_ | apply E6 | apply E7 | apply E8 | apply E9 | apply Ea | apply Eb | apply Ec | apply Ed)
  obtain ⟨T, hT⟩ : ∃ T, (((S.set so5 (AObj.seq sg5 10 (List.set R5 i [AV.str s.fs.kind, AV.bool s.fs.named, AV.str s.fs.field, AV.int IntKind.i64 s.fs.frm, AV.int IntKind.i64 s.fs.to, AV.int IntKind.i64 s.fs.bad, c6, c7, AV.int IntKind.i64 0, AV.int IntKind.i64 (optI s.next)]) 0)).set m5 (AObj.map (es5.eraseIdx pos) clock5)).set so5 (AObj.seq sg5 10 (List.set (List.set R5 i [AV.str s.fs.kind, AV.bool s.fs.named, AV.str s.fs.field, AV.int IntKind.i64 s.fs.frm, AV.int IntKind.i64 s.fs.to, AV.int IntKind.i64 s.fs.bad, c6, c7, AV.int IntKind.i64 0, AV.int IntKind.i64 (optI s.next)]) i [AV.str [], AV.bool false, AV.str [], AV.int IntKind.i64 0, AV.int IntKind.i64 0, AV.int IntKind.i64 0, AV.nils, AV.nils, AV.int IntKind.i64 0, AV.int IntKind.i64 (optI A.free)]) 0)).set o (.row [.sref so5 sg5 0 R5.length, .int .i64 (i : Nat), rv5, .map m5, .bool false] false) = T := ⟨_, rfl⟩
  have hzr : SlRow (zs A.free) [AV.str [], AV.bool false, AV.str [], AV.int IntKind.i64 0, AV.int IntKind.i64 0, AV.int IntKind.i64 0, AV.nils, AV.nils, AV.int IntKind.i64 0, AV.int IntKind.i64 (optI A.free)] := ⟨.nils, .nils, rfl, .inl rfl, .inr (.inr ⟨rfl, rfl⟩)⟩
  obtain ⟨P5, PK5⟩ := h5.gone hso5 hsg5 (i := i) hzr hmok
  have hTe : ((S.set m5 (.map (es5.eraseIdx pos) clock5)).set so5 (.seq sg5 10 (R5.set i [AV.str [], AV.bool false, AV.str [], AV.int IntKind.i64 0, AV.int IntKind.i64 0, AV.int IntKind.i64 0, AV.nils, AV.nils, AV.int IntKind.i64 0, AV.int IntKind.i64 (optI A.free)]) 0)).set o (.row [.sref so5 sg5 0 R5.length, .int .i64 (i : Nat), rv5, .map m5, .bool false] false) = T := by
    rw [← hT, List.set_set, set_comm hsm hso5 h5.mn, set_set]
  rw [hTe] at P5 PK5
  rw [hT]
  have hRun := ih T ⟨_, _, _, _, _, _, P5⟩
  have hkal := hc7.alen (w := w) (t := 23) (e := 3) (Tk23 w)
  refine W_region fun K hK => ?_
  simp only [KA, KB, KP, KQ, KM, simprocAttr, KT w, KI, hw.KF, hkal]
  refine hK _ _ ?_
  clear hK
  clear K
  repeat with_reducible (first | apply E0 | apply E1 | apply E2 | apply E3 | apply E4 | refine E5 (by decide) ?_ | apply E6 | apply E7 | apply E8 | apply E9 | apply Ea | apply Eb | apply Ec | apply Ed)
  refine W_loop (fun k0 fr T' => ∃ (tm : List AV) (j : Nat), fr = ⟨tm, [], none, 38⟩ ∧ k0 = s.kids.length - j ∧ j ≤ s.kids.length ∧ Runs w o (s.kids.drop j) T' (LQ o c B T) ∧ tm.length = 79 ∧ tget tm 0 = .ptr o 0 ∧ tget tm 69 = c7 ∧ tget tm 70 = .int .i64 (s.kids.length : Nat) ∧ tget tm 71 = .int .i64 (j : Nat)) s.kids.length
    ⟨_, 0, rfl, by omega, by omega, by rw [List.drop_zero]; exact hRun, ?_⟩ ?_
  · simp only [KA, KP, KQ, simprocAttr, KT w, KI, hw.KF, Int.ofNat_zero]
    try simp
  rintro k0 fr T' ⟨tm, j, rfl, rfl, hj, hR, htm, t0, t69, t70, t71⟩
  repeat with_reducible (first | apply E0 | apply E1 | apply E2 | apply E3 | apply E4 | refine E5 (by decide) ?_ | apply E6 | apply E7 | apply E8 | apply E9 | apply Ea | apply Eb | apply Ec | apply Ed)
  by_cases hjl : (j : Int) < (s.kids.length : Int)
  case neg =>
    rw [List.drop_eq_nil_of_le (by omega), Runs] at hR
    refine W_region fun K hK => ?_
    simp only [KA, KB, KP, KQ, KM, simprocAttr, KT w, KI, hw.KF, htm, t70, t71, hjl]
    refine hK _ _ ?_
    clear hK
    clear K
    repeat with_reducible (first | apply E0 | apply E1 | apply E2 | apply E3 | apply E4 | refine E5 (by decide) ?_ | apply E6 | apply E7 | apply E8 | apply E9 | apply Ea | apply Eb | apply Ec | apply Ed)
    refine W_condF (by simp only [KA, KP, KQ, simprocAttr, KT w, KI, hw.KF, htm]) ?_
    repeat with_reducible (first | apply E0 | apply E1 | apply E2 | apply E3 | apply E4 | refine E5 (by decide) ?_ | apply E6 | apply E7 | apply E8 | apply E9 | apply Ea | apply Eb | apply Ec | apply Ed)
    refine AtEnd_of rfl ?_
    simp only [KA, KP, KQ, simprocAttr, KT w, KI, hw.KF, htm, RS_some, aresults_nil, aresults_tmp, aresults_cell, one]
    exact ⟨hR.1, PK5.trans hR.2.1, hR.2.2⟩
  have hjn : j < s.kids.length := by omega
  obtain ⟨x, hx⟩ : ∃ x, s.kids[j]? = some x := ⟨_, List.getElem?_eq_getElem hjn⟩
  have hd : s.kids.drop j = x :: s.kids.drop (j + 1) := by
    rw [List.drop_eq_getElem_cons hjn]
    rw [List.getElem?_eq_getElem hjn] at hx
    simp only [Option.some.injEq] at hx; rw [hx]
  rw [hd, Runs] at hR
  obtain ⟨v, S1, hc1, hR1⟩ := hR
  have hcall : callF (cfg w) (lim (cfg w)) 38 [.ptr o 0, .int .i64 (x : Nat)] T' = some (v, S1) := by
    rw [callF_raw (by exact hw.e38) (by exact hw.m38)]; exact hc1
  have hj0 : (0 : Int) ≤ (j : Int) := by omega
  have ej : IntKind.i64.wrap ((j : Int) + 1) = ((j + 1 : Nat) : Int) := by rw [i64_in _ (by omega)]; omega
  have hrow : (ks s.kids)[j]? = some [.int .i64 (x : Nat)] := by rw [ks_get, hx]; rfl
  have hkl2 := ks_len s.kids
  refine W_region fun K hK => ?_
  simp only [KA, KB, KP, KQ, KM, simprocAttr, KT w, KI, hw.KF, htm, t70, t71, hjl]
  refine hK _ _ ?_
  clear hK
  clear K
  repeat with_reducible (first | apply E0 | apply E1 | apply E2 | apply E3 | apply E4 | refine E5 (by decide) ?_ | apply E6 | apply E7 | apply E8 | apply E9 | apply Ea | apply Eb | apply Ec | apply Ed)
  refine W_condT (by simp only [KA, KP, KQ, simprocAttr, KT w, KI, hw.KF, htm]) ?_
  repeat with_reducible (first | apply E0 | apply E1 | apply E2 | apply E3 | apply E4 | refine E5 (by decide) ?_ | apply E6 | apply E7 | apply E8 | apply E9 | apply Ea | apply Eb | apply Ec | apply Ed)
  refine W.mono (Q := fun ex fr S' => ex = .nrm ∧ S' = T' ∧ ∃ tm, fr = ⟨tm, [], none, 38⟩ ∧ tm.length = 79 ∧ tget tm 0 = .ptr o 0 ∧ tget tm 69 = c7 ∧ tget tm 70 = .int .i64 (s.kids.length : Nat) ∧ tget tm 71 = .int .i64 (j : Nat) ∧ tget tm 6 = .int .i64 (x : Nat)) ?_ ?_
  · rcases hc7 with rfl | ⟨-, ko, kg, rfl⟩ | ⟨hk0, rfl⟩
    · refine W_region fun K hK => ?_
      simp only [KA, KB, KP, KQ, KM, simprocAttr, KT w, KI, hw.KF, htm, t69, t71, hj0, hjl, hx, ks_get]
      refine hK _ _ ?_
      clear hK
      clear K
      refine ⟨rfl, rfl, _, rfl, ?_⟩
      simp only [KA, KP, KQ, simprocAttr, KT w, KI, hw.KF, htm, t0, t69, t70, t71]
    · refine W_region fun K hK => ?_
      simp only [KA, KB, KP, KQ, KM, simprocAttr, KT w, KI, hw.KF, htm, t69, t71, hj0, hjl, hx, ks_get]
      refine hK _ _ ?_
      clear hK
      clear K
      refine ⟨rfl, rfl, _, rfl, ?_⟩
      simp only [KA, KP, KQ, simprocAttr, KT w, KI, hw.KF, htm, t0, t69, t70, t71]
    · exfalso; rw [hk0] at hjn; simp at hjn
  rintro ex fr S' ⟨rfl, rfl, tm2, rfl, htm2, t0', t69', t70', t71', t6'⟩
  repeat with_reducible (first | apply E0 | apply E1 | apply E2 | apply E3 | apply E4 | refine E5 (by decide) ?_ | apply E6 | apply E7 | apply E8 | apply E9 | apply Ea | apply Eb | apply Ec | apply Ed)
  refine W_region fun K hK => ?_
  simp only [KA, KB, KP, KQ, KM, simprocAttr, KT w, KI, hw.KF, htm2, t0', t6', hcall]
  refine hK _ _ ?_
  clear hK
  clear K
  repeat with_reducible (first | apply E0 | apply E1 | apply E2 | apply E3 | apply E4 | refine E5 (by decide) ?_ | apply E6 | apply E7 | apply E8 | apply E9 | apply Ea | apply Eb | apply Ec | apply Ed)
  refine W_region fun K hK => ?_
  simp only [KA, KB, KP, KQ, KM, simprocAttr, KT w, KI, hw.KF, htm2, t71', ej]
  refine hK _ _ ?_
  clear hK
  clear K
  refine ⟨s.kids.length - (j + 1), by omega, _, j + 1, rfl, rfl, by omega, hR1, ?_⟩
  simp only [KA, KP, KQ, simprocAttr, KT w, KI, hw.KF, htm2, t0', t69', t70']

def KL' (S : List Sl) : Prop := ∀ (i : Nat) (s : Sl), S[i]? = some s → s.kids.length ≤ 1000000000000
theorem kl_dec {S : List Sl} (h : KL' S) (i : Nat) : KL' (decS S i) := fun j t ht => by
  rw [decS_get, Option.map_eq_some_iff] at ht
  obtain ⟨u, hu, rfl⟩ := ht
  have := h j u hu
  split <;> simpa using this
theorem kl_gone {A : Ar} (h : KL' A.slots) {i : Nat} {s : Sl} (hs : A.slots[i]? = some s) : KL' (Go.Am.R.gone A i).slots := fun j t ht => by
  simp only [Go.Am.R.gone] at ht
  by_cases e : i = j
  · subst e
    rw [List.getElem?_set_self (List.getElem?_eq_some_iff.1 hs).1] at ht; cases ht
    simp [zs]
  · rw [List.getElem?_set_ne e] at ht; exact h j t ht
theorem less_kl {A C : Ar} {r : List Nat} (h : LessL A r C) : KL' A.slots → KL' C.slots := by
  induction h with
  | nil A => exact id
  | keep hs h1 hr ih => exact fun h => ih (kl_dec h _)
  | gone hs h1 hk hr ih1 ih2 => exact fun h => ih2 (ih1 (kl_gone h hs))

/-- The kids of all slots can be made keys of. -/
def KidB (S : List Sl) : Prop := ∀ (i : Nat) (s : Sl), S[i]? = some s → Kok s.kids
theorem kb_dec {S : List Sl} (h : KidB S) (i : Nat) : KidB (decS S i) := fun j t ht => by
  rw [decS_get, Option.map_eq_some_iff] at ht
  obtain ⟨u, hu, rfl⟩ := ht
  have := h j u hu
  split <;> simpa using this
theorem kb_gone {A : Ar} (h : KidB A.slots) {i : Nat} {s : Sl} (hs : A.slots[i]? = some s) : KidB (Go.Am.R.gone A i).slots := fun j t ht => by
  simp only [Go.Am.R.gone] at ht
  by_cases e : i = j
  · subst e
    rw [List.getElem?_set_self (List.getElem?_eq_some_iff.1 hs).1] at ht; cases ht
    exact ⟨by simp [zs], fun k hk => by simp [zs] at hk⟩
  · rw [List.getElem?_set_ne e] at ht; exact h j t ht
theorem less_kb {A C : Ar} {r : List Nat} (h : LessL A r C) : KidB A.slots → KidB C.slots := by
  induction h with
  | nil A => exact id
  | keep hs h1 hr ih => exact fun h => ih (kb_dec h _)
  | gone hs h1 hk hr ih1 ih2 => exact fun h => ih2 (ih1 (kb_gone h hs))
theorem Inv.kb {A : Ar} {p q : List Nat} (h : Inv A p q) (hk : KL' A.slots) : KidB A.slots := fun i s hs => ⟨hk i s hs, fun j hj => by
  obtain ⟨s', h1, _⟩ := h.kid hs hj
  have := (List.getElem?_eq_some_iff.1 h1).1
  have := h.len
  omega⟩

/-- What a row of references less leaves. -/
theorem less_runs (hw : Std w) (hkey : w.ext 46 = some (.val keyF)) {o : Nat} {A C : Ar} {r : List Nat} (h : LessL A r C) : ∀ (c : Int), 0 ≤ c → c ≤ 1000000000000000 → RB c A.slots → KidB A.slots → ∀ S, BD o A false S → Runs w o r S (LQ o c C S) := by
  induction h with
  | nil A => intro c h0 h1 hRB hkl S hBD; exact ⟨hBD, Kq.refl hBD.facts.1, hRB⟩
  | @keep A i r C s hs h1 hr ih =>
    intro c h0 hc hRB hkl S hBD
    have hb := hRB i s hs
    obtain ⟨v, S1, hc1, hBD1, hK1⟩ := less_keep hw hs h1 (by omega) hBD
    refine ⟨v, S1, hc1, (ih c h0 hc ?_ (kb_dec hkl i) S1 hBD1).mono fun S' h => ⟨h.1, hK1.trans h.2.1, h.2.2⟩⟩
    simp only [dec_set hs]
    exact hRB.set (by simp only; omega) i
  | @gone A i r B C s hs h1 hk hr ih1 ih2 =>
    intro c h0 hc hRB hkl S hBD
    have hRBg : RB c (Go.Am.R.gone A i).slots := hRB.set (by simp only [zs]; omega) i
    obtain ⟨v, S1, hc1, hB1, hK1, hRB1⟩ := less_gone hw hkey (B := B) (c := c) hs h1 (hkl i s hs) hBD fun S hS => ih1 c h0 hc hRBg (kb_gone hkl hs) S hS
    exact ⟨v, S1, hc1, (ih2 c h0 hc hRB1 (less_kb hk (kb_gone hkl hs)) S1 hB1).mono fun S' h => ⟨h.1, hK1.trans h.2.1, h.2.2⟩⟩
end Go.Am.R
