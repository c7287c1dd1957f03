/- THE REFERENCE'S ARENA: its rows; slots that may be changed; a reference more. -/
import Derived.Test.YtbmfnoaogebjfaaDoorV2
set_option linter.unusedSimpArgs false
set_option linter.unusedVariables false
set_option maxRecDepth 20000
namespace Go.Am.R
open Go.Proofs Go.IntWalk Classical

variable {w : Ways}

/-- How the reference's functions append. -/
structure StdR (w : Ways) : Prop where
  mu13 : ∀ r, w.muts 13 r = true
  mu35 : ∀ r, w.muts 35 r = true
  mu34a : w.muts 34 25 = true
  mu34b : w.muts 34 9 = false

/-! ### Rows -/
def slD (s : Sl) (c6 c7 : AV) : List AV := [.str s.fs.kind, .bool s.fs.named, .str s.fs.field, .int .i64 s.fs.frm, .int .i64 s.fs.to, .int .i64 s.fs.bad, c6, c7, .int .i64 s.refs, .int .i64 (optI s.next)]
def SrRow (s : Sl) (row : List AV) : Prop := ∃ c6 c7, row = slD s c6 c7 ∧ IsE c6 ∧ IsK c7 s.kids
def SrRows (S : List Sl) (R : Rows) : Prop := R.length = S.length ∧ ∀ (i : Nat) (s : Sl), S[i]? = some s → ∃ row, R[i]? = some row ∧ SrRow s row
theorem SrRow.len {s : Sl} {row : List AV} (h : SrRow s row) : row.length = 10 := by
  obtain ⟨c6, c7, rfl, _⟩ := h; rfl
theorem SrRow.sl {s : Sl} {row : List AV} (h : SrRow s row) (h0 : 0 ≤ s.refs) : SlRow s row := by
  obtain ⟨c6, c7, rfl, h6, h7⟩ := h
  exact ⟨c6, c7, by simp only [slD, slC, show max s.refs 0 = s.refs by omega], h6, h7⟩
theorem SrRow.can {s : Sl} (h0 : 0 ≤ s.refs) : SrRow s (slCan s) := ⟨_, _, by simp only [slCan, slC, slD, show max s.refs 0 = s.refs by omega], .inr rfl, .inl rfl⟩
theorem SrRows.set {S : List Sl} {R : Rows} (h : SrRows S R) {s : Sl} {row : List AV} (hr : SrRow s row) (i : Nat) : SrRows (S.set i s) (R.set i row) := by
  refine ⟨by simp [h.1], fun j t ht => ?_⟩
  by_cases e : i = j
  · subst e
    have hl := (List.getElem?_eq_some_iff.1 ht).1
    rw [List.length_set] at hl
    rw [List.getElem?_set_self hl] at ht; cases ht
    exact ⟨row, List.getElem?_set_self (by rw [h.1]; exact hl), hr⟩
  · rw [List.getElem?_set_ne e] at ht ⊢
    exact h.2 j t ht
theorem SrRows.snoc {S : List Sl} {R : Rows} (h : SrRows S R) {s : Sl} {row : List AV} (hr : SrRow s row) : SrRows (S ++ [s]) (R ++ [row]) := by
  refine ⟨by simp [h.1], fun j t ht => ?_⟩
  by_cases hj : j < S.length
  · rw [List.getElem?_append_left hj] at ht
    rw [List.getElem?_append_left (by rw [h.1]; exact hj)]
    exact h.2 j t ht
  · have hl := (List.getElem?_eq_some_iff.1 ht).1
    rw [List.length_append, List.length_singleton] at hl
    have e : j = S.length := by omega
    subst e
    simp at ht
    subst ht
    rw [← h.1]
    exact ⟨row, by simp, hr⟩
theorem SrRows.hd {S : List Sl} {R : Rows} (h : SrRows S R) : headOk 10 R = true := by
  cases R with
  | nil => rfl
  | cons r R =>
    cases S with
    | nil => simpa using h.1
    | cons s S =>
      obtain ⟨row, h1, h2⟩ := h.2 0 s rfl
      simp at h1; subst h1
      simp [headOk, h2.len]
theorem SrRows.sl : ∀ {S : List Sl} {R : Rows}, SrRows S R → (∀ s ∈ S, 0 ≤ s.refs) → SlRows S R
  | [], R, h, _ => by
    have := h.1
    rw [List.length_nil, List.length_eq_zero_iff] at this
    subst this; exact .nil
  | s :: S, [], h, _ => by simpa using h.1
  | s :: S, r :: R, h, h0 => by
    obtain ⟨row, h1, h2⟩ := h.2 0 s rfl
    simp at h1; subst h1
    refine .cons (h2.sl (h0 s (by simp))) (SrRows.sl ⟨by simpa using h.1, fun i t ht => ?_⟩ fun t ht => h0 t (by simp [ht]))
    have := h.2 (i + 1) t (by simpa using ht)
    simpa using this
theorem SrRows.can {S : List Sl} (h0 : ∀ s ∈ S, 0 ≤ s.refs) : SrRows S (S.map slCan) :=
  ⟨by simp, fun i s hs => ⟨slCan s, by rw [List.getElem?_map, hs]; rfl, .can (h0 s (List.mem_of_getElem? hs))⟩⟩

/-- An arena whose slots may be changed. -/
structure Rd (sv rv : AV) (R : Rows) (A : Ar) (S : St) : Prop where
  ok : S.ok
  base : S.base = 0
  sv : MV 10 sv R S
  rows : SrRows A.slots R
  rv : MV 1 rv (rs A.roots) S
/-- What is no row of rows stays. -/
structure Kr (S S' : St) : Prop where
  ok : S'.ok
  base : S'.base = S.base
  n : S.n ≤ S'.n
  get : ∀ q x, q < S.n → (∀ g es rows e, x ≠ AObj.seq g es rows e) → S.get q = some x → S'.get q = some x
theorem Kr.refl {S : St} (h : S.ok) : Kr S S := ⟨h, rfl, Nat.le_refl _, fun _ _ _ _ h => h⟩
theorem Kr.trans {A B C : St} (h : Kr A B) (k : Kr B C) : Kr A C :=
  ⟨k.ok, k.base.trans h.base, Nat.le_trans h.n k.n, fun q x hq hx hg => k.get q x (Nat.lt_of_lt_of_le hq h.n) hx (h.get q x hq hx hg)⟩
theorem Kr.push {S S' : St} (h : Kr S S') (a : AObj) : Kr S (S'.push a) :=
  ⟨St.ok_push h.ok, by rw [St.pushB]; exact h.base, by rw [St.pushN]; have := h.n; omega, fun q x hq hx hg => by rw [St.get_pushn (by have := h.n; omega)]; exact h.get q x hq hx hg⟩
theorem Kr.set {S S' : St} (h : Kr S S') {o : Nat} (ho : S.n ≤ o) (hn : o < S'.n) (a : AObj) : Kr S (S'.set o a) :=
  ⟨St.ok_set h.ok, by rw [St.setB]; exact h.base, by rw [St.setN]; exact h.n, fun q x hq hx hg => by rw [St.get_setn hn (by omega)]; exact h.get q x hq hx hg⟩
theorem Kr.seq {S S' : St} (h : Kr S S') {q g es : Nat} {rows : Rows} {e : Nat} (hq : q < S'.n) (hg : S'.get q = some (.seq g es rows e)) (a : AObj) : Kr S (S'.set q a) :=
  ⟨St.ok_set h.ok, by rw [St.setB]; exact h.base, by rw [St.setN]; exact h.n, fun i x hi hx hgi => by
    have h1 := h.get i x hi hx hgi
    by_cases e1 : i = q
    · subst e1; rw [hg] at h1; cases h1; exact absurd rfl (hx _ _ _ _)
    · rw [St.get_setn hq e1]; exact h1⟩
theorem Rd.keep {sv rv : AV} {R : Rows} {A : Ar} {S S' : St} (h : Rd sv rv R A S) (ok : S'.ok) (hb : S'.base = 0) (hn : S.n ≤ S'.n) (hg : ∀ q g es rows e, q < S.n → S.get q = some (.seq g es rows e) → S'.get q = some (.seq g es rows e)) : Rd sv rv R A S' :=
  ⟨ok, hb, h.sv.kp hn (fun q g rows e hq hx => hg _ _ _ _ _ hq hx), h.rows, h.rv.kp hn (fun q g rows e hq hx => hg _ _ _ _ _ hq hx)⟩
theorem Rd.push {sv rv : AV} {R : Rows} {A : Ar} {S : St} (h : Rd sv rv R A S) (a : AObj) : Rd sv rv R A (S.push a) :=
  h.keep (St.ok_push h.ok) (by rw [St.pushB]; exact h.base) (by rw [St.pushN]; omega) fun q g es rows e hq hx => by rw [St.get_pushn (by omega)]; exact hx
theorem Rd.setRow {sv rv : AV} {R : Rows} {A : Ar} {S : St} (h : Rd sv rv R A S) {q : Nat} {c : List AV} {lk : Bool} (hq : q < S.n) (hx : S.get q = some (.row c lk)) (a : AObj) : Rd sv rv R A (S.set q a) :=
  h.keep (St.ok_set h.ok) (by rw [St.setB]; exact h.base) (by rw [St.setN]; omega) fun i g es rows e hi hg => by
    rw [St.get_setn hq (fun e1 => by rw [e1, hx] at hg; cases hg)]; exact hg
/-- A slot is written. -/
theorem Rd.put {so sg n : Nat} {rv : AV} {R : Rows} {A : Ar} {S : St} (h : Rd (.sref so sg 0 n) rv R A S) (hso : so < S.n) (hsg : S.get so = some (.seq sg 10 R 0)) {x : Nat} {s' : Sl} {row' : List AV} (hr : SrRow s' row') :
    Rd (.sref so sg 0 n) rv (R.set x row') ⟨A.slots.set x s', A.free, A.roots⟩ (S.set so (.seq sg 10 (R.set x row') 0)) := by
  refine ⟨St.ok_set h.ok, by rw [St.setB]; exact h.base, ?_, h.rows.set hr x, ?_⟩
  · rcases h.sv with ⟨_, h2 | h2⟩ | ⟨o', g', e1, _, _⟩
    · cases h2
    · cases h2
    · cases e1
      exact .inr ⟨so, sg, by rw [List.length_set], by rw [St.setN]; exact hso, St.get_sete h.ok hso⟩
  · refine h.rv.kp (by rw [St.setN]; omega) fun q g rows e hq hg => ?_
    rw [St.get_setn hso (fun e1 => by rw [e1, hsg] at hg; cases hg)]; exact hg
/-- Rows that a new slice has. -/
theorem app_nils {es bytes : Nat} {R : Rows} {S : St} (hok : S.ok) (hb : S.base = 0) (hh : headOk es R = true) (hc : capOk R.length bytes = true) :
    ∃ v' S', aappend es bytes true .nils R S = some (v', S') ∧ MV es v' R S' ∧ S'.ok ∧ S'.base = 0 ∧ S.n ≤ S'.n ∧ leafC v' = true ∧ v'.cells = [v'] ∧ (∀ q x, q < S.n → S.get q = some x → S'.get q = some x) := by
  cases R with
  | nil => exact ⟨.nils, S, rfl, .inl ⟨rfl, .inr rfl⟩, hok, hb, Nat.le_refl _, rfl, rfl, fun q x _ h => h⟩
  | cons r R =>
    refine ⟨.sref S.n 0 0 (R.length + 1), S.push (.seq 0 es (r :: R) 0), ?_, .inr ⟨S.n, 0, by simp, by rw [St.pushN]; omega, St.get_pushe⟩, St.ok_push hok, by rw [St.pushB]; exact hb, by rw [St.pushN]; omega, rfl, rfl, fun q x hq hx => by rw [St.get_pushn (by omega)]; exact hx⟩
    unfold aappend
    rw [hh, if_neg (by simp)]
    simp only
    rw [if_pos hc]
    rfl
theorem MV.leaf {es : Nat} {v : AV} {R : Rows} {S : St} (h : MV es v R S) : leafC v = true ∧ v.cells = [v] := by
  rcases h with ⟨_, rfl | rfl⟩ | ⟨_, _, rfl, _⟩ <;> exact ⟨rfl, rfl⟩

/-! ### holds -/
theorem PC.of_nrm {f : FuncId} {args args' : List AV} {v : AV} (he : w.ext f = none) (hm : w.mode f = .pure) (h : PC (cfg w) f args' v) (hn : nrmA args = some args') (hn' : nrmA args' = some args') : PC (cfg w) f args v := fun S => by
  have := h S
  have he' : (cfg w).ext f = none := he
  have hm' : (cfg w).mode f = .pure := hm
  simp only [callF, he', callM, hm', frzLA_of_nrmA S hn'] at this
  simp only [callF, he', callM, hm', frzLA_of_nrmA S hn]
  exact this
def Sl.r (s : Sl) : RSl := ⟨s.fs.nd, s.kids.map fun k : Nat => (k : Int), s.refs, optI s.next⟩
theorem Sl.r_row (s : Sl) : s.r.row = slD s (.vec []) (.vec (ks s.kids)) := by
  simp [RSl.row, Sl.r, Fs.nd, Node.cells_eq, Node.kind, Node.named, Node.field, Node.frm, Node.to, Node.bad, Node.kids, Node.rows, Node.cellsL, slD, ints, ks]
theorem SrRow.nrm {s : Sl} {row : List AV} (h : SrRow s row) : nrmL row = some s.r.row := by
  obtain ⟨c6, c7, rfl, h6, h7⟩ := h
  rw [Sl.r_row]
  simp [slD, nrmL, Am.nrm, h6.nrm, h7.nrm]
theorem Sl.r_inj {s s' : Sl} : (s.r.node = s'.r.node ∧ s.r.kids = s'.r.kids) ↔ s.key = s'.key := by
  obtain ⟨⟨a, b, c, d, e, f⟩, K, r, n⟩ := s
  obtain ⟨⟨a', b', c', d', e', f'⟩, K', r', n'⟩ := s'
  simp only [Sl.r, Fs.nd, Sl.key, Node.mk.injEq, Prod.mk.injEq, Fs.mk.injEq, and_true]
  refine and_congr ⟨fun h => h, fun h => h⟩ ⟨fun h => ?_, fun h => by rw [h]⟩
  have := congrArg (List.map Int.toNat) h
  simpa [List.map_map, Function.comp_def] using this
theorem holdsR (hw : Std w) {s s' : Sl} {row row' : List AV} (h : SrRow s row) (h' : SrRow s' row') (hl : s.kids.length ≤ 35184372088832) (hl' : s'.kids.length ≤ 35184372088832) : PC (cfg w) 42 [.agg row, .agg row'] (.bool (decide (s.key = s'.key))) := by
  have := holds42r hw s.r s'.r (by simpa [Sl.r] using hl) (by simpa [Sl.r] using hl') rfl rfl
  rw [show decide (s.key = s'.key) = decide (s.r.node = s'.r.node ∧ s.r.kids = s'.r.kids) by rw [decide_eq_decide]; exact Sl.r_inj.symm]
  refine PC.of_nrm hw.e42 hw.m42 this ?_ ?_
  · simp [nrmA, Am.nrm, h.nrm, h'.nrm]
  · simp [nrmA, Am.nrm, RSl.row_nrm]

set_option maxHeartbeats 2000000 in
theorem own35 (hw : Std w) (hr : StdR w) (A : Ar) (hz : ∀ s ∈ A.slots, 0 ≤ s.refs) (hsl : A.slots.length ≤ 1000000000) (hrl : A.roots.length ≤ 1000000000) (S : St) (hok : S.ok) (hb : S.base = 0) :
    CallQ (cfg w) 35 [arV A] S fun v S' => Kr S S' ∧ ∃ sv rv R, v = .agg [sv, .int .i64 (optI A.free), rv] ∧ Rd sv rv R A S' := by
  have hrows := SrRows.can hz
  have hlen : (A.slots.map slCan).length = A.slots.length := List.length_map _
  have hrn := rs_len A.roots
  unfold arV arC
  generalize A.slots.map slCan = R at *
  obtain ⟨N, hN⟩ : ∃ N, S.n = N := ⟨_, rfl⟩
  refine call_of_W (fn35 w) rfl ?_
  simp only [Tryd.f35, List.length_cons, List.length_nil, Nat.reduceAdd, Nat.reduceSub, List.cons_append, List.nil_append]
  repeat with_reducible (first | apply E0 | apply E1 | apply E2 | apply E3 | apply E4 | refine E5 (by decide) ?_ | apply E6 | apply E7 | apply E8 | apply E9 | apply Ea | apply Eb | apply Ec | apply Ed)
  refine W_region fun K hK => ?_
  simp only [KA, KB, KP, KQ, KM, simprocAttr, KT w, KI, hw.KF, hok, hb, splice, A3p]
  refine hK _ _ ?_
  clear hK
  clear K
  repeat with_reducible (first | apply E0 | apply E1 | apply E2 | apply E3 | apply E4 | refine E5 (by decide) ?_ | apply E6 | apply E7 | apply E8 | apply E9 | apply Ea | apply Eb | apply Ec | apply Ed)
  refine W_region fun K hK => ?_
  simp only [KA, KB, KP, KQ, KM, simprocAttr, KT w, KI, hw.KF]
  refine hK _ _ ?_
  clear hK
  clear K
  repeat with_reducible (first | apply E0 | apply E1 | apply E2 | apply E3 | apply E4 | refine E5 (by decide) ?_ | apply E6 | apply E7 | apply E8 | apply E9 | apply Ea | apply Eb | apply Ec | apply Ed)
  refine W_region fun K hK => ?_
  simp only [KA, KB, KP, KQ, KM, simprocAttr, KT w, KI, hw.KF]
  refine hK _ _ ?_
  clear hK
  clear K
  repeat with_reducible (first | apply E0 | apply E1 | apply E2 | apply E3 | apply E4 | refine E5 (by decide) ?_ | apply E6 | apply E7 | apply E8 | apply E9 | apply Ea | apply Eb | apply Ec | apply Ed)
  have k0 := (Kr.refl hok).push (.row [.vec R, .int .i64 (optI A.free), .vec (rs A.roots)] false) |>.push (.row [.nils, .int .i64 0, .nils] false)
  have g0 : ((S.push (.row [.vec R, .int .i64 (optI A.free), .vec (rs A.roots)] false)).push (.row [.nils, .int .i64 0, .nils] false)).get N = some (.row [.vec R, .int .i64 (optI A.free), .vec (rs A.roots)] false) := by
    rw [St.get_pushn (by rw [St.pushN]; omega), St.get_pushq hN.symm]
  have g1 : ((S.push (.row [.vec R, .int .i64 (optI A.free), .vec (rs A.roots)] false)).push (.row [.nils, .int .i64 0, .nils] false)).get (N + 1) = some (.row [.nils, .int .i64 0, .nils] false) := by
    rw [St.get_pushq (by rw [St.pushN]; omega)]
  have n0 : ((S.push (.row [.vec R, .int .i64 (optI A.free), .vec (rs A.roots)] false)).push (.row [.nils, .int .i64 0, .nils] false)).n = N + 2 := by simp only [St.pushN]; omega
  rw [hN]
  generalize (S.push (.row [.vec R, .int .i64 (optI A.free), .vec (rs A.roots)] false)).push (.row [.nils, .int .i64 0, .nils] false) = S0 at *
  have ok0 := k0.ok
  have b0 : S0.base = 0 := by rw [k0.base]; exact hb
  have m3 := hr.mu35 3
  have m4 := hr.mu35 4
  obtain ⟨sv, S1, ha, hmv, ok1, b1, n1, lf1, cl1, fr1⟩ := app_nils (es := 10) (bytes := 128) ok0 b0 hrows.hd (by simp only [capOk, hlen]; simp; omega)
  have g0' := fr1 _ _ (by omega) g0
  have g1' := fr1 _ _ (by omega) g1
  have nN : N < S1.n := by omega
  refine W_region fun K hK => ?_
  simp only [KA, KB, KP, KQ, KM, simprocAttr, KT w, KI, hw.KF, g0, m3, ha, g0', ok1, b1, nN, lf1, cl1, splice]
  refine hK _ _ ?_
  clear hK
  clear K
  repeat with_reducible (first | apply E0 | apply E1 | apply E2 | apply E3 | apply E4 | refine E5 (by decide) ?_ | apply E6 | apply E7 | apply E8 | apply E9 | apply Ea | apply Eb | apply Ec | apply Ed)
  have k1 : Kr S S1 := ⟨ok1, by rw [b1, hb], by omega, fun q x hq hx hg => fr1 q x (by omega) (k0.get q x hq hx hg)⟩
  have k2 := k1.set (o := N) (by omega) nN (.row [sv, .int .i64 (optI A.free), .vec (rs A.roots)] false)
  have hmv2 : MV 10 sv R (S1.set N (.row [sv, .int .i64 (optI A.free), .vec (rs A.roots)] false)) := hmv.kp (by rw [St.setN]; omega) fun q g rows e hq hg => by
    rw [St.get_setn nN (fun e => by rw [e, g0'] at hg; cases hg)]; exact hg
  have g2 : (S1.set N (.row [sv, .int .i64 (optI A.free), .vec (rs A.roots)] false)).get N = _ := St.get_sete ok1 nN
  have g2b : (S1.set N (.row [sv, .int .i64 (optI A.free), .vec (rs A.roots)] false)).get (N + 1) = _ := (St.get_setn nN (by omega)).trans g1'
  have n2 : (S1.set N (.row [sv, .int .i64 (optI A.free), .vec (rs A.roots)] false)).n = S1.n := St.setN _ _ _
  generalize S1.set N (.row [sv, .int .i64 (optI A.free), .vec (rs A.roots)] false) = S2 at *
  have ok2 := k2.ok
  have b2 : S2.base = 0 := by rw [k2.base]; exact hb
  obtain ⟨rv, S3, ha3, hmv3, ok3, b3, n3, lf3, cl3, fr3⟩ := app_nils (es := 1) (bytes := 8) (R := rs A.roots) ok2 b2 (by cases A.roots <;> rfl) (by simp only [capOk, hrn]; simp; omega)
  have g3 := fr3 _ _ (by omega) g2
  have g3b := fr3 _ _ (by omega) g2b
  have nN3 : N < S3.n := by omega
  have nN3b : N + 1 < S3.n := by omega
  refine W_region fun K hK => ?_
  simp only [KA, KB, KP, KQ, KM, simprocAttr, KT w, KI, hw.KF, g2, m4, ha3, g3, ok3, b3, nN3, lf3, cl3, splice]
  refine hK _ _ ?_
  clear hK
  clear K
  repeat with_reducible (first | apply E0 | apply E1 | apply E2 | apply E3 | apply E4 | refine E5 (by decide) ?_ | apply E6 | apply E7 | apply E8 | apply E9 | apply Ea | apply Eb | apply Ec | apply Ed)
  have k3 : Kr S S3 := ⟨ok3, by rw [b3, hb], by omega, fun q x hq hx hg => fr3 q x (by omega) (k2.get q x hq hx hg)⟩
  have k4 := k3.set (o := N) (by omega) nN3 (.row [sv, .int .i64 (optI A.free), rv] false)
  have hs3 : MV 10 sv R S3 := hmv2.kp (by omega) fun q g rows e hq hg => fr3 _ _ hq hg
  have keep : ∀ q g es rows e, S3.get q = some (.seq g es rows e) → (S3.set N (.row [sv, .int .i64 (optI A.free), rv] false)).get q = some (.seq g es rows e) := fun q g es rows e hg => by
    rw [St.get_setn nN3 (fun e => by rw [e, g3] at hg; cases hg)]; exact hg
  have hs4 : MV 10 sv R (S3.set N (.row [sv, .int .i64 (optI A.free), rv] false)) := hs3.kp (by rw [St.setN]; omega) fun q g rows e _ hg => keep _ _ _ _ _ hg
  have hr4 : MV 1 rv (rs A.roots) (S3.set N (.row [sv, .int .i64 (optI A.free), rv] false)) := hmv3.kp (by rw [St.setN]; omega) fun q g rows e _ hg => keep _ _ _ _ _ hg
  have g4 : (S3.set N (.row [sv, .int .i64 (optI A.free), rv] false)).get N = _ := St.get_sete ok3 nN3
  have g4b : (S3.set N (.row [sv, .int .i64 (optI A.free), rv] false)).get (N + 1) = _ := (St.get_setn nN3 (by omega)).trans g3b
  have n4 : (S3.set N (.row [sv, .int .i64 (optI A.free), rv] false)).n = S3.n := St.setN _ _ _
  generalize S3.set N (.row [sv, .int .i64 (optI A.free), rv] false) = S4 at *
  have ok4 := k4.ok
  have b4 : S4.base = 0 := by rw [k4.base]; exact hb
  have nN4b : N + 1 < S4.n := by omega
  have hrd : Rd sv rv R A S4 := ⟨ok4, b4, hs4, hrows, hr4⟩
  have gZ : ∀ X, (S4.set (N + 1) X).get (N + 1) = some X := fun X => St.get_sete ok4 nN4b
  refine W_region fun K hK => ?_
  simp only [KA, KB, KP, KQ, KM, simprocAttr, KT w, KI, hw.KF, g4, g4b, ok4, b4, nN4b, splice]
  refine hK _ _ ?_
  clear hK
  clear K
  repeat with_reducible (first | apply E0 | apply E1 | apply E2 | apply E3 | apply E4 | refine E5 (by decide) ?_ | apply E6 | apply E7 | apply E8 | apply E9 | apply Ea | apply Eb | apply Ec | apply Ed)
  refine AtEnd_of rfl ?_
  simp only [KA, KP, KQ, simprocAttr, KT w, KI, hw.KF, gZ, RS_some, aresults_nil, aresults_tmp, aresults_cell, one]
  exact ⟨k4.set (by omega) nN4b _, sv, rv, R, rfl, hrd.setRow nN4b g4b _⟩

set_option maxHeartbeats 2000000 in
theorem refer36 (hw : Std w) {sv rv : AV} {R : Rows} {A : Ar} {S : St} (h : Rd sv rv R A S) {i : Nat} {s : Sl} (hs : A.slots[i]? = some s) (h0 : -1 ≤ s.refs) (h1 : s.refs ≤ 1000000000000000) :
    CallQ (cfg w) 36 [.agg [sv, .int .i64 (optI A.free), rv], .int .i64 (i : Nat)] S fun v S' => v = .agg [sv, .int .i64 (optI A.free), rv] ∧ Kr S S' ∧ ∃ R', Rd sv rv R' ⟨refS A.slots i, A.free, A.roots⟩ S' := by
  obtain ⟨N, hN⟩ : ∃ N, S.n = N := ⟨_, rfl⟩
  have hok := h.ok
  have hb := h.base
  obtain ⟨xrow, hxrow, hxr⟩ := h.rows.2 i s hs
  obtain ⟨c6, c7, rfl, hc6, hc7⟩ := hxr
  rcases h.sv with ⟨hR0, -⟩ | ⟨so, sg, rfl, hso, hsg⟩
  · rw [hR0] at hxrow; simp at hxrow
  have hx1 : (i : Int) < (R.length : Int) := by have := (List.getElem?_eq_some_iff.1 hxrow).1; omega
  have hx0 : (0 : Int) ≤ (i : Int) := by omega
  have ew : IntKind.i64.wrap (max s.refs 0 + 1) = max s.refs 0 + 1 := i64_in _ (by omega)
  refine call_of_W (fn36 w) rfl ?_
  simp only [Tryd.f36, List.length_cons, List.length_nil, Nat.reduceAdd, Nat.reduceSub, List.cons_append, List.nil_append]
  repeat with_reducible (first | apply E0 | apply E1 | apply E2 | apply E3 | apply E4 | refine E5 (by decide) ?_ | apply E6 | apply E7 | apply E8 | apply E9 | apply Ea | apply Eb | apply Ec | apply Ed)
  refine W_region fun K hK => ?_
  simp only [KA, KB, KP, KQ, KM, simprocAttr, KT w, KI, hw.KF, hok, hb, splice, A3p]
  refine hK _ _ ?_
  clear hK
  clear K
  repeat with_reducible (first | apply E0 | apply E1 | apply E2 | apply E3 | apply E4 | refine E5 (by decide) ?_ | apply E6 | apply E7 | apply E8 | apply E9 | apply Ea | apply Eb | apply Ec | apply Ed)
  have hrd := (h.push (.row [.sref so sg 0 R.length, .int .i64 (optI A.free), rv] false)).push (.row [.nils, .int .i64 0, .nils] false)
  have k0 := (Kr.refl hok).push (.row [.sref so sg 0 R.length, .int .i64 (optI A.free), rv] false) |>.push (.row [.nils, .int .i64 0, .nils] false)
  have g0 : ((S.push (.row [.sref so sg 0 R.length, .int .i64 (optI A.free), rv] false)).push (.row [.nils, .int .i64 0, .nils] false)).get N = some (.row [.sref so sg 0 R.length, .int .i64 (optI A.free), rv] false) := by
    rw [St.get_pushn (by rw [St.pushN]; omega), St.get_pushq hN.symm]
  have g1 : ((S.push (.row [.sref so sg 0 R.length, .int .i64 (optI A.free), rv] false)).push (.row [.nils, .int .i64 0, .nils] false)).get (N + 1) = some (.row [.nils, .int .i64 0, .nils] false) := by
    rw [St.get_pushq (by rw [St.pushN]; omega)]
  have gs : ((S.push (.row [.sref so sg 0 R.length, .int .i64 (optI A.free), rv] false)).push (.row [.nils, .int .i64 0, .nils] false)).get so = some (.seq sg 10 R 0) := by
    rw [St.get_pushn (by rw [St.pushN]; omega), St.get_pushn (by omega)]; exact hsg
  have n0 : ((S.push (.row [.sref so sg 0 R.length, .int .i64 (optI A.free), rv] false)).push (.row [.nils, .int .i64 0, .nils] false)).n = N + 2 := by simp only [St.pushN]; omega
  rw [hN]
  generalize (S.push (.row [.sref so sg 0 R.length, .int .i64 (optI A.free), rv] false)).push (.row [.nils, .int .i64 0, .nils] false) = S0 at *
  have ok0 := hrd.ok
  have b0 := hrd.base
  have hso0 : so < S0.n := by omega
  have P := hrd.put hso0 gs (x := i) (s' := { s with refs := max s.refs 0 + 1 }) (row' := [.str s.fs.kind, .bool s.fs.named, .str s.fs.field, .int .i64 s.fs.frm, .int .i64 s.fs.to, .int .i64 s.fs.bad, c6, c7, .int .i64 (max s.refs 0 + 1), .int .i64 (optI s.next)]) ⟨c6, c7, rfl, hc6, hc7⟩
  rw [← ref_set hs] at P
  have k1 := k0.seq hso0 gs (.seq sg 10 (R.set i [.str s.fs.kind, .bool s.fs.named, .str s.fs.field, .int .i64 s.fs.frm, .int .i64 s.fs.to, .int .i64 s.fs.bad, c6, c7, .int .i64 (max s.refs 0 + 1), .int .i64 (optI s.next)]) 0)
  have hmx : amax [.int .i64 s.refs, .int .i64 0] = some (.int .i64 (max s.refs 0)) := by
    simp only [amax, if_true]; congr 2; split <;> omega
  have q0 : ∀ X, (S0.set so X).get N = _ := fun X => (St.get_setn hso0 (fun e => by rw [e, gs] at g0; cases g0)).trans g0
  have q1 : ∀ X, (S0.set so X).get (N + 1) = _ := fun X => (St.get_setn hso0 (fun e => by rw [e, gs] at g1; cases g1)).trans g1
  refine W_regionD [[], [0], [], [], [3], [], [4, 3, 5], [6, 4, 3, 5], [7, 6, 4, 3, 5], [8, 7, 6, 4, 3, 5], [9, 8, 7, 6, 4, 3, 5], [1, 0, 2, 3, 4, 5, 6, 7, 8, 9, 10], [11, 1, 0, 2, 3, 4, 5, 6, 7, 8, 9, 10], [12, 11, 1, 0, 2, 3, 4, 5, 6, 7, 8, 9, 10]] (by decide +kernel) (by decide +kernel) (by decide +kernel) fun K hK => ?_
  simp only [KA, KB, KP, KQ, KM, simprocAttr, KT w, KI, hw.KF, A58, A59, A5a, A5b, A5c, A5d, A5e, A5f, A5g, A5h, KX, Foot.big, A5i, opP, rfoot, refsO, refs, wfoot, A5j, A5k, noisyOk, pairOk, Foot.isQuiet, Foot.apart, Ft.apart, Foot.none, A5l, A5m, A48, A49, A5n, A5o, A5p, A5q, Nat.reduceBEq, g0, gs, hso0, hx0, hx1, hxrow, slD, hmx, ew, ok0, b0, splice]
  refine hK _ _ ?_
  clear hK
  clear K
  repeat with_reducible (first | apply E0 | apply E1 | apply E2 | apply E3 | apply E4 | refine E5 (by decide) ?_ | apply E6 | apply E7 | apply E8 | apply E9 | apply Ea | apply Eb | apply Ec | apply Ed)
  have p0 := q0 (.seq sg 10 (R.set i [.str s.fs.kind, .bool s.fs.named, .str s.fs.field, .int .i64 s.fs.frm, .int .i64 s.fs.to, .int .i64 s.fs.bad, c6, c7, .int .i64 (max s.refs 0 + 1), .int .i64 (optI s.next)]) 0)
  have p1 := q1 (.seq sg 10 (R.set i [.str s.fs.kind, .bool s.fs.named, .str s.fs.field, .int .i64 s.fs.frm, .int .i64 s.fs.to, .int .i64 s.fs.bad, c6, c7, .int .i64 (max s.refs 0 + 1), .int .i64 (optI s.next)]) 0)
  have n1 := k1.n
  have n1' : (S0.set so (.seq sg 10 (R.set i [.str s.fs.kind, .bool s.fs.named, .str s.fs.field, .int .i64 s.fs.frm, .int .i64 s.fs.to, .int .i64 s.fs.bad, c6, c7, .int .i64 (max s.refs 0 + 1), .int .i64 (optI s.next)]) 0)).n = S0.n := St.setN _ _ _
  clear q0 q1
  generalize S0.set so (.seq sg 10 (R.set i [.str s.fs.kind, .bool s.fs.named, .str s.fs.field, .int .i64 s.fs.frm, .int .i64 s.fs.to, .int .i64 s.fs.bad, c6, c7, .int .i64 (max s.refs 0 + 1), .int .i64 (optI s.next)]) 0) = S1 at *
  have ok1 := P.ok
  have b1 := P.base
  have nN1 : N + 1 < S1.n := by omega
  have gZ : ∀ X, (S1.set (N + 1) X).get (N + 1) = some X := fun X => St.get_sete ok1 nN1
  refine W_region fun K hK => ?_
  simp only [KA, KB, KP, KQ, KM, simprocAttr, KT w, KI, hw.KF, p0, p1, ok1, b1, nN1, splice]
  refine hK _ _ ?_
  clear hK
  clear K
  repeat with_reducible (first | apply E0 | apply E1 | apply E2 | apply E3 | apply E4 | refine E5 (by decide) ?_ | apply E6 | apply E7 | apply E8 | apply E9 | apply Ea | apply Eb | apply Ec | apply Ed)
  refine AtEnd_of rfl ?_
  simp only [KA, KP, KQ, simprocAttr, KT w, KI, hw.KF, gZ, RS_some, aresults_nil, aresults_tmp, aresults_cell, one]
  exact ⟨k1.set (by omega) nN1 _, _, P.setRow nN1 p1 _⟩
end Go.Am.R
