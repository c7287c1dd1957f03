/- THE REFERENCE: a reference less, walked. -/
import Derived.Test.YtbmfnoaogebjfaaDoorW1
set_option linter.unusedSimpArgs false
set_option linter.unusedVariables false
set_option maxRecDepth 20000
namespace Go.Am.R
open Go.Proofs Go.IntWalk

variable {w : Ways}

/-- A reference less makes B of A. -/
def LessOk (w : Ways) (i : Nat) (A B : Ar) : Prop := ∀ (sv rv : AV) (R : Rows) (S : St), Rd sv rv R A S →
  CallQ (cfg w) 40 [.agg [sv, .int .i64 (optI A.free), rv], .int .i64 (i : Nat)] S fun v S' => Kr S S' ∧ ∃ sv' rv' R', v = .agg [sv', .int .i64 (optI B.free), rv'] ∧ Rd sv' rv' R' B S'
def RunQ (w : Ways) : List Nat → Ar → Ar → Prop
  | [], A, C => A = C
  | i :: r, A, C => ∃ B, LessOk w i A B ∧ RunQ w r B C

set_option maxHeartbeats 4000000 in
theorem lessR_keep (hw : Std w) {i : Nat} {A : Ar} {s : Sl} (hs : A.slots[i]? = some s) (h1 : 1 < s.refs) (h2 : s.refs ≤ 1000000000000000) : LessOk w i A { A with slots := decS A.slots i } := by
  intro sv rv R S h
  obtain ⟨N, hN⟩ : ∃ N, S.n = N := ⟨_, rfl⟩
  have hok := h.ok
  have hb := h.base
  obtain ⟨xrow, hxrow, hxr⟩ := h.rows.2 i s hs
  obtain ⟨c6, c7, rfl, hc6, hc7⟩ := hxr
  rcases h.sv with ⟨hR0, -⟩ | ⟨so, sg, rfl, hso, hsg⟩
  · rw [hR0] at hxrow; simp at hxrow
  have hx1 : (i : Int) < (R.length : Int) := by have := (List.getElem?_eq_some_iff.1 hxrow).1; omega
  have hx0 : (0 : Int) ≤ (i : Int) := by omega
  have ew : IntKind.i64.wrap (s.refs - 1) = s.refs - 1 := i64_in _ (by omega)
  have hge : 0 < s.refs - 1 := by omega
  refine call_of_W (fn40 w) rfl ?_
  simp only [Tryd.f40, List.length_cons, List.length_nil, Nat.reduceAdd, Nat.reduceSub, List.cons_append, List.nil_append]
  repeat with_reducible (first | apply E0 | apply E1 | apply E2 | apply E3 | apply E4 | refine E5 (by decide) ?_ | apply E6 | apply E7 | apply E8 | apply E9 | apply Ea | apply Eb | apply Ec | apply Ed)
  refine W_region fun K hK => ?_
  simp only [KA, KB, KP, KQ, KM, simprocAttr, KT w, KI, hw.KF, hok, hb, splice, A3p]
  refine hK _ _ ?_
  clear hK
  clear K
  repeat with_reducible (first | apply E0 | apply E1 | apply E2 | apply E3 | apply E4 | refine E5 (by decide) ?_ | apply E6 | apply E7 | apply E8 | apply E9 | apply Ea | apply Eb | apply Ec | apply Ed)
  have hrd := (h.push (.row [.sref so sg 0 R.length, .int .i64 (optI A.free), rv] false)).push (.row [.nils, .int .i64 0, .nils] false)
  have k0 := (Kr.refl hok).push (.row [.sref so sg 0 R.length, .int .i64 (optI A.free), rv] false) |>.push (.row [.nils, .int .i64 0, .nils] false)
  have g0 : ((S.push (.row [.sref so sg 0 R.length, .int .i64 (optI A.free), rv] false)).push (.row [.nils, .int .i64 0, .nils] false)).get N = some (.row [.sref so sg 0 R.length, .int .i64 (optI A.free), rv] false) := by
    rw [St.get_pushn (by rw [St.pushN]; omega), St.get_pushq hN.symm]
  have g1 : ((S.push (.row [.sref so sg 0 R.length, .int .i64 (optI A.free), rv] false)).push (.row [.nils, .int .i64 0, .nils] false)).get (N + 1) = some (.row [.nils, .int .i64 0, .nils] false) := by
    rw [St.get_pushq (by rw [St.pushN]; omega)]
  have gs : ((S.push (.row [.sref so sg 0 R.length, .int .i64 (optI A.free), rv] false)).push (.row [.nils, .int .i64 0, .nils] false)).get so = some (.seq sg 10 R 0) := by
    rw [St.get_pushn (by rw [St.pushN]; omega), St.get_pushn (by omega)]; exact hsg
  have n0 : ((S.push (.row [.sref so sg 0 R.length, .int .i64 (optI A.free), rv] false)).push (.row [.nils, .int .i64 0, .nils] false)).n = N + 2 := by simp only [St.pushN]; omega
  rw [hN]
  generalize (S.push (.row [.sref so sg 0 R.length, .int .i64 (optI A.free), rv] false)).push (.row [.nils, .int .i64 0, .nils] false) = S0 at *
  have ok0 := hrd.ok
  have b0 := hrd.base
  have hso0 : so < S0.n := by omega
  obtain ⟨row', hrow'⟩ : ∃ row' : List AV, [AV.str s.fs.kind, AV.bool s.fs.named, AV.str s.fs.field, AV.int .i64 s.fs.frm, AV.int .i64 s.fs.to, AV.int .i64 s.fs.bad, c6, c7, AV.int .i64 (s.refs - 1), AV.int .i64 (optI s.next)] = row' := ⟨_, rfl⟩
  have P := hrd.put hso0 gs (x := i) (s' := { s with refs := s.refs - 1 }) (row' := row') ⟨c6, c7, hrow'.symm, hc6, hc7⟩
  rw [← dec_set hs] at P
  have k1 := k0.seq hso0 gs (.seq sg 10 (R.set i row') 0)
  have p0 : (S0.set so (.seq sg 10 (R.set i row') 0)).get N = _ := (St.get_setn hso0 (fun e => by rw [e, gs] at g0; cases g0)).trans g0
  have p1 : (S0.set so (.seq sg 10 (R.set i row') 0)).get (N + 1) = _ := (St.get_setn hso0 (fun e => by rw [e, gs] at g1; cases g1)).trans g1
  have ps : (S0.set so (.seq sg 10 (R.set i row') 0)).get so = _ := St.get_sete ok0 hso0
  have pr : (R.set i row')[i]? = some row' := List.getElem?_set_self (List.getElem?_eq_some_iff.1 hxrow).1
  have pl : (R.set i row').length = R.length := List.length_set
  have r8 : row'[8]? = some (.int .i64 (s.refs - 1)) := by rw [← hrow']; rfl
  have rl : row'.length = 10 := by rw [← hrow']; rfl
  have n1 : (S0.set so (.seq sg 10 (R.set i row') 0)).n = S0.n := St.setN _ _ _
  refine W_region fun K hK => ?_
  simp only [KA, KB, KP, KQ, KM, simprocAttr, KT w, KI, hw.KF, g0, gs, hso0, hx0, hx1, hxrow, slD, ew, ok0, b0, splice]
  refine hK _ _ ?_
  clear hK
  clear K
  repeat with_reducible (first | apply E0 | apply E1 | apply E2 | apply E3 | apply E4 | refine E5 (by decide) ?_ | apply E6 | apply E7 | apply E8 | apply E9 | apply Ea | apply Eb | apply Ec | apply Ed)
  rw [hrow']
  generalize S0.set so (.seq sg 10 (R.set i row') 0) = S1 at *
  have ok1 := P.ok
  have b1 := P.base
  have nN1 : N + 1 < S1.n := by omega
  have gZ : ∀ X, (S1.set (N + 1) X).get (N + 1) = some X := fun X => St.get_sete ok1 nN1
  refine W_region fun K hK => ?_
  simp only [KA, KB, KP, KQ, KM, simprocAttr, KT w, KI, hw.KF, p0, ps, hx0, hx1, pr, pl, r8, rl, hge]
  refine hK _ _ ?_
  clear hK
  clear K
  repeat with_reducible (first | apply E0 | apply E1 | apply E2 | apply E3 | apply E4 | refine E5 (by decide) ?_ | apply E6 | apply E7 | apply E8 | apply E9 | apply Ea | apply Eb | apply Ec | apply Ed)
  refine W_condT (by simp only [KA, KP, KQ, simprocAttr, KT w, KI, hw.KF, hge]) ?_
  repeat with_reducible (first | apply E0 | apply E1 | apply E2 | apply E3 | apply E4 | refine E5 (by decide) ?_ | apply E6 | apply E7 | apply E8 | apply E9 | apply Ea | apply Eb | apply Ec | apply Ed)
  refine W_region fun K hK => ?_
  simp only [KA, KB, KP, KQ, KM, simprocAttr, KT w, KI, hw.KF, p0, p1, ok1, b1, nN1, splice]
  refine hK _ _ ?_
  clear hK
  clear K
  repeat with_reducible (first | apply E0 | apply E1 | apply E2 | apply E3 | apply E4 | refine E5 (by decide) ?_ | apply E6 | apply E7 | apply E8 | apply E9 | apply Ea | apply Eb | apply Ec | apply Ed)
  refine AtEnd_of rfl ?_
  simp only [KA, KP, KQ, simprocAttr, KT w, KI, hw.KF, gZ, RS_some, aresults_nil, aresults_tmp, aresults_cell, one]
  exact ⟨k1.set (by omega) nN1 _, _, _, _, rfl, P.setRow nN1 p1 _⟩

set_option maxHeartbeats 4000000 in
theorem lessR_gone (hw : Std w) {i : Nat} {A B : Ar} {s : Sl} (hs : A.slots[i]? = some s) (h1 : s.refs = 1) (hkl : s.kids.length ≤ 1000000000000) (hrun : RunQ w s.kids (gone A i) B) : LessOk w i A B := by
  intro sv rv R S h
  obtain ⟨N, hN⟩ : ∃ N, S.n = N := ⟨_, rfl⟩
  have hok := h.ok
  have hb := h.base
  obtain ⟨xrow, hxrow, hxr⟩ := h.rows.2 i s hs
  obtain ⟨c6, c7, rfl, hc6, hc7⟩ := hxr
  rcases h.sv with ⟨hR0, -⟩ | ⟨so, sg, rfl, hso, hsg⟩
  · rw [hR0] at hxrow; simp at hxrow
  have hx1 : (i : Int) < (R.length : Int) := by have := (List.getElem?_eq_some_iff.1 hxrow).1; omega
  have hx0 : (0 : Int) ≤ (i : Int) := by omega
  have ew : IntKind.i64.wrap 0 = 0 := i64_in _ (by omega)
  refine call_of_W (fn40 w) rfl ?_
  simp only [Tryd.f40, List.length_cons, List.length_nil, Nat.reduceAdd, Nat.reduceSub, List.cons_append, List.nil_append]
  repeat with_reducible (first | apply E0 | apply E1 | apply E2 | apply E3 | apply E4 | refine E5 (by decide) ?_ | apply E6 | apply E7 | apply E8 | apply E9 | apply Ea | apply Eb | apply Ec | apply Ed)
  refine W_region fun K hK => ?_
  simp only [KA, KB, KP, KQ, KM, simprocAttr, KT w, KI, hw.KF, hok, hb, splice, A3p]
  refine hK _ _ ?_
  clear hK
  clear K
  repeat with_reducible (first | apply E0 | apply E1 | apply E2 | apply E3 | apply E4 | refine E5 (by decide) ?_ | apply E6 | apply E7 | apply E8 | apply E9 | apply Ea | apply Eb | apply Ec | apply Ed)
  have hrd := (h.push (.row [.sref so sg 0 R.length, .int .i64 (optI A.free), rv] false)).push (.row [.nils, .int .i64 0, .nils] false)
  have k0 := (Kr.refl hok).push (.row [.sref so sg 0 R.length, .int .i64 (optI A.free), rv] false) |>.push (.row [.nils, .int .i64 0, .nils] false)
  have g0 : ((S.push (.row [.sref so sg 0 R.length, .int .i64 (optI A.free), rv] false)).push (.row [.nils, .int .i64 0, .nils] false)).get N = some (.row [.sref so sg 0 R.length, .int .i64 (optI A.free), rv] false) := by
    rw [St.get_pushn (by rw [St.pushN]; omega), St.get_pushq hN.symm]
  have g1 : ((S.push (.row [.sref so sg 0 R.length, .int .i64 (optI A.free), rv] false)).push (.row [.nils, .int .i64 0, .nils] false)).get (N + 1) = some (.row [.nils, .int .i64 0, .nils] false) := by
    rw [St.get_pushq (by rw [St.pushN]; omega)]
  have gs : ((S.push (.row [.sref so sg 0 R.length, .int .i64 (optI A.free), rv] false)).push (.row [.nils, .int .i64 0, .nils] false)).get so = some (.seq sg 10 R 0) := by
    rw [St.get_pushn (by rw [St.pushN]; omega), St.get_pushn (by omega)]; exact hsg
  have n0 : ((S.push (.row [.sref so sg 0 R.length, .int .i64 (optI A.free), rv] false)).push (.row [.nils, .int .i64 0, .nils] false)).n = N + 2 := by simp only [St.pushN]; omega
  rw [hN]
  generalize (S.push (.row [.sref so sg 0 R.length, .int .i64 (optI A.free), rv] false)).push (.row [.nils, .int .i64 0, .nils] false) = S0 at *
  have ok0 := hrd.ok
  have b0 := hrd.base
  have hso0 : so < S0.n := by omega
  obtain ⟨row', hrow'⟩ : ∃ row' : List AV, [AV.str s.fs.kind, AV.bool s.fs.named, AV.str s.fs.field, AV.int .i64 s.fs.frm, AV.int .i64 s.fs.to, AV.int .i64 s.fs.bad, c6, c7, AV.int .i64 0, AV.int .i64 (optI s.next)] = row' := ⟨_, rfl⟩
  have h10 : (1 : Int) - 1 = 0 := by omega
  refine W_region fun K hK => ?_
  simp only [KA, KB, KP, KQ, KM, simprocAttr, KT w, KI, hw.KF, g0, gs, hso0, hx0, hx1, hxrow, slD, h1, h10, ew, ok0, b0, splice]
  refine hK _ _ ?_
  clear hK
  clear K
  repeat with_reducible (first | apply E0 | apply E1 | apply E2 | apply E3 | apply E4 | refine E5 (by decide) ?_ | apply E6 | apply E7 | apply E8 | apply E9 | apply Ea | apply Eb | apply Ec | apply Ed)
  rw [hrow']
  have oX : ∀ X, (S0.set so X).ok := fun X => St.ok_set ok0
  have bX : ∀ X, (S0.set so X).base = 0 := fun X => by rw [St.setB]; exact b0
  have nX : ∀ X, (S0.set so X).n = S0.n := fun X => St.setN _ _ _
  have p0 : ∀ X, (S0.set so X).get N = _ := fun X => (St.get_setn hso0 (fun e => by rw [e, gs] at g0; cases g0)).trans g0
  have p1 : ∀ X, (S0.set so X).get (N + 1) = _ := fun X => (St.get_setn hso0 (fun e => by rw [e, gs] at g1; cases g1)).trans g1
  have ps : ∀ X, (S0.set so X).get so = some X := fun X => St.get_sete ok0 hso0
  have pr : ∀ X : List AV, (R.set i X)[i]? = some X := fun X => List.getElem?_set_self (List.getElem?_eq_some_iff.1 hxrow).1
  have pl : ∀ X : List AV, (R.set i X).length = R.length := fun X => List.length_set
  have r7 : row'[7]? = some c7 := by rw [← hrow']; rfl
  have r8 : row'[8]? = some (.int .i64 0) := by rw [← hrow']; rfl
  have rl : row'.length = 10 := by rw [← hrow']; rfl
  have rd : row'.drop 10 = [] := by rw [← hrow']; rfl
  refine W_region fun K hK => ?_
  simp only [KA, KB, KP, KQ, KM, simprocAttr, KT w, KI, hw.KF, p0, ps, hx0, hx1, pr, pl, r8, rl]
  refine hK _ _ ?_
  clear hK
  clear K
  repeat with_reducible (first | apply E0 | apply E1 | apply E2 | apply E3 | apply E4 | refine E5 (by decide) ?_ | apply E6 | apply E7 | apply E8 | apply E9 | apply Ea | apply Eb | apply Ec | apply Ed)
  refine W_condF (by simp only [KA, KP, KQ, simprocAttr, KT w, KI, hw.KF]) ?_
  repeat with_reducible (first | apply E0 | apply E1 | apply E2 | apply E3 | apply E4 | refine E5 (by decide) ?_ | apply E6 | apply E7 | apply E8 | apply E9 | apply Ea | apply Eb | apply Ec | apply Ed)
  refine W_region fun K hK => ?_
  simp only [KA, KB, KP, KQ, KM, simprocAttr, KT w, KI, hw.KF, p0, ps, hx0, hx1, pr, pl, r7, rl]
  refine hK _ _ ?_
  clear hK
  clear K
  repeat with_reducible (first | apply E0 | apply E1 | apply E2 | apply E3 | apply E4 | refine E5 (by decide) ?_ | apply E6 | apply E7 | apply E8 | apply E9 | apply Ea | apply Eb | apply Ec | apply Ed)
  have pX : ∀ X Y, (S0.set so X).putO so Y = some (S0.set so Y) := fun X Y => by rw [St.putO_base (by rw [bX]; exact Nat.zero_le _), set_set]
  refine W_region fun K hK => ?_
  simp only [KA, KB, KP, KQ, KM, simprocAttr, KT w, KI, hw.KF, p0, ps, hx0, hx1, pr, pl, rl, rd, pX, splice]
  refine hK _ _ ?_
  clear hK
  clear K
  repeat with_reducible (first | apply E0 | apply E1 | apply E2 | apply E3 | apply E4 | refine E5 (by decide) ?_ | apply E6 | apply E7 | apply E8 | apply E9 | apply Ea | apply Eb | apply Ec | apply Ed)
  simp only [List.set_set]
  have hzr : SrRow (zs A.free) [AV.str [], AV.bool false, AV.str [], AV.int .i64 0, AV.int .i64 0, AV.int .i64 0, AV.nils, AV.nils, AV.int .i64 0, AV.int .i64 (optI A.free)] := ⟨.nils, .nils, rfl, .inl rfl, .inr (.inr ⟨rfl, rfl⟩)⟩
  have P := hrd.put hso0 gs (x := i) hzr
  have k1 := k0.seq hso0 gs (.seq sg 10 (R.set i [AV.str [], AV.bool false, AV.str [], AV.int .i64 0, AV.int .i64 0, AV.int .i64 0, AV.nils, AV.nils, AV.int .i64 0, AV.int .i64 (optI A.free)]) 0)
  have q0 := p0 (.seq sg 10 (R.set i [AV.str [], AV.bool false, AV.str [], AV.int .i64 0, AV.int .i64 0, AV.int .i64 0, AV.nils, AV.nils, AV.int .i64 0, AV.int .i64 (optI A.free)]) 0)
  have q1 := p1 (.seq sg 10 (R.set i [AV.str [], AV.bool false, AV.str [], AV.int .i64 0, AV.int .i64 0, AV.int .i64 0, AV.nils, AV.nils, AV.int .i64 0, AV.int .i64 (optI A.free)]) 0)
  have n1 := nX (.seq sg 10 (R.set i [AV.str [], AV.bool false, AV.str [], AV.int .i64 0, AV.int .i64 0, AV.int .i64 0, AV.nils, AV.nils, AV.int .i64 0, AV.int .i64 (optI A.free)]) 0)
  generalize S0.set so (.seq sg 10 (R.set i [AV.str [], AV.bool false, AV.str [], AV.int .i64 0, AV.int .i64 0, AV.int .i64 0, AV.nils, AV.nils, AV.int .i64 0, AV.int .i64 (optI A.free)]) 0) = S1 at *
  clear p0 p1 ps oX bX nX pr pl pX
  have ok1 := P.ok
  have b1 := P.base
  have nN : N < S1.n := by omega
  refine W_region fun K hK => ?_
  simp only [KA, KB, KP, KQ, KM, simprocAttr, KT w, KI, hw.KF, q0, ok1, b1, nN, splice]
  refine hK _ _ ?_
  clear hK
  clear K
  repeat with_reducible (first | apply E0 | apply E1 | apply E2 | apply E3 | apply E4 | refine E5 (by decide) ?_ | apply E6 | apply E7 | apply E8 | apply E9 | apply Ea | apply Eb | apply Ec | apply Ed)
  have P2 := P.setRow nN q0 (.row [.sref so sg 0 R.length, .int .i64 (i : Nat), rv] false)
  have k2 := k1.set (o := N) (by omega) nN (.row [.sref so sg 0 R.length, .int .i64 (i : Nat), rv] false)
  have u0 : (S1.set N (.row [.sref so sg 0 R.length, .int .i64 (i : Nat), rv] false)).get N = _ := St.get_sete ok1 nN
  have u1 : (S1.set N (.row [.sref so sg 0 R.length, .int .i64 (i : Nat), rv] false)).get (N + 1) = _ := (St.get_setn nN (by omega)).trans q1
  have n2 : (S1.set N (.row [.sref so sg 0 R.length, .int .i64 (i : Nat), rv] false)).n = S1.n := St.setN _ _ _
  generalize S1.set N (.row [.sref so sg 0 R.length, .int .i64 (i : Nat), rv] false) = S2 at *
  have P3 : Rd (.sref so sg 0 R.length) rv (R.set i [AV.str [], AV.bool false, AV.str [], AV.int .i64 0, AV.int .i64 0, AV.int .i64 0, AV.nils, AV.nils, AV.int .i64 0, AV.int .i64 (optI A.free)]) (gone A i) S2 := ⟨P2.ok, P2.base, P2.sv, P2.rows, P2.rv⟩
  have hkal := hc7.alen (w := w) (t := 23) (e := 3) (Tk23 w)
  refine W_region fun K hK => ?_
  simp only [KA, KB, KP, KQ, KM, simprocAttr, KT w, KI, hw.KF]
  refine hK _ _ ?_
  clear hK
  clear K
  repeat with_reducible (first | apply E0 | apply E1 | apply E2 | apply E3 | apply E4 | refine E5 (by decide) ?_ | apply E6 | apply E7 | apply E8 | apply E9 | apply Ea | apply Eb | apply Ec | apply Ed)
  refine W_loop (fun k0 fr T => ∃ (tm : List AV) (j : Nat) (E : Ar) (sv rv : AV) (R : Rows), fr = ⟨tm, [], none, 40⟩ ∧ k0 = s.kids.length - j ∧ j ≤ s.kids.length ∧ RunQ w (s.kids.drop j) E B ∧ Rd sv rv R E T ∧ Kr S T ∧ N + 1 < T.n ∧
      T.get N = some (.row [sv, .int .i64 (optI E.free), rv] false) ∧ T.get (N + 1) = some (.row [.nils, .int .i64 0, .nils] false) ∧ tm.length = 52 ∧ tget tm 2 = .ptr N 0 ∧ tget tm 4 = .ptr (N + 1) 0 ∧ tget tm 5 = c7 ∧ tget tm 6 = .int .i64 (j : Nat)) s.kids.length
    ⟨_, 0, gone A i, _, _, _, rfl, by omega, by omega, by rw [List.drop_zero]; exact hrun, P3, k2, by omega, u0, u1, ?_⟩ ?_
  · simp only [KA, KP, KQ, simprocAttr, KT w, KI, hw.KF, Int.ofNat_zero]
    try simp
  clear P3 P2 P u0 u1 n2 k2 q0 q1
  rintro k0 fr T ⟨tm, j, E, sv, rv, R, rfl, rfl, hj, hR, hRd, hKr, hTn, gN, gN1, htm, t2, t4, t5, t6⟩
  have okT := hRd.ok
  have bT := hRd.base
  repeat with_reducible (first | apply E0 | apply E1 | apply E2 | apply E3 | apply E4 | refine E5 (by decide) ?_ | apply E6 | apply E7 | apply E8 | apply E9 | apply Ea | apply Eb | apply Ec | apply Ed)
  by_cases hjl : (j : Int) < (s.kids.length : Int)
  case neg =>
    rw [List.drop_eq_nil_of_le (by omega), RunQ] at hR
    subst hR
    have gZ : ∀ X, (T.set (N + 1) X).get (N + 1) = some X := fun X => St.get_sete okT hTn
    refine W_region fun K hK => ?_
    simp only [KA, KB, KP, KQ, KM, simprocAttr, KT w, KI, hw.KF, htm, t5, t6, hkal, hjl]
    refine hK _ _ ?_
    clear hK
    clear K
    repeat with_reducible (first | apply E0 | apply E1 | apply E2 | apply E3 | apply E4 | refine E5 (by decide) ?_ | apply E6 | apply E7 | apply E8 | apply E9 | apply Ea | apply Eb | apply Ec | apply Ed)
    refine W_condF (by simp only [KA, KP, KQ, simprocAttr, KT w, KI, hw.KF, htm]) ?_
    repeat with_reducible (first | apply E0 | apply E1 | apply E2 | apply E3 | apply E4 | refine E5 (by decide) ?_ | apply E6 | apply E7 | apply E8 | apply E9 | apply Ea | apply Eb | apply Ec | apply Ed)
    refine W_region fun K hK => ?_
    simp only [KA, KB, KP, KQ, KM, simprocAttr, KT w, KI, hw.KF, htm, t2, t4, gN, gN1, okT, bT, hTn, splice]
    refine hK _ _ ?_
    clear hK
    clear K
    repeat with_reducible (first | apply E0 | apply E1 | apply E2 | apply E3 | apply E4 | refine E5 (by decide) ?_ | apply E6 | apply E7 | apply E8 | apply E9 | apply Ea | apply Eb | apply Ec | apply Ed)
    refine AtEnd_of rfl ?_
    simp only [KA, KP, KQ, simprocAttr, KT w, KI, hw.KF, htm, t4, gZ, RS_some, aresults_nil, aresults_tmp, aresults_cell, one]
    exact ⟨hKr.set (by omega) hTn _, _, _, _, rfl, hRd.setRow hTn gN1 _⟩
  have hjn : j < s.kids.length := by omega
  obtain ⟨x, hx⟩ : ∃ x, s.kids[j]? = some x := ⟨_, List.getElem?_eq_getElem hjn⟩
  have hd : s.kids.drop j = x :: s.kids.drop (j + 1) := by
    rw [List.drop_eq_getElem_cons hjn]
    rw [List.getElem?_eq_getElem hjn] at hx
    simp only [Option.some.injEq] at hx; rw [hx]
  rw [hd, RunQ] at hR
  obtain ⟨F, hF, hR1⟩ := hR
  obtain ⟨v, S6, hc6', K6, sv6, rv6, R6, rfl, hRd6⟩ := hF sv rv R T hRd
  have hcall : callF (cfg w) (lim (cfg w)) 40 [.agg [sv, .int .i64 (optI E.free), rv], .int .i64 (x : Nat)] T = some (.agg [sv6, .int .i64 (optI F.free), rv6], S6) := by
    rw [callF_raw (by exact hw.e40) (by exact hw.m40)]; exact hc6'
  have g6N := K6.get _ _ (by omega) (fun g es rows e h => by cases h) gN
  have g6N1 := K6.get _ _ hTn (fun g es rows e h => by cases h) gN1
  have ok6 := hRd6.ok
  have b6 := hRd6.base
  have n6 := K6.n
  have hn6 : N < S6.n := by omega
  have hj0 : (0 : Int) ≤ (j : Int) := by omega
  have ej : IntKind.i64.wrap ((j : Int) + 1) = ((j + 1 : Nat) : Int) := by rw [i64_in _ (by omega)]; omega
  have hoX := @opX_raw (cfg w) (lim (cfg w)) 40 10 (fn := 40) (he := hw.e40) (hm := hw.m40)
  refine W_region fun K hK => ?_
  simp only [KA, KB, KP, KQ, KM, simprocAttr, KT w, KI, hw.KF, htm, t5, t6, hkal, hjl]
  refine hK _ _ ?_
  clear hK
  clear K
  repeat with_reducible (first | apply E0 | apply E1 | apply E2 | apply E3 | apply E4 | refine E5 (by decide) ?_ | apply E6 | apply E7 | apply E8 | apply E9 | apply Ea | apply Eb | apply Ec | apply Ed)
  refine W_condT (by simp only [KA, KP, KQ, simprocAttr, KT w, KI, hw.KF, htm]) ?_
  repeat with_reducible (first | apply E0 | apply E1 | apply E2 | apply E3 | apply E4 | refine E5 (by decide) ?_ | apply E6 | apply E7 | apply E8 | apply E9 | apply Ea | apply Eb | apply Ec | apply Ed)
  refine W.mono (Q := fun ex fr S' => ex = .nrm ∧ S' = S6.set N (.row [sv6, .int .i64 (optI F.free), rv6] false) ∧ ∃ (tm : List AV), fr = ⟨tm, [], none, 40⟩ ∧ tm.length = 52 ∧ tget tm 2 = .ptr N 0 ∧ tget tm 4 = .ptr (N + 1) 0 ∧ tget tm 5 = c7 ∧ tget tm 6 = .int .i64 (j : Nat)) ?_ ?_
  · rcases hc7 with rfl | ⟨-, ko, kg, rfl⟩ | ⟨hk0, rfl⟩
    · refine W_regionD [[], [], [], [1, 2], [3, 1, 2], [0, 4, 3, 1, 2], [5, 0, 4, 3, 1, 2]] (by decide +kernel) (by decide +kernel) (by decide +kernel) fun K hK => ?_
      simp only [KA, KB, KP, KQ, KM, simprocAttr, KT w, KI, hw.KF, A58, A59, A5a, A5b, A5c, A5d, A5e, A5f, A5g, A5h, KX, Foot.big, A5i, opP, rfoot, refsO, refs, wfoot, A5j, A5k, noisyOk, pairOk, Foot.isQuiet, Foot.apart, Ft.apart, Foot.none, A5l, A5m, A48, A49, A5n, A5o, A5p, A5q, Nat.reduceBEq, htm, t2, t5, t6, gN, hj0, hjl, hx, ks_get, ks_len, hoX, hcall, g6N, ok6, b6, hn6, splice]
      refine hK _ _ ?_
      clear hK
      clear K
      refine ⟨rfl, rfl, _, rfl, ?_⟩
      simp only [KA, KP, KQ, simprocAttr, KT w, KI, hw.KF, htm, t2, t4, t5, t6]
    · refine W_regionD [[], [], [], [1, 2], [3, 1, 2], [0, 4, 3, 1, 2], [5, 0, 4, 3, 1, 2]] (by decide +kernel) (by decide +kernel) (by decide +kernel) fun K hK => ?_
      simp only [KA, KB, KP, KQ, KM, simprocAttr, KT w, KI, hw.KF, A58, A59, A5a, A5b, A5c, A5d, A5e, A5f, A5g, A5h, KX, Foot.big, A5i, opP, rfoot, refsO, refs, wfoot, A5j, A5k, noisyOk, pairOk, Foot.isQuiet, Foot.apart, Ft.apart, Foot.none, A5l, A5m, A48, A49, A5n, A5o, A5p, A5q, Nat.reduceBEq, htm, t2, t5, t6, gN, hj0, hjl, hx, ks_get, ks_len, hoX, hcall, g6N, ok6, b6, hn6, splice]
      refine hK _ _ ?_
      clear hK
      clear K
      refine ⟨rfl, rfl, _, rfl, ?_⟩
      simp only [KA, KP, KQ, simprocAttr, KT w, KI, hw.KF, htm, t2, t4, t5, t6]
    · exfalso; rw [hk0] at hjn; simp at hjn
  clear htm t2 t4 t5 t6
  rintro ex fr S7 ⟨rfl, rfl, tm, rfl, htm, t2, t4, t5, t6⟩
  repeat with_reducible (first | apply E0 | apply E1 | apply E2 | apply E3 | apply E4 | refine E5 (by decide) ?_ | apply E6 | apply E7 | apply E8 | apply E9 | apply Ea | apply Eb | apply Ec | apply Ed)
  refine W_region fun K hK => ?_
  simp only [KA, KB, KP, KQ, KM, simprocAttr, KT w, KI, hw.KF, htm, t6, ej]
  refine hK _ _ ?_
  clear hK
  clear K
  refine ⟨s.kids.length - (j + 1), by omega, _, j + 1, F, sv6, rv6, R6, rfl, rfl, by omega, hR1, hRd6.setRow hn6 g6N _, (hKr.trans K6).set (by omega) hn6 _, by rw [St.setN]; omega, St.get_sete ok6 hn6, (St.get_setn hn6 (by omega)).trans g6N1, ?_⟩
  simp only [KA, KP, KQ, simprocAttr, KT w, KI, hw.KF, htm, t2, t4, t5]
  try simp

/-- What a row of references less leaves. -/
theorem lessR_runs (hw : Std w) {A C : Ar} {r : List Nat} (h : LessL A r C) : ∀ (c : Int), 0 ≤ c → c ≤ 1000000000000000 → RB c A.slots → KL' A.slots → RunQ w r A C ∧ RB c C.slots := by
  induction h with
  | nil A => intro c h0 h1 hRB hkl; exact ⟨rfl, hRB⟩
  | @keep A i r C s hs h1 hr ih =>
    intro c h0 hc hRB hkl
    have hb := hRB i s hs
    have hRB' : RB c (decS A.slots i) := by rw [dec_set hs]; exact hRB.set (by simp only; omega) i
    obtain ⟨k1, k2⟩ := ih c h0 hc hRB' (kl_dec hkl i)
    exact ⟨⟨_, lessR_keep hw hs h1 (by omega), k1⟩, k2⟩
  | @gone A i r B C s hs h1 hk hr ih1 ih2 =>
    intro c h0 hc hRB hkl
    have hRBg : RB c (Go.Am.R.gone A i).slots := hRB.set (by simp only [zs]; omega) i
    obtain ⟨k1, k2⟩ := ih1 c h0 hc hRBg (kl_gone hkl hs)
    obtain ⟨k3, k4⟩ := ih2 c h0 hc k2 (less_kl hk (kl_gone hkl hs))
    exact ⟨⟨_, lessR_gone hw hs h1 (hkl i s hs) k1, k3⟩, k4⟩
end Go.Am.R
