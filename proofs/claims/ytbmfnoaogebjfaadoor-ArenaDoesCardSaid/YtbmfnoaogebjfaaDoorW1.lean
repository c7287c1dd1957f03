/- THE REFERENCE: taking in a tree, walked. -/
import Derived.Test.YtbmfnoaogebjfaaDoorW0
import Derived.Test.YtbmfnoaogebjfaaDoorR0
set_option linter.unusedSimpArgs false
set_option linter.unusedVariables false
set_option maxRecDepth 20000
namespace Go.Am.R
open Go.Proofs Go.IntWalk

variable {w : Ways}

/-- What taking in a tree leaves. -/
def LayR (S : St) (r : Option (Nat × Ar)) : AV → St → Prop := fun v S' => Kr S S' ∧ match r with
  | none => ∃ c0 c1 c2, v = .tup [.agg [c0, c1, c2], .int .i64 (-1), .int .i64 22]
  | some (i, B) => ∃ sv rv R, v = .tup [.agg [sv, .int .i64 (optI B.free), rv], .int .i64 (i : Nat), .int .i64 0] ∧ Rd sv rv R B S'
theorem Ow.kr {rows : Rows} {v : AV} {S S' : St} (h : Ow rows v S) (hk : Kr S S') : Ow rows v S' := by
  rcases h with h | ⟨h1, o, g, rfl, h3, h4⟩
  · exact .inl h
  · exact .inr ⟨h1, o, g, rfl, by have := hk.n; omega, hk.get _ _ h3 (fun g es rows e h => by cases h) h4⟩
theorem look_first {S : List Sl} {K : Key} {j : Nat} {s : Sl} (hs : S[j]? = some s) (hr : s.refs ≠ 0) (hk : s.key = K) (hn : ∀ (i : Nat) (t : Sl), i < j → S[i]? = some t → t.refs ≠ 0 → t.key ≠ K) : look S K = some j := by
  unfold look
  rw [List.findIdx?_eq_some_iff_getElem]
  obtain ⟨hl, he⟩ := List.getElem?_eq_some_iff.1 hs
  refine ⟨hl, by rw [he]; simp [hr, hk], fun i hi => ?_⟩
  have hil : i < S.length := by omega
  have := hn i S[i] hi (List.getElem?_eq_getElem hil)
  by_cases h0 : S[i].refs = 0
  · simp [h0]
  · simp [this h0]
theorem look_never {S : List Sl} {K : Key} (hn : ∀ (i : Nat) (t : Sl), S[i]? = some t → t.refs ≠ 0 → t.key ≠ K) : look S K = none := by
  unfold look
  rw [List.findIdx?_eq_none_iff]
  intro s hs
  obtain ⟨j, hj⟩ := List.mem_iff_getElem?.1 hs
  by_cases h0 : s.refs = 0
  · simp [h0]
  · simp [hn j s hj h0]

theorem opX_raw {c : Cfg} {R : Rec} {f r : Nat} {tm : List AV} {d : Option Tmp} {ty : TypeId} {p : String} {a : Array Edge} {g : Option (Nat × Bool)} {S : St} {fn : FuncId} {x : Array Operand} {t : Array TypeId} (he : c.ext fn = none) (hm : c.mode fn = .raw) :
    opX c R f r tm ⟨d, .call { callee := .value (.func fn), args := x, argTypes := t }, ty, p, a, g⟩ S = (evalL tm x.toList).bind fun l => (callF c R fn l S).map fun z => (z.1, z.2, .big) := by
  have hq : opQ c R tm ⟨d, .call { callee := .value (.func fn), args := x, argTypes := t }, ty, p, a, g⟩ S = none := by simp [opQ, aval_callv, he, hm]
  have hc : calmable c tm ⟨d, .call { callee := .value (.func fn), args := x, argTypes := t }, ty, p, a, g⟩ = false := by simp [calmable, he, hm]
  unfold opX
  simp only [hq, hc, Bool.false_eq_true, if_false]
  cases hl : evalL tm x.toList with
  | none => simp [aeff, evalT, hl]
  | some l => simp [aeff, evalT, hl, callV, wfoot, he]

set_option maxHeartbeats 8000000 in
theorem lay34 (hw : Std w) (hr : StdR w) : ∀ (n : Node) (base : Int) (A : Ar) (p : List Nat) (c : Int) (S : St) (sv rv : AV) (R : Rows), Inv A p [] → RB c A.slots → KL' A.slots → 0 ≤ c → c + nn n ≤ 1000000000000 → Rd sv rv R A S →
    CallQ (cfg w) 34 [.agg [sv, .int .i64 (optI A.free), rv], n.av, .int .i64 base] S (LayR S (lay n base A)) := by
  intro n
  induction n using Node.ind with
  | h n ih =>
  obtain ⟨k, nm, fl, a, b, d, kids⟩ := n
  simp only [Node.kids] at ih
  intro base A p c S sv rv R hA hRB hKL hc0 hcn hRd
  have hok := hRd.ok
  have hb := hRd.base
  have hav : (Node.mk k nm fl a b d kids).av = .agg [.str k, .bool nm, .str fl, .int .i64 a, .int .i64 b, .int .i64 d, .vec (Node.rows kids)] := by simp [Node.av, Node.cells, Node.rows]
  rw [hav]
  rw [nn] at hcn
  have hkl := len_nnL kids
  have hrl := Node.rows_len kids
  obtain ⟨N, hN⟩ : ∃ N, S.n = N := ⟨_, rfl⟩
  obtain ⟨RZ, hRZ⟩ : ∃ RZ, layL kids a A = RZ := ⟨_, rfl⟩
  obtain ⟨Q, hQ⟩ : ∃ Q, lay (.mk k nm fl a b d kids) base A = Q := ⟨_, rfl⟩
  rw [hQ]
  rw [lay, hRZ] at hQ
  refine call_of_W (fn34 w) rfl ?_
  simp only [Tryd.f34, List.length_cons, List.length_nil, Nat.reduceAdd, Nat.reduceSub, List.cons_append, List.nil_append]
  repeat with_reducible (first | apply E0 | apply E1 | apply E2 | apply E3 | apply E4 | refine E5 (by decide) ?_ | apply E6 | apply E7 | apply E8 | apply E9 | apply Ea | apply Eb | apply Ec | apply Ed)
  refine W_region fun K hK => ?_
  simp only [KA, KB, KP, KQ, KM, simprocAttr, KT w, KI, hw.KF, hok, hb, splice, A3p]
  refine hK _ _ ?_
  clear hK
  clear K
  repeat with_reducible (first | apply E0 | apply E1 | apply E2 | apply E3 | apply E4 | refine E5 (by decide) ?_ | apply E6 | apply E7 | apply E8 | apply E9 | apply Ea | apply Eb | apply Ec | apply Ed)
  refine W_region fun K hK => ?_
  simp only [KA, KB, KP, KQ, KM, simprocAttr, KT w, KI, hw.KF, hok, hb, splice, A3p]
  refine hK _ _ ?_
  clear hK
  clear K
  repeat with_reducible (first | apply E0 | apply E1 | apply E2 | apply E3 | apply E4 | refine E5 (by decide) ?_ | apply E6 | apply E7 | apply E8 | apply E9 | apply Ea | apply Eb | apply Ec | apply Ed)
  refine W_region fun K hK => ?_
  simp only [KA, KB, KP, KQ, KM, simprocAttr, KT w, KI, hw.KF]
  refine hK _ _ ?_
  clear hK
  clear K
  repeat with_reducible (first | apply E0 | apply E1 | apply E2 | apply E3 | apply E4 | refine E5 (by decide) ?_ | apply E6 | apply E7 | apply E8 | apply E9 | apply Ea | apply Eb | apply Ec | apply Ed)
  rw [hN]
  refine W_loop (fun k0 fr T => ∃ (tm : List AV) (j : Nat) (l : List Nat) (B : Ar) (p' : List Nat) (c' : Int) (kv sv rv : AV) (R : Rows), fr = ⟨tm, [], none, 34⟩ ∧ k0 = kids.length - j ∧ j ≤ kids.length ∧ l.length = j ∧ Rd sv rv R B T ∧ Inv B p' [] ∧ RB c' B.slots ∧ KL' B.slots ∧ 0 ≤ c' ∧ c' + nnL (kids.drop j) ≤ 1000000000000 - 1 ∧ c' = c + nnL (kids.take j) - (kids.take j).length ∧
      (match layL (kids.drop j) a B with | none => RZ = none | some (l', C) => RZ = some (l ++ l', C)) ∧ Ow (ks l) kv T ∧ IsL B.slots l (ntL (kids.take j) a) ∧ (∀ i ∈ p', i ∈ p ∨ i ∈ l) ∧
      T.get N = some (.row [sv, .int .i64 (optI B.free), rv] false) ∧ T.get (N + 1) = some (.row [.str k, .bool nm, .str fl, .int .i64 a, .int .i64 b, .int .i64 d, .vec (Node.rows kids)] false) ∧ T.get (N + 2) = some (.row [.nils, .int .i64 0, .nils] false) ∧
      T.get (N + 3) = some (.row [.str [], .bool false, .str [], .int .i64 0, .int .i64 0, .int .i64 0, .nils, kv, .int .i64 0, .int .i64 (-1)] false) ∧ N + 3 < T.n ∧ Kr S T ∧ (∀ r oo g, kv = .own r oo g → N ≤ oo) ∧
      tm.length = 137 ∧ tget tm 2 = .int .i64 base ∧ tget tm 3 = .ptr N 0 ∧ tget tm 4 = .ptr (N + 1) 0 ∧ tget tm 6 = .ptr (N + 2) 0 ∧ tget tm 7 = .int .i64 0 ∧ tget tm 8 = .int .i64 0 ∧ tget tm 9 = .ptr (N + 3) 0 ∧ tget tm 10 = .int .i64 (j : Nat)) kids.length
    ⟨_, 0, [], A, p, c, .nils, sv, rv, R, rfl, by omega, by omega, rfl, ?_, hA, hRB, hKL, hc0, by simp only [List.drop_zero]; omega, by simp [nnL], ?_, .inl ⟨rfl, rfl⟩, by rw [List.take_zero, ntL, IsL]; trivial, fun i hi => .inl hi, ?_, ?_, ?_, ?_, ?_, ?_, (fun r oo g e => by cases e), ?_⟩ ?_
  · exact (((hRd.push _).push _).push _).push _
  · rw [List.drop_zero, hRZ]
    cases RZ with
    | none => rfl
    | some q => rfl
  · rw [St.get_pushn (by simp only [St.pushN]; omega), St.get_pushn (by simp only [St.pushN]; omega), St.get_pushn (by simp only [St.pushN]; omega), St.get_pushq hN.symm]
  · rw [St.get_pushn (by simp only [St.pushN]; omega), St.get_pushn (by simp only [St.pushN]; omega), St.get_pushq (by simp only [St.pushN]; omega)]
  · rw [St.get_pushn (by simp only [St.pushN]; omega), St.get_pushq (by simp only [St.pushN]; omega)]
  · rw [St.get_pushq (by simp only [St.pushN]; omega)]
  · simp only [St.pushN]; omega
  · exact ((((Kr.refl hok).push _).push _).push _).push _
  · simp only [KA, KP, KQ, simprocAttr, KT w, KI, hw.KF, hN, Int.ofNat_zero]
    try simp
  clear hRd hRB hKL hok hb
  rintro k0 fr T ⟨tm, j, l, B, p', c', kv, sv, rv, R, rfl, rfl, hj, hlj, hRd, hB, hRB, hKL, hc0', hcb, hcc, hrest, hkv, hIL, hpp, gN, gN1, gN2, gN3, hTn, hKr, hkN, htm, t2, t3, t4, t6, t7, t8, t9, t10⟩
  have hok := hRd.ok
  have hb := hRd.base
  repeat with_reducible (first | apply E0 | apply E1 | apply E2 | apply E3 | apply E4 | refine E5 (by decide) ?_ | apply E6 | apply E7 | apply E8 | apply E9 | apply Ea | apply Eb | apply Ec | apply Ed)
  by_cases hjl : (j : Int) < (kids.length : Int)
  case neg =>
    have hje : j = kids.length := by omega
    rw [hje, List.drop_length, layL] at hrest
    simp only [List.append_nil] at hrest
    rw [hje, List.take_length] at hIL hcc
    rw [hrest] at hQ
    simp only at hQ
    clear hrest
    have hkal := hkv.alen (w := w) (t := 23) (e := 3) (Tk23 w)
    rw [ks_len] at hkal
    refine W_region fun K hK => ?_
    simp only [KA, KB, KP, KQ, KM, simprocAttr, KT w, KI, hw.KF, htm, t4, t10, gN1, hrl, hjl]
    refine hK _ _ ?_
    clear hK
    clear K
    repeat with_reducible (first | apply E0 | apply E1 | apply E2 | apply E3 | apply E4 | refine E5 (by decide) ?_ | apply E6 | apply E7 | apply E8 | apply E9 | apply Ea | apply Eb | apply Ec | apply Ed)
    refine W_condF (by simp only [KA, KP, KQ, simprocAttr, KT w, KI, hw.KF, htm]) ?_
    repeat with_reducible (first | apply E0 | apply E1 | apply E2 | apply E3 | apply E4 | refine E5 (by decide) ?_ | apply E6 | apply E7 | apply E8 | apply E9 | apply Ea | apply Eb | apply Ec | apply Ed)
    refine W_region fun K hK => ?_
    simp only [KA, KB, KP, KQ, KM, simprocAttr, KT w, KI, hw.KF, htm, t4, t9, gN1, gN3, hok, hb, hTn, splice]
    refine hK _ _ ?_
    clear hK
    clear K
    repeat with_reducible (first | apply E0 | apply E1 | apply E2 | apply E3 | apply E4 | refine E5 (by decide) ?_ | apply E6 | apply E7 | apply E8 | apply E9 | apply Ea | apply Eb | apply Ec | apply Ed)
    have gX : ∀ X, (T.set (N + 3) X).get (N + 3) = some X := fun X => St.get_sete hok hTn
    have gY : ∀ X, (T.set (N + 3) X).get (N + 1) = T.get (N + 1) := fun X => St.get_setn hTn (by omega)
    have oX : ∀ X, (T.set (N + 3) X).ok := fun X => St.ok_set hok
    have bX : ∀ X, (T.set (N + 3) X).base = 0 := fun X => by rw [St.setB]; exact hb
    have nX : ∀ X, (T.set (N + 3) X).n = T.n := fun X => St.setN _ _ _
    refine W_region fun K hK => ?_
    simp only [KA, KB, KP, KQ, KM, simprocAttr, KT w, KI, hw.KF, htm, t2, t4, t9, gX, gY, gN1, oX, bX, nX, hok, hb, hTn, splice]
    refine hK _ _ ?_
    clear hK
    clear K
    repeat with_reducible (first | apply E0 | apply E1 | apply E2 | apply E3 | apply E4 | refine E5 (by decide) ?_ | apply E6 | apply E7 | apply E8 | apply E9 | apply Ea | apply Eb | apply Ec | apply Ed)
    simp only [set_set]
    refine W_region fun K hK => ?_
    simp only [KA, KB, KP, KQ, KM, simprocAttr, KT w, KI, hw.KF, htm, t2, t4, t9, gX, gY, gN1, oX, bX, nX, hok, hb, hTn, splice]
    refine hK _ _ ?_
    clear hK
    clear K
    repeat with_reducible (first | apply E0 | apply E1 | apply E2 | apply E3 | apply E4 | refine E5 (by decide) ?_ | apply E6 | apply E7 | apply E8 | apply E9 | apply Ea | apply Eb | apply Ec | apply Ed)
    simp only [set_set]
    refine W_region fun K hK => ?_
    simp only [KA, KB, KP, KQ, KM, simprocAttr, KT w, KI, hw.KF, htm, t2, t4, t9, gX, gY, gN1, oX, bX, nX, hok, hb, hTn, splice]
    refine hK _ _ ?_
    clear hK
    clear K
    repeat with_reducible (first | apply E0 | apply E1 | apply E2 | apply E3 | apply E4 | refine E5 (by decide) ?_ | apply E6 | apply E7 | apply E8 | apply E9 | apply Ea | apply Eb | apply Ec | apply Ed)
    simp only [set_set]
    refine W_region fun K hK => ?_
    simp only [KA, KB, KP, KQ, KM, simprocAttr, KT w, KI, hw.KF, htm]
    refine hK _ _ ?_
    clear hK
    clear K
    repeat with_reducible (first | apply E0 | apply E1 | apply E2 | apply E3 | apply E4 | refine E5 (by decide) ?_ | apply E6 | apply E7 | apply E8 | apply E9 | apply Ea | apply Eb | apply Ec | apply Ed)
    have hKok : l.length ≤ 1000000000000 := by omega
    have hRd2 := hRd.setRow hTn gN3 (.row [.str k, .bool nm, .str fl, .int .i64 (w64 (a - base)), .int .i64 (w64 (b - base)), .int .i64 d, .nils, kv, .int .i64 0, .int .i64 (-1)] false)
    have g2N3 := gX (.row [.str k, .bool nm, .str fl, .int .i64 (w64 (a - base)), .int .i64 (w64 (b - base)), .int .i64 d, .nils, kv, .int .i64 0, .int .i64 (-1)] false)
    have n2 := nX (.row [.str k, .bool nm, .str fl, .int .i64 (w64 (a - base)), .int .i64 (w64 (b - base)), .int .i64 d, .nils, kv, .int .i64 0, .int .i64 (-1)] false)
    have K2 := hKr.set (o := N + 3) (by omega) hTn (.row [.str k, .bool nm, .str fl, .int .i64 (w64 (a - base)), .int .i64 (w64 (b - base)), .int .i64 d, .nils, kv, .int .i64 0, .int .i64 (-1)] false)
    have g2N : (T.set (N + 3) (.row [.str k, .bool nm, .str fl, .int .i64 (w64 (a - base)), .int .i64 (w64 (b - base)), .int .i64 d, .nils, kv, .int .i64 0, .int .i64 (-1)] false)).get N = _ := (St.get_setn hTn (by omega)).trans gN
    have g2N2 : (T.set (N + 3) (.row [.str k, .bool nm, .str fl, .int .i64 (w64 (a - base)), .int .i64 (w64 (b - base)), .int .i64 d, .nils, kv, .int .i64 0, .int .i64 (-1)] false)).get (N + 2) = _ := (St.get_setn hTn (by omega)).trans gN2
    have hkv2 : Ow (ks l) kv (T.set (N + 3) (.row [.str k, .bool nm, .str fl, .int .i64 (w64 (a - base)), .int .i64 (w64 (b - base)), .int .i64 d, .nils, kv, .int .i64 0, .int .i64 (-1)] false)) := by
      rcases hkv with h | ⟨h1, o, g, rfl, h3, h4⟩
      · exact .inl h
      · exact .inr ⟨h1, o, g, rfl, by rw [St.setN]; exact h3, by rw [St.get_setn hTn (fun e => by rw [e, gN3] at h4; cases h4)]; exact h4⟩
    generalize T.set (N + 3) (.row [.str k, .bool nm, .str fl, .int .i64 (w64 (a - base)), .int .i64 (w64 (b - base)), .int .i64 d, .nils, kv, .int .i64 0, .int .i64 (-1)] false) = T2 at *
    clear gX gY oX bX nX gN gN1 gN2 gN3
    have ok2 := hRd2.ok
    have b2 := hRd2.base
    obtain ⟨K, hK⟩ : ∃ K : Key, ((⟨k, nm, fl, w64 (a - base), w64 (b - base), d⟩ : Fs), l) = K := ⟨_, rfl⟩
    have hsn : SrRow ⟨⟨k, nm, fl, w64 (a - base), w64 (b - base), d⟩, l, 0, none⟩ [.str k, .bool nm, .str fl, .int .i64 (w64 (a - base)), .int .i64 (w64 (b - base)), .int .i64 d, .nils, kv, .int .i64 0, .int .i64 (-1)] := ⟨_, _, rfl, .inl rfl, hkv2.isK⟩
    have hkk : (⟨⟨k, nm, fl, w64 (a - base), w64 (b - base), d⟩, l, 0, none⟩ : Sl).key = K := hK
    rw [hK] at hQ
    have hsal := fun X => hRd2.sv.alen (w := w) (t := 22) (e := 60) (Tk22 w) X
    rw [hRd2.rows.1] at hsal
    have hBl := hB.len
    refine W_loop (fun k0 fr T' => ∃ (tm : List AV) (j : Nat), fr = ⟨tm, [], none, 34⟩ ∧ T' = T2 ∧ k0 = B.slots.length - j ∧ j ≤ B.slots.length ∧ (∀ (i : Nat) (t : Sl), i < j → B.slots[i]? = some t → t.refs ≠ 0 → t.key ≠ K) ∧
        tm.length = 137 ∧ tget tm 3 = .ptr N 0 ∧ tget tm 6 = .ptr (N + 2) 0 ∧ tget tm 7 = .int .i64 0 ∧ tget tm 8 = .int .i64 0 ∧ tget tm 9 = .ptr (N + 3) 0 ∧ tget tm 14 = .int .i64 (j : Nat)) B.slots.length
      ⟨_, 0, rfl, rfl, by omega, by omega, fun i t h => by omega, ?_⟩ ?_
    · simp only [KA, KP, KQ, simprocAttr, KT w, KI, hw.KF, htm, t3, t6, t7, t8, t9, Int.ofNat_zero]
      try simp
    clear htm t2 t3 t4 t6 t7 t8 t9 t10
    rintro k0 fr T' ⟨tm, j, rfl, rfl, rfl, hj, hbef, htm, t3, t6, t7, t8, t9, t14⟩
    repeat with_reducible (first | apply E0 | apply E1 | apply E2 | apply E3 | apply E4 | refine E5 (by decide) ?_ | apply E6 | apply E7 | apply E8 | apply E9 | apply Ea | apply Eb | apply Ec | apply Ed)
    by_cases hjl : (j : Int) < (B.slots.length : Int)
    case neg =>
      have hlk := look_never (S := B.slots) (K := K) fun i t ht h1 => hbef i t (by have := (List.getElem?_eq_some_iff.1 ht).1; omega) ht h1
      rw [place, hlk] at hQ
      simp only at hQ
      have hnN2 : N + 2 < T'.n := by omega
      have hnN : N < T'.n := by omega
      have gZ : ∀ X, (T'.set (N + 2) X).get (N + 2) = some X := fun X => St.get_sete ok2 hnN2
      have hkv2' := hkv2
      clear hkv2
      refine W_region fun K hK => ?_
      simp only [KA, KB, KP, KQ, KM, simprocAttr, KT w, KI, hw.KF, htm, t3, t14, g2N, hsal, hjl]
      refine hK _ _ ?_
      clear hK
      clear K
      repeat with_reducible (first | apply E0 | apply E1 | apply E2 | apply E3 | apply E4 | refine E5 (by decide) ?_ | apply E6 | apply E7 | apply E8 | apply E9 | apply Ea | apply Eb | apply Ec | apply Ed)
      refine W_condF (by simp only [KA, KP, KQ, simprocAttr, KT w, KI, hw.KF, htm]) ?_
      repeat with_reducible (first | apply E0 | apply E1 | apply E2 | apply E3 | apply E4 | refine E5 (by decide) ?_ | apply E6 | apply E7 | apply E8 | apply E9 | apply Ea | apply Eb | apply Ec | apply Ed)
      cases hrm : room B with
      | none =>
        rw [hrm] at hQ
        simp only at hQ
        subst hQ
        obtain ⟨hf, hlen⟩ : B.free = none ∧ 4096 ≤ B.slots.length := by
          unfold room at hrm
          split at hrm
          · cases hrm
          · rename_i hf
            split at hrm
            · cases hrm
            · exact ⟨hf, by omega⟩
        have hl4 : (4096 : Int) ≤ (B.slots.length : Int) := by omega
        rw [hf] at g2N
        have hm1 : optI none = -1 := rfl
        rw [hm1] at g2N
        refine W_region fun K hK => ?_
        simp only [KA, KB, KP, KQ, KM, simprocAttr, KT w, KI, hw.KF, htm, t3, g2N]
        refine hK _ _ ?_
        clear hK
        clear K
        repeat with_reducible (first | apply E0 | apply E1 | apply E2 | apply E3 | apply E4 | refine E5 (by decide) ?_ | apply E6 | apply E7 | apply E8 | apply E9 | apply Ea | apply Eb | apply Ec | apply Ed)
        refine W_region fun K hK => ?_
        simp only [KA, KB, KP, KQ, KM, simprocAttr, KT w, KI, hw.KF, htm]
        refine hK _ _ ?_
        clear hK
        clear K
        repeat with_reducible (first | apply E0 | apply E1 | apply E2 | apply E3 | apply E4 | refine E5 (by decide) ?_ | apply E6 | apply E7 | apply E8 | apply E9 | apply Ea | apply Eb | apply Ec | apply Ed)
        refine W_condF (by simp only [KA, KP, KQ, simprocAttr, KT w, KI, hw.KF, htm]) ?_
        repeat with_reducible (first | apply E0 | apply E1 | apply E2 | apply E3 | apply E4 | refine E5 (by decide) ?_ | apply E6 | apply E7 | apply E8 | apply E9 | apply Ea | apply Eb | apply Ec | apply Ed)
        refine W_region fun K hK => ?_
        simp only [KA, KB, KP, KQ, KM, simprocAttr, KT w, KI, hw.KF, htm, t3, g2N, hsal, hl4]
        refine hK _ _ ?_
        clear hK
        clear K
        repeat with_reducible (first | apply E0 | apply E1 | apply E2 | apply E3 | apply E4 | refine E5 (by decide) ?_ | apply E6 | apply E7 | apply E8 | apply E9 | apply Ea | apply Eb | apply Ec | apply Ed)
        refine W_condT (by simp only [KA, KP, KQ, simprocAttr, KT w, KI, hw.KF, htm]) ?_
        repeat with_reducible (first | apply E0 | apply E1 | apply E2 | apply E3 | apply E4 | refine E5 (by decide) ?_ | apply E6 | apply E7 | apply E8 | apply E9 | apply Ea | apply Eb | apply Ec | apply Ed)
        refine W_region fun K hK => ?_
        simp only [KA, KB, KP, KQ, KM, simprocAttr, KT w, KI, hw.KF, htm, t3, t6, g2N, g2N2, ok2, b2, hnN2, splice]
        refine hK _ _ ?_
        clear hK
        clear K
        repeat with_reducible (first | apply E0 | apply E1 | apply E2 | apply E3 | apply E4 | refine E5 (by decide) ?_ | apply E6 | apply E7 | apply E8 | apply E9 | apply Ea | apply Eb | apply Ec | apply Ed)
        refine AtEnd_of rfl ?_
        simp only [KA, KP, KQ, simprocAttr, KT w, KI, hw.KF, htm, t6, gZ, RS_some, aresults_nil, aresults_tmp, aresults_cell, one]
        exact ⟨K2.set (by omega) hnN2 _, _, _, _, rfl⟩
      | some q =>
        obtain ⟨i, B1⟩ := q
        rw [hrm] at hQ
        simp only at hQ
        obtain ⟨⟨z, hz1, hz0⟩, hrmo, hri, hrr⟩ := room_facts hB hrm
        refine W_region fun K hK => ?_
        simp only [KA, KB, KP, KQ, KM, simprocAttr, KT w, KI, hw.KF, htm, t3, g2N]
        refine hK _ _ ?_
        clear hK
        clear K
        repeat with_reducible (first | apply E0 | apply E1 | apply E2 | apply E3 | apply E4 | refine E5 (by decide) ?_ | apply E6 | apply E7 | apply E8 | apply E9 | apply Ea | apply Eb | apply Ec | apply Ed)
        refine W_region fun K hK => ?_
        simp only [KA, KB, KP, KQ, KM, simprocAttr, KT w, KI, hw.KF, htm]
        refine hK _ _ ?_
        clear hK
        clear K
        repeat with_reducible (first | apply E0 | apply E1 | apply E2 | apply E3 | apply E4 | refine E5 (by decide) ?_ | apply E6 | apply E7 | apply E8 | apply E9 | apply Ea | apply Eb | apply Ec | apply Ed)
        refine W.mono (Q := fun ex fr S' => ex = .nrm ∧ ∃ (tm : List AV) (sv' : AV) (R' : Rows), fr = ⟨tm, [], none, 34⟩ ∧ Kr S S' ∧ N + 3 < S'.n ∧ Rd sv' rv R' B1 S' ∧ S'.get N = some (.row [sv', .int .i64 (optI B1.free), rv] false) ∧ S'.get (N + 2) = some (.row [.nils, .int .i64 0, .nils] false) ∧
            S'.get (N + 3) = some (.row [.str k, .bool nm, .str fl, .int .i64 (w64 (a - base)), .int .i64 (w64 (b - base)), .int .i64 d, .nils, kv, .int .i64 0, .int .i64 (-1)] false) ∧ Ow (ks l) kv S' ∧
            tm.length = 137 ∧ tget tm 3 = .ptr N 0 ∧ tget tm 6 = .ptr (N + 2) 0 ∧ tget tm 9 = .ptr (N + 3) 0 ∧ tget tm 15 = .int .i64 (i : Nat)) ?_ ?_
        · unfold room at hrm
          split at hrm
          · rename_i i' hf
            simp only [Option.some.injEq, Prod.mk.injEq] at hrm
            obtain ⟨rfl, rfl⟩ := hrm
            simp only at hz1
            obtain ⟨zrow, hzrow, hzr⟩ := hRd2.rows.2 i' z hz1
            rcases hRd2.sv with ⟨hR0, -⟩ | ⟨so, sg, rfl, hso, hsg⟩
            · rw [hR0] at hzrow; simp at hzrow
            have hi1 : (i' : Int) < (R.length : Int) := by have := (List.getElem?_eq_some_iff.1 hzrow).1; omega
            have hi0 : (0 : Int) ≤ (i' : Int) := by omega
            have zl := hzr.len
            have z9 : zrow[9]? = some (.int .i64 (optI z.next)) := by obtain ⟨_, _, rfl, _⟩ := hzr; rfl
            have hge : (B.slots.getD i' default).next = z.next := by rw [List.getD, hz1]; rfl
            have hm1 : optI (some i') = (i' : Int) := rfl
            rw [hf, hm1] at g2N ⊢
            refine W_condT (by simp only [KA, KP, KQ, simprocAttr, KT w, KI, hw.KF, htm, hi0]) ?_
            repeat with_reducible (first | apply E0 | apply E1 | apply E2 | apply E3 | apply E4 | refine E5 (by decide) ?_ | apply E6 | apply E7 | apply E8 | apply E9 | apply Ea | apply Eb | apply Ec | apply Ed)
            refine W_region fun K hK => ?_
            simp only [KA, KB, KP, KQ, KM, simprocAttr, KT w, KI, hw.KF, htm, t3, g2N, hsg, hi0, hi1, hzrow, z9, zl, ok2, b2, hnN, splice]
            refine hK _ _ ?_
            clear hK
            clear K
            have K3 := K2.set (o := N) (by omega) hnN (.row [.sref so sg 0 R.length, .int .i64 (optI z.next), rv] false)
            have r3 := hRd2.setRow hnN g2N (.row [.sref so sg 0 R.length, .int .i64 (optI z.next), rv] false)
            refine ⟨rfl, _, _, _, rfl, K3, by rw [St.setN]; omega, ⟨r3.ok, r3.base, r3.sv, r3.rows, r3.rv⟩, ?_, ?_, ?_, ?_, ?_⟩
            · rw [hge]; exact St.get_sete ok2 hnN
            · rw [St.get_setn hnN (by omega)]; exact g2N2
            · rw [St.get_setn hnN (by omega)]; exact g2N3
            · rcases hkv2' with h | ⟨h1, o, g, rfl, h3, h4⟩
              · exact .inl h
              · exact .inr ⟨h1, o, g, rfl, by rw [St.setN]; exact h3, by rw [St.get_setn hnN (fun e => by rw [e, g2N] at h4; cases h4)]; exact h4⟩
            · simp only [KA, KP, KQ, simprocAttr, KT w, KI, hw.KF, htm, t3, t6, t9]
              try simp
          · rename_i hf
            split at hrm
            case isFalse => cases hrm
            rename_i hlt
            simp only [Option.some.injEq, Prod.mk.injEq] at hrm
            obtain ⟨rfl, rfl⟩ := hrm
            have hm1 : optI none = -1 := rfl
            rw [hf, hm1] at g2N ⊢
            have hl4 : ¬ (4096 : Int) ≤ (B.slots.length : Int) := by omega
            obtain ⟨v', S4, happ, hmv, ok4, b4, n4, lf4, cl4, fr4⟩ := app_mv (es := 10) (bytes := 128) [.str [], .bool false, .str [], .int .i64 0, .int .i64 0, .int .i64 0, .nils, .nils, .int .i64 0, .int .i64 0] hRd2.sv ok2 b2 rfl hRd2.rows.hd (by simp only [capOk, hRd2.rows.1]; simp; omega)
            have mu := hr.mu34a
            have frr : ∀ q cs lk, T'.get q = some (.row cs lk) → S4.get q = some (.row cs lk) := fun q cs lk hg => fr4 _ _ (St.get_lt hg) (fun g rows e h => by cases h) hg
            have g4N := frr _ _ _ g2N
            have hnN4 : N < S4.n := by omega
            refine W_condF (by simp only [KA, KP, KQ, simprocAttr, KT w, KI, hw.KF, htm]) ?_
            repeat with_reducible (first | apply E0 | apply E1 | apply E2 | apply E3 | apply E4 | refine E5 (by decide) ?_ | apply E6 | apply E7 | apply E8 | apply E9 | apply Ea | apply Eb | apply Ec | apply Ed)
            refine W_region fun K hK => ?_
            simp only [KA, KB, KP, KQ, KM, simprocAttr, KT w, KI, hw.KF, htm, t3, g2N, hsal, hl4]
            refine hK _ _ ?_
            clear hK
            clear K
            repeat with_reducible (first | apply E0 | apply E1 | apply E2 | apply E3 | apply E4 | refine E5 (by decide) ?_ | apply E6 | apply E7 | apply E8 | apply E9 | apply Ea | apply Eb | apply Ec | apply Ed)
            refine W_condF (by simp only [KA, KP, KQ, simprocAttr, KT w, KI, hw.KF, htm]) ?_
            repeat with_reducible (first | apply E0 | apply E1 | apply E2 | apply E3 | apply E4 | refine E5 (by decide) ?_ | apply E6 | apply E7 | apply E8 | apply E9 | apply Ea | apply Eb | apply Ec | apply Ed)
            refine W_region fun K hK => ?_
            simp only [KA, KB, KP, KQ, KM, simprocAttr, KT w, KI, hw.KF, htm, t3, g2N, hsal]
            refine hK _ _ ?_
            clear hK
            clear K
            repeat with_reducible (first | apply E0 | apply E1 | apply E2 | apply E3 | apply E4 | refine E5 (by decide) ?_ | apply E6 | apply E7 | apply E8 | apply E9 | apply Ea | apply Eb | apply Ec | apply Ed)
            refine W_region fun K hK => ?_
            simp only [KA, KB, KP, KQ, KM, reduceCtorEq, ↓reduceIte, Int.reduceLT, Int.reduceLE, Int.reduceAdd, Int.reduceSub, Int.reduceNeg, Int.reduceMul, Int.reduceToNat, Int.reduceEq, Int.reduceNe, Int.reduceGT, Int.reduceGE, Nat.reducePow, Nat.reduceAdd, Nat.reduceSub, Nat.reduceLT, Nat.reduceMul, Nat.reduceDiv, Nat.reduceEqDiff, Nat.reduceLeDiff, KT w, KI, hw.KF, htm, t3, g2N, mu, happ, g4N, ok4, b4, hnN4, lf4, cl4, splice]
            refine hK _ _ ?_
            clear hK
            clear K
            have k4 : Kr S S4 := ⟨ok4, by rw [b4, ← K2.base]; exact b2.symm, by have := K2.n; omega, fun q x hq hx hg => fr4 q x (by have := K2.n; omega) (fun g rows e h => hx _ _ _ _ h) (K2.get q x hq hx hg)⟩
            have r4 : Rd v' rv (R ++ [[.str [], .bool false, .str [], .int .i64 0, .int .i64 0, .int .i64 0, .nils, .nils, .int .i64 0, .int .i64 0]]) ⟨B.slots ++ [zs (some 0)], B.free, B.roots⟩ S4 :=
              ⟨ok4, b4, hmv, hRd2.rows.snoc ⟨.nils, .nils, rfl, .inl rfl, .inr (.inr ⟨rfl, rfl⟩)⟩, hRd2.rv.kp n4 fun q g rows e hq hg => fr4 q _ hq (fun g' rows' e' h => by cases h) hg⟩
            have r5 := r4.setRow hnN4 g4N (.row [v', .int .i64 (-1), rv] false)
            refine ⟨rfl, _, v', R ++ [[.str [], .bool false, .str [], .int .i64 0, .int .i64 0, .int .i64 0, .nils, .nils, .int .i64 0, .int .i64 0]], rfl, k4.set (o := N) (by omega) hnN4 _, by rw [St.setN]; omega, ?_, ?_, ?_, ?_, ?_, ?_⟩
            · rw [hf] at r5; exact r5
            · exact St.get_sete ok4 hnN4
            · rw [St.get_setn hnN4 (by omega)]; exact frr _ _ _ g2N2
            · rw [St.get_setn hnN4 (by omega)]; exact frr _ _ _ g2N3
            · rcases hkv2' with h | ⟨h1, o, g, rfl, h3, h4⟩
              · exact .inl h
              · have h5 := fr4 o _ h3 (fun g rows e h => by cases h) h4
                exact .inr ⟨h1, o, g, rfl, by rw [St.setN]; omega, by rw [St.get_setn hnN4 (fun e => by rw [e, g4N] at h5; cases h5)]; exact h5⟩
            · simp only [KA, KP, KQ, simprocAttr, KT w, KI, hw.KF, htm, t3, t6, t9]
              try simp
        rintro ex fr S3 ⟨rfl, tm, sv3, R3, rfl, K3, n3, hRd3, g3N, g3N2, g3N3, hkv3, htm, t3, t6, t9, t15⟩
        repeat with_reducible (first | apply E0 | apply E1 | apply E2 | apply E3 | apply E4 | refine E5 (by decide) ?_ | apply E6 | apply E7 | apply E8 | apply E9 | apply Ea | apply Eb | apply Ec | apply Ed)
        have ok3 := hRd3.ok
        have b3 := hRd3.base
        have hnN' : N < S3.n := by omega
        have hnN2' : N + 2 < S3.n := by omega
        obtain ⟨zrow, hzrow, hzr⟩ := hRd3.rows.2 i z hz1
        have hzl := hzr.len
        have hzd : zrow.drop 10 = [] := List.drop_eq_nil_of_le (by omega)
        rcases hRd3.sv with ⟨hR0, -⟩ | ⟨so, sg, rfl, hso, hsg⟩
        · rw [hR0] at hzrow; simp at hzrow
        have hi1 : (i : Int) < (R3.length : Int) := by have := (List.getElem?_eq_some_iff.1 hzrow).1; omega
        have hi0 : (0 : Int) ≤ (i : Int) := by omega
        refine W_region fun K hK => ?_
        simp only [KA, KB, KP, KQ, KM, simprocAttr, KT w, KI, hw.KF, htm, t9, g3N3, ok3, b3, n3, splice]
        refine hK _ _ ?_
        clear hK
        clear K
        repeat with_reducible (first | apply E0 | apply E1 | apply E2 | apply E3 | apply E4 | refine E5 (by decide) ?_ | apply E6 | apply E7 | apply E8 | apply E9 | apply Ea | apply Eb | apply Ec | apply Ed)
        obtain ⟨NR, hNR⟩ : ∃ NR : List AV, [AV.str k, AV.bool nm, AV.str fl, AV.int IntKind.i64 (w64 (a - base)), AV.int IntKind.i64 (w64 (b - base)), AV.int IntKind.i64 d, AV.nils, kv, AV.int IntKind.i64 (-1), AV.int IntKind.i64 (-1)] = NR := ⟨_, rfl⟩
        have hNRr : SrRow ⟨K.1, K.2, -1, none⟩ NR := by
          rw [← hNR, ← hK]
          exact ⟨.nils, kv, rfl, .inl rfl, hkv3.isK⟩
        have hK2 : K.2 = l := by rw [← hK]
        have hg7 : NR[7]? = some kv := by rw [← hNR]; rfl
        have hNRl := hNRr.len
        have hNRt : NR.take 10 = NR := List.take_of_length_le (by omega)
        rw [hNR]
        have hRd4 := hRd3.setRow n3 g3N3 (.row NR false)
        have K4 := K3.set (o := N + 3) (by omega) n3 (.row NR false)
        have oth : ∀ q y, q ≠ N + 3 → S3.get q = some y → (S3.set (N + 3) (.row NR false)).get q = some y := fun q y hq hg => by rw [St.get_setn n3 hq]; exact hg
        have g4N3 : (S3.set (N + 3) (.row NR false)).get (N + 3) = _ := St.get_sete ok3 n3
        have g4N := oth _ _ (by omega) g3N
        have g4N2 := oth _ _ (by omega) g3N2
        have g4s := oth _ _ (fun e => by rw [e, g3N3] at hsg; cases hsg) hsg
        have n4 : (S3.set (N + 3) (.row NR false)).n = S3.n := St.setN _ _ _
        generalize S3.set (N + 3) (.row NR false) = S4 at *
        clear hkv3 g3N3 g3N2 g3N hsg oth hkv2' g2N g2N2 g2N3 hRd2 K2 gZ hsn hRd3 K3 ok3 b3 hsal
        have ok4 := hRd4.ok
        have b4 := hRd4.base
        have hso4 : so < S4.n := by omega
        refine W_region fun K hK => ?_
        simp only [KA, KB, KP, KQ, KM, simprocAttr, KT w, KI, hw.KF, htm, t3, t9, t15, g4N, g4N3, g4s, hi0, hi1, hzrow, hzl, hzd, hNRl, hNRt, ok4, b4, hso4, splice]
        refine hK _ _ ?_
        clear hK
        clear K
        repeat with_reducible (first | apply E0 | apply E1 | apply E2 | apply E3 | apply E4 | refine E5 (by decide) ?_ | apply E6 | apply E7 | apply E8 | apply E9 | apply Ea | apply Eb | apply Ec | apply Ed)
        have hRd5 := hRd4.put hso4 g4s (x := i) (s' := ⟨K.1, K.2, -1, none⟩) (row' := NR) hNRr
        have K5 := K4.seq hso4 g4s (.seq sg 10 (R3.set i NR) 0)
        have oth : ∀ q cs lk, S4.get q = some (.row cs lk) → (S4.set so (.seq sg 10 (R3.set i NR) 0)).get q = some (.row cs lk) := fun q cs lk hg => by rw [St.get_setn hso4 (fun e => by rw [e, g4s] at hg; cases hg)]; exact hg
        have g5N := oth _ _ _ g4N
        have g5N2 := oth _ _ _ g4N2
        have g5N3 := oth _ _ _ g4N3
        have n5 : (S4.set so (.seq sg 10 (R3.set i NR) 0)).n = S4.n := St.setN _ _ _
        generalize S4.set so (.seq sg 10 (R3.set i NR) 0) = S5 at *
        clear oth g4N g4N2 g4N3 g4s hRd4 K4 ok4 b4 hso4
        have hRB1 : RB c' (B1.slots.set i ⟨K.1, K.2, -1, none⟩) := fun j t hjt => by
          by_cases e1 : i = j
          · subst e1
            rw [List.getElem?_set_self (List.getElem?_eq_some_iff.1 hz1).1] at hjt; cases hjt
            simp only; omega
          · rw [List.getElem?_set_ne e1, hrmo j (Ne.symm e1)] at hjt
            exact hRB j t hjt
        have hneg : ∀ (j : Nat) (t : Sl), (B1.slots.set i ⟨K.1, K.2, -1, none⟩)[j]? = some t → -1 ≤ t.refs := fun j t hjt => by
          by_cases e1 : i = j
          · subst e1
            rw [List.getElem?_set_self (List.getElem?_eq_some_iff.1 hz1).1] at hjt; cases hjt
            simp only; omega
          · rw [List.getElem?_set_ne e1, hrmo j (Ne.symm e1)] at hjt
            by_cases h0 : t.refs < 0
            · have := (hB.neg j t hjt h0).1; omega
            · omega
        obtain ⟨SL, hSL⟩ : ∃ SL, B1.slots.set i ⟨K.1, K.2, -1, none⟩ = SL := ⟨_, rfl⟩
        rw [hSL] at hRB1 hneg hQ hRd5
        rw [hK2] at hQ
        have husedL : ∀ x ∈ l, ∃ s, SL[x]? = some s ∧ s.refs ≠ 0 := fun x hx => by
          obtain ⟨s, q1, q2⟩ := isL_used hIL hx
          have hxi : i ≠ x := fun e1 => by subst e1; exact q2 (hri s q1)
          exact ⟨s, by rw [← hSL, List.getElem?_set_ne hxi, hrmo x (Ne.symm hxi)]; exact q1, q2⟩
        refine W_region fun K hK => ?_
        simp only [KA, KB, KP, KQ, KM, simprocAttr, KT w, KI, hw.KF, htm]
        refine hK _ _ ?_
        clear hK
        clear K
        repeat with_reducible (first | apply E0 | apply E1 | apply E2 | apply E3 | apply E4 | refine E5 (by decide) ?_ | apply E6 | apply E7 | apply E8 | apply E9 | apply Ea | apply Eb | apply Ec | apply Ed)
        refine W_loop (fun k0 fr T => ∃ (tm : List AV) (j : Nat) (R : Rows), fr = ⟨tm, [], none, 34⟩ ∧ k0 = l.length - j ∧ j ≤ l.length ∧ Rd (.sref so sg 0 R3.length) rv R ⟨(l.take j).foldl refS SL, B1.free, B1.roots⟩ T ∧ Kr S T ∧ N + 3 < T.n ∧
            T.get N = some (.row [.sref so sg 0 R3.length, .int .i64 (optI B1.free), rv] false) ∧ T.get (N + 2) = some (.row [.nils, .int .i64 0, .nils] false) ∧ T.get (N + 3) = some (.row NR false) ∧
            tm.length = 137 ∧ tget tm 3 = .ptr N 0 ∧ tget tm 6 = .ptr (N + 2) 0 ∧ tget tm 9 = .ptr (N + 3) 0 ∧ tget tm 15 = .int .i64 (i : Nat) ∧ tget tm 16 = .int .i64 (j : Nat)) l.length
          ⟨_, 0, _, rfl, by omega, by omega, by rw [List.take_zero]; exact hRd5, K5, by omega, g5N, g5N2, g5N3, ?_⟩ ?_
        · simp only [KA, KP, KQ, simprocAttr, KT w, KI, hw.KF, htm, t3, t6, t9, t15, Int.ofNat_zero]
          try simp
        clear htm t3 t6 t9 t15 g5N g5N2 g5N3 hRd5 K5 n5
        rintro k0 fr T ⟨tm, j, R, rfl, rfl, hj, hRdj, KrT, hnT, gN, gN2, gN3, htm, t3, t6, t9, t15, t16⟩
        have okT := hRdj.ok
        have bT := hRdj.base
        repeat with_reducible (first | apply E0 | apply E1 | apply E2 | apply E3 | apply E4 | refine E5 (by decide) ?_ | apply E6 | apply E7 | apply E8 | apply E9 | apply Ea | apply Eb | apply Ec | apply Ed)
        by_cases hjl2 : (j : Int) < (l.length : Int)
        case neg =>
          have hje2 : j = l.length := by omega
          rw [hje2, List.take_length] at hRdj
          have hnT2 : N + 2 < T.n := by omega
          have gZ : ∀ X, (T.set (N + 2) X).get (N + 2) = some X := fun X => St.get_sete okT hnT2
          refine W_region fun K hK => ?_
          simp only [KA, KB, KP, KQ, KM, simprocAttr, KT w, KI, hw.KF, htm, t9, t16, gN3, hg7, hNRl, hkal, hjl2]
          refine hK _ _ ?_
          clear hK
          clear K
          repeat with_reducible (first | apply E0 | apply E1 | apply E2 | apply E3 | apply E4 | refine E5 (by decide) ?_ | apply E6 | apply E7 | apply E8 | apply E9 | apply Ea | apply Eb | apply Ec | apply Ed)
          refine W_condF (by simp only [KA, KP, KQ, simprocAttr, KT w, KI, hw.KF, htm]) ?_
          repeat with_reducible (first | apply E0 | apply E1 | apply E2 | apply E3 | apply E4 | refine E5 (by decide) ?_ | apply E6 | apply E7 | apply E8 | apply E9 | apply Ea | apply Eb | apply Ec | apply Ed)
          refine W_region fun K hK => ?_
          simp only [KA, KB, KP, KQ, KM, simprocAttr, KT w, KI, hw.KF, htm, t3, t6, t15, gN, gN2, okT, bT, hnT2, splice]
          refine hK _ _ ?_
          clear hK
          clear K
          repeat with_reducible (first | apply E0 | apply E1 | apply E2 | apply E3 | apply E4 | refine E5 (by decide) ?_ | apply E6 | apply E7 | apply E8 | apply E9 | apply Ea | apply Eb | apply Ec | apply Ed)
          refine AtEnd_of rfl ?_
          simp only [KA, KP, KQ, simprocAttr, KT w, KI, hw.KF, htm, t6, gZ, RS_some, aresults_nil, aresults_tmp, aresults_cell, one]
          subst hQ
          exact ⟨KrT.set (by omega) hnT2 _, _, _, _, rfl, hRdj.setRow hnT2 gN2 _⟩
        have hjn2 : j < l.length := by omega
        obtain ⟨x, hx⟩ : ∃ x, l[j]? = some x := ⟨_, List.getElem?_eq_getElem hjn2⟩
        have hxl := List.mem_of_getElem? hx
        have hj0 : (0 : Int) ≤ (j : Int) := by omega
        have hkvo : ∃ o g, kv = .own (ks l) o g ∨ kv = .vec (ks l) := by
          have := hNRr
          rw [← hNR] at this
          obtain ⟨c6, c7, he, -, h7⟩ := this
          simp only [slD, List.cons.injEq] at he
          obtain ⟨-, -, -, -, -, -, -, rfl, -⟩ := he
          rw [hK2] at h7
          rcases h7 with h | ⟨_, o, g, h⟩ | ⟨h, _⟩
          · exact ⟨0, 0, .inr h⟩
          · exact ⟨o, g, .inl h⟩
          · have h' : l = [] := h
            rw [h'] at hjn2; simp at hjn2
        obtain ⟨s0, hs0, hs0r⟩ := husedL x hxl
        have hsj := refL_get (l.take j) SL x
        rw [hs0, Option.map_some] at hsj
        obtain ⟨s, hs⟩ : ∃ s, (if x ∈ l.take j then { s0 with refs := max s0.refs 0 + ((l.take j).count x : Nat) } else s0) = s := ⟨_, rfl⟩
        rw [hs] at hsj
        have hsr : -1 ≤ s.refs := by
          rw [← hs]
          split
          · simp only; omega
          · exact hneg x s0 hs0
        have hsb : s.refs ≤ c' + (l.take j).length := RB.refL hc0' hRB1 (l.take j) x s hsj
        rw [List.length_take] at hsb
        have ej : IntKind.i64.wrap ((j : Int) + 1) = ((j + 1 : Nat) : Int) := by rw [i64_in _ (by omega)]; omega
        obtain ⟨v, S6, hc6, rfl, K6, R6, hRd6⟩ := refer36 hw hRdj hsj hsr (by omega)
        have hcall : callF (cfg w) (lim (cfg w)) 36 [.agg [.sref so sg 0 R3.length, .int .i64 (optI B1.free), rv], .int .i64 (x : Nat)] T = some (.agg [.sref so sg 0 R3.length, .int .i64 (optI B1.free), rv], S6) := by
          rw [callF_raw (by exact hw.e36) (by exact hw.m36)]; exact hc6
        have g6N := K6.get _ _ (by omega) (fun g es rows e h => by cases h) gN
        have g6N2 := K6.get _ _ (by omega) (fun g es rows e h => by cases h) gN2
        have g6N3 := K6.get _ _ hnT (fun g es rows e h => by cases h) gN3
        have ok6 := hRd6.ok
        have b6 := hRd6.base
        have n6 := K6.n
        have hn6 : N < S6.n := by omega
        have hks : (ks l)[j]? = some [.int .i64 (x : Nat)] := by rw [ks_get, hx]; rfl
        have hjk : (j : Int) < ((ks l).length : Int) := by rw [ks_len]; exact hjl2
        have htk2 : l.take (j + 1) = l.take j ++ [x] := by rw [List.take_add_one, hx]; rfl
        have hset : S6.set N (.row [.sref so sg 0 R3.length, .int .i64 (optI B1.free), rv] false) = S6 := by
          refine St.ext_get ok6 (St.ok_set ok6) rfl rfl fun q => ?_
          by_cases e1 : q = N
          · rw [e1, St.get_sete ok6 hn6, g6N]
          · rw [St.get_setn hn6 e1]
        refine W.mono (Q := fun ex fr S' => ex = .nrm ∧ S' = T ∧ ∃ (tm : List AV), fr = ⟨tm, [], none, 34⟩ ∧ tm.length = 137 ∧ tget tm 3 = .ptr N 0 ∧ tget tm 6 = .ptr (N + 2) 0 ∧ tget tm 9 = .ptr (N + 3) 0 ∧ tget tm 15 = .int .i64 (i : Nat) ∧ tget tm 16 = .int .i64 (j : Nat) ∧ tget tm 125 = .bool true) ?_ ?_
        · refine W_region fun K hK => ?_
          simp only [KA, KB, KP, KQ, KM, simprocAttr, KT w, KI, hw.KF, htm, t9, t16, gN3, hg7, hNRl, hkal, hjl2]
          refine hK _ _ ?_
          clear hK
          clear K
          refine ⟨rfl, rfl, _, rfl, ?_⟩
          simp only [KA, KP, KQ, simprocAttr, KT w, KI, hw.KF, htm, t3, t6, t9, t15, t16]
        rintro ex fr T7 ⟨rfl, rfl, tm, rfl, htm, t3, t6, t9, t15, t16, t125⟩
        repeat with_reducible (first | apply E0 | apply E1 | apply E2 | apply E3 | apply E4 | refine E5 (by decide) ?_ | apply E6 | apply E7 | apply E8 | apply E9 | apply Ea | apply Eb | apply Ec | apply Ed)
        refine W_condT (by simp only [KA, KP, KQ, simprocAttr, KT w, KI, hw.KF, htm, t125]) ?_
        repeat with_reducible (first | apply E0 | apply E1 | apply E2 | apply E3 | apply E4 | refine E5 (by decide) ?_ | apply E6 | apply E7 | apply E8 | apply E9 | apply Ea | apply Eb | apply Ec | apply Ed)
        have hcall' : callF (cfg w) (lim (cfg w)) 36 [.agg [.sref so sg 0 R3.length, .int .i64 (optI B1.free), rv], .int .i64 (x : Nat)] T7 = some (.agg [.sref so sg 0 R3.length, .int .i64 (optI B1.free), rv], S6) := hcall
        have hoX := @opX_raw (cfg w) (lim (cfg w)) 34 31 (fn := 36) (he := hw.e36) (hm := hw.m36)
        refine W.mono (Q := fun ex fr S' => ex = .nrm ∧ S' = S6 ∧ ∃ (tm : List AV), fr = ⟨tm, [], none, 34⟩ ∧ tm.length = 137 ∧ tget tm 3 = .ptr N 0 ∧ tget tm 6 = .ptr (N + 2) 0 ∧ tget tm 9 = .ptr (N + 3) 0 ∧ tget tm 15 = .int .i64 (i : Nat) ∧ tget tm 16 = .int .i64 (j : Nat)) ?_ ?_
        · obtain ⟨o, g, rfl | rfl⟩ := hkvo
          · refine W_regionD [[], [], [1], [], [2, 1, 3], [4, 2, 1, 3], [0, 5, 4, 2, 1, 3], [6, 0, 5, 4, 2, 1, 3]] (by decide +kernel) (by decide +kernel) (by decide +kernel) fun K hK => ?_
            simp only [KA, KB, KP, KQ, KM, simprocAttr, KT w, KI, hw.KF, A58, A59, A5a, A5b, A5c, A5d, A5e, A5f, A5g, A5h, KX, Foot.big, A5i, opP, rfoot, refsO, refs, wfoot, A5j, A5k, noisyOk, pairOk, Foot.isQuiet, Foot.apart, Ft.apart, Foot.none, A5l, A5m, A48, A49, A5n, A5o, A5p, A5q, Nat.reduceBEq, htm, t3, t9, t16, gN, gN3, hg7, hNRl, hj0, hjl2, hx, ks_get, ks_len, hoX, hcall', g6N, ok6, b6, hn6, hset, splice]
            refine hK _ _ ?_
            clear hK
            clear K
            refine ⟨rfl, rfl, _, rfl, ?_⟩
            simp only [KA, KP, KQ, simprocAttr, KT w, KI, hw.KF, htm, t3, t6, t9, t15, t16]
          · refine W_regionD [[], [], [1], [], [2, 1, 3], [4, 2, 1, 3], [0, 5, 4, 2, 1, 3], [6, 0, 5, 4, 2, 1, 3]] (by decide +kernel) (by decide +kernel) (by decide +kernel) fun K hK => ?_
            simp only [KA, KB, KP, KQ, KM, simprocAttr, KT w, KI, hw.KF, A58, A59, A5a, A5b, A5c, A5d, A5e, A5f, A5g, A5h, KX, Foot.big, A5i, opP, rfoot, refsO, refs, wfoot, A5j, A5k, noisyOk, pairOk, Foot.isQuiet, Foot.apart, Ft.apart, Foot.none, A5l, A5m, A48, A49, A5n, A5o, A5p, A5q, Nat.reduceBEq, htm, t3, t9, t16, gN, gN3, hg7, hNRl, hj0, hjl2, hx, ks_get, ks_len, hoX, hcall', g6N, ok6, b6, hn6, hset, splice]
            refine hK _ _ ?_
            clear hK
            clear K
            refine ⟨rfl, rfl, _, rfl, ?_⟩
            simp only [KA, KP, KQ, simprocAttr, KT w, KI, hw.KF, htm, t3, t6, t9, t15, t16]
        clear htm t3 t6 t9 t15 t16 t125
        rintro ex fr S7 ⟨rfl, rfl, tm, rfl, htm, t3, t6, t9, t15, t16⟩
        repeat with_reducible (first | apply E0 | apply E1 | apply E2 | apply E3 | apply E4 | refine E5 (by decide) ?_ | apply E6 | apply E7 | apply E8 | apply E9 | apply Ea | apply Eb | apply Ec | apply Ed)
        refine W_region fun K hK => ?_
        simp only [KA, KB, KP, KQ, KM, simprocAttr, KT w, KI, hw.KF, htm, t16, ej]
        refine hK _ _ ?_
        clear hK
        clear K
        refine ⟨l.length - (j + 1), by omega, _, j + 1, R6, rfl, rfl, by omega, ?_, KrT.trans K6, by omega, g6N, g6N2, g6N3, ?_⟩
        · rw [htk2, List.foldl_append, List.foldl_cons, List.foldl_nil]; exact hRd6
        · simp only [KA, KP, KQ, simprocAttr, KT w, KI, hw.KF, htm, t3, t6, t9, t15]
          try simp
    have hjn : j < B.slots.length := by omega
    obtain ⟨s, hs⟩ : ∃ s, B.slots[j]? = some s := ⟨_, List.getElem?_eq_getElem hjn⟩
    obtain ⟨xrow, hxrow, hxr⟩ := hRd2.rows.2 j s hs
    rcases hRd2.sv with ⟨hR0, -⟩ | ⟨so, sg, rfl, hso, hsg⟩
    · rw [hR0] at hxrow; simp at hxrow
    have p42 := holdsR hw hxr hsn (by have := hKL j s hs; omega) (by simp only; omega)
    rw [hkk] at p42
    have xl := hxr.len
    have xt : xrow.take 10 = xrow := List.take_of_length_le (by omega)
    have xn := hxr.nrm
    have x8 : xrow[8]? = some (.int .i64 s.refs) := by obtain ⟨_, _, rfl, _⟩ := hxr; rfl
    have yl := hsn.len
    have yn := hsn.nrm
    have hx0 : (0 : Int) ≤ (j : Int) := by omega
    have hx1 : (j : Int) < (R.length : Int) := by rw [hRd2.rows.1]; exact hjl
    generalize [AV.str k, AV.bool nm, AV.str fl, AV.int .i64 (w64 (a - base)), AV.int .i64 (w64 (b - base)), AV.int .i64 d, AV.nils, kv, AV.int .i64 0, AV.int .i64 (-1)] = Y at *
    have yt : Y.take 10 = Y := List.take_of_length_le (by omega)
    refine W_region fun K hK => ?_
    simp only [KA, KB, KP, KQ, KM, simprocAttr, KT w, KI, hw.KF, htm, t3, t14, g2N, hsal, hjl]
    refine hK _ _ ?_
    clear hK
    clear K
    repeat with_reducible (first | apply E0 | apply E1 | apply E2 | apply E3 | apply E4 | refine E5 (by decide) ?_ | apply E6 | apply E7 | apply E8 | apply E9 | apply Ea | apply Eb | apply Ec | apply Ed)
    refine W_condT (by simp only [KA, KP, KQ, simprocAttr, KT w, KI, hw.KF, htm]) ?_
    repeat with_reducible (first | apply E0 | apply E1 | apply E2 | apply E3 | apply E4 | refine E5 (by decide) ?_ | apply E6 | apply E7 | apply E8 | apply E9 | apply Ea | apply Eb | apply Ec | apply Ed)
    have ej : IntKind.i64.wrap ((j : Int) + 1) = ((j + 1 : Nat) : Int) := by rw [i64_in _ (by omega)]; omega
    by_cases h0 : s.refs = 0
    · refine W_regionQ (by decide +kernel) fun K hK => ?_
      simp only [KA, KB, KP, KQ, KM, simprocAttr, KT w, KI, hw.KF, htm, t3, t9, t14, g2N, g2N3, hsg, hx0, hx1, hxrow, x8, xl, h0]
      refine hK _ _ ?_
      clear hK
      clear K
      repeat with_reducible (first | apply E0 | apply E1 | apply E2 | apply E3 | apply E4 | refine E5 (by decide) ?_ | apply E6 | apply E7 | apply E8 | apply E9 | apply Ea | apply Eb | apply Ec | apply Ed)
      refine W_condF (by simp only [KA, KP, KQ, simprocAttr, KT w, KI, hw.KF, htm]) ?_
      repeat with_reducible (first | apply E0 | apply E1 | apply E2 | apply E3 | apply E4 | refine E5 (by decide) ?_ | apply E6 | apply E7 | apply E8 | apply E9 | apply Ea | apply Eb | apply Ec | apply Ed)
      refine W_region fun K hK => ?_
      simp only [KA, KB, KP, KQ, KM, simprocAttr, KT w, KI, hw.KF, htm, t14, ej]
      refine hK _ _ ?_
      clear hK
      clear K
      refine ⟨B.slots.length - (j + 1), by omega, _, j + 1, rfl, rfl, rfl, by omega, fun i t hi ht h1 => ?_, ?_⟩
      · by_cases e : i = j
        · subst e; rw [hs] at ht; cases ht; exact absurd h0 h1
        · exact hbef i t (by omega) ht h1
      · simp only [KA, KP, KQ, simprocAttr, KT w, KI, hw.KF, htm, t3, t6, t7, t8, t9]
        try simp
    by_cases hk2 : s.key = K
    · have hlk := look_first hs h0 hk2 hbef
      rw [place, hlk] at hQ
      simp only at hQ
      subst hQ
      refine W_regionQ (by decide +kernel) fun K hK => ?_
      simp only [KA, KB, KP, KQ, KM, simprocAttr, KT w, KI, hw.KF, htm, t3, t9, t14, g2N, g2N3, hsg, hx0, hx1, hxrow, x8, xl, xt, xn, yl, yt, yn, p42, hk2, h0]
      refine hK _ _ ?_
      clear hK
      clear K
      repeat with_reducible (first | apply E0 | apply E1 | apply E2 | apply E3 | apply E4 | refine E5 (by decide) ?_ | apply E6 | apply E7 | apply E8 | apply E9 | apply Ea | apply Eb | apply Ec | apply Ed)
      refine W_condT (by simp only [KA, KP, KQ, simprocAttr, KT w, KI, hw.KF, htm]) ?_
      repeat with_reducible (first | apply E0 | apply E1 | apply E2 | apply E3 | apply E4 | refine E5 (by decide) ?_ | apply E6 | apply E7 | apply E8 | apply E9 | apply Ea | apply Eb | apply Ec | apply Ed)
      have hnN2 : N + 2 < T'.n := by omega
      have gZ : ∀ X, (T'.set (N + 2) X).get (N + 2) = some X := fun X => St.get_sete ok2 hnN2
      refine W_region fun K hK => ?_
      simp only [KA, KB, KP, KQ, KM, simprocAttr, KT w, KI, hw.KF, htm, t3, t6, t14, g2N, g2N2, ok2, b2, hnN2, splice]
      refine hK _ _ ?_
      clear hK
      clear K
      repeat with_reducible (first | apply E0 | apply E1 | apply E2 | apply E3 | apply E4 | refine E5 (by decide) ?_ | apply E6 | apply E7 | apply E8 | apply E9 | apply Ea | apply Eb | apply Ec | apply Ed)
      refine AtEnd_of rfl ?_
      simp only [KA, KP, KQ, simprocAttr, KT w, KI, hw.KF, htm, t6, gZ, RS_some, aresults_nil, aresults_tmp, aresults_cell, one]
      exact ⟨K2.set (by omega) hnN2 _, _, _, _, rfl, hRd2.setRow hnN2 g2N2 _⟩
    · refine W_regionQ (by decide +kernel) fun K hK => ?_
      simp only [KA, KB, KP, KQ, KM, simprocAttr, KT w, KI, hw.KF, htm, t3, t9, t14, g2N, g2N3, hsg, hx0, hx1, hxrow, x8, xl, xt, xn, yl, yt, yn, p42, hk2, h0]
      refine hK _ _ ?_
      clear hK
      clear K
      repeat with_reducible (first | apply E0 | apply E1 | apply E2 | apply E3 | apply E4 | refine E5 (by decide) ?_ | apply E6 | apply E7 | apply E8 | apply E9 | apply Ea | apply Eb | apply Ec | apply Ed)
      refine W_condF (by simp only [KA, KP, KQ, simprocAttr, KT w, KI, hw.KF, htm]) ?_
      repeat with_reducible (first | apply E0 | apply E1 | apply E2 | apply E3 | apply E4 | refine E5 (by decide) ?_ | apply E6 | apply E7 | apply E8 | apply E9 | apply Ea | apply Eb | apply Ec | apply Ed)
      refine W_region fun K hK => ?_
      simp only [KA, KB, KP, KQ, KM, simprocAttr, KT w, KI, hw.KF, htm, t14, ej]
      refine hK _ _ ?_
      clear hK
      clear K
      refine ⟨B.slots.length - (j + 1), by omega, _, j + 1, rfl, rfl, rfl, by omega, fun i t hi ht h1 => ?_, ?_⟩
      · by_cases e : i = j
        · subst e; rw [hs] at ht; cases ht; exact hk2
        · exact hbef i t (by omega) ht h1
      · simp only [KA, KP, KQ, simprocAttr, KT w, KI, hw.KF, htm, t3, t6, t7, t8, t9]
        try simp
  have hjn : j < kids.length := by omega
  obtain ⟨x, hx⟩ : ∃ x, kids[j]? = some x := ⟨_, List.getElem?_eq_getElem hjn⟩
  have hxm := List.mem_of_getElem? hx
  have hd : kids.drop j = x :: kids.drop (j + 1) := by
    rw [List.drop_eq_getElem_cons hjn]
    rw [List.getElem?_eq_getElem hjn] at hx
    simp only [Option.some.injEq] at hx; rw [hx]
  have htk : kids.take (j + 1) = kids.take j ++ [x] := by rw [List.take_add_one, hx]; rfl
  rw [hd, nnL] at hcb
  rw [hd, layL] at hrest
  have hrow : (Node.rows kids)[j]? = some x.cells := by rw [Node.rows_get, hx]; rfl
  have hj0 : (0 : Int) ≤ (j : Int) := by omega
  have hxc : x.cells.length = 7 := Node.cells_len x
  have hxt : x.cells.take 7 = x.cells := Node.cells_take x
  have hxd : x.cells.drop 7 = [] := Node.cells_drop x
  refine W_region fun K hK => ?_
  simp only [KA, KB, KP, KQ, KM, simprocAttr, KT w, KI, hw.KF, htm, t4, t10, gN1, hrl, hjl]
  refine hK _ _ ?_
  clear hK
  clear K
  repeat with_reducible (first | apply E0 | apply E1 | apply E2 | apply E3 | apply E4 | refine E5 (by decide) ?_ | apply E6 | apply E7 | apply E8 | apply E9 | apply Ea | apply Eb | apply Ec | apply Ed)
  refine W_condT (by simp only [KA, KP, KQ, simprocAttr, KT w, KI, hw.KF, htm]) ?_
  repeat with_reducible (first | apply E0 | apply E1 | apply E2 | apply E3 | apply E4 | refine E5 (by decide) ?_ | apply E6 | apply E7 | apply E8 | apply E9 | apply Ea | apply Eb | apply Ec | apply Ed)
  have hraw : ∀ f ∈ [34], rawB (cfg w) f = (f == 34) := fun f hf => by
    obtain rfl := List.mem_singleton.1 hf
    simp [rawB, cfgP_ext, cfgP_mode, hw.e34, hw.m34]
  refine W_regionR [[], [], [1], [], [2, 1, 3], [4, 2, 1, 3], [], [6], [0, 5, 4, 2, 1, 3, 7, 6], [8, 0, 5, 4, 2, 1, 3, 7, 6], [9, 8, 0, 5, 4, 2, 1, 3, 7, 6], [9, 8, 0, 5, 4, 2, 1, 3, 7, 6], [9, 8, 0, 5, 4, 2, 1, 3, 7, 6], [], [13, 10, 9, 8, 0, 5, 4, 2, 1, 3, 7, 6], [11, 9, 8, 0, 5, 4, 2, 1, 3, 7, 6, 14, 13, 10], [12, 9, 8, 0, 5, 4, 2, 1, 3, 7, 6, 15, 11, 14, 13, 10]] [13] [T.n]
    (by decide +kernel) (by decide +kernel) (by decide +kernel) ((resvd_eq (· == 34) [34] (by decide +kernel) hraw).trans (by decide +kernel)) (by simp)
    (by rw [aside_eq (· == 34) [34] [] (by decide +kernel) hraw (by decide +kernel)]; simp [placesOf]) hok fun Q' hQ' => ?_
  have hRd1 := hRd.push .dead
  have g1 : ∀ q y, q < T.n → T.get q = some y → (T.push .dead).get q = some y := fun q y hq hy => by rw [St.get_pushn (by omega)]; exact hy
  have g1N := g1 _ _ (by omega) gN
  have g1N1 := g1 _ _ (by omega) gN1
  have g1N2 := g1 _ _ (by omega) gN2
  have g1N3 := g1 _ _ (by omega) gN3
  have g1x : (T.push .dead).get T.n = some .dead := St.get_pushe
  have n1 : (T.push .dead).n = T.n + 1 := St.pushN _ _
  have K1 : Kr T (T.push .dead) := (Kr.refl hok).push _
  have hkv1 := hkv.kr K1
  have hT1 : T.pushD [13].length = T.push .dead := rfl
  rw [hT1]
  obtain ⟨M, hM⟩ : ∃ M, T.n = M := ⟨_, rfl⟩
  rw [hM] at g1x n1 ⊢
  generalize T.push .dead = T1 at *
  have ok1 := hRd1.ok
  have b1 := hRd1.base
  have hnx : 1 ≤ nn x := by cases x; rw [nn]; omega
  obtain ⟨v, S2, hc2, K2, hQ2⟩ := ih x hxm a B p' c' T1 sv rv R hB hRB hKL hc0' (by omega) hRd1
  simp only [KA, KB, KP, KQ, KM, simprocAttr, KT w, KI, hw.KF, RR_step, RRa_some, RRa_none, rfoot, refsO, refs, A5j, A5k, A5n, A5o, Nat.reduceBEq, A2w, A2x, htm, t3, t4, t10, g1N, g1N1, hrl, hj0, hjl, hrow, hxc, hxt, hxd]
  have g2d : S2.get M = some .dead := K2.get M _ (by omega) (fun g es rows e h => by cases h) g1x
  have ok2 := K2.ok
  have b2 : S2.base = 0 := by rw [K2.base]; exact b1
  obtain ⟨c0, c1, c2, vi, ve, rfl⟩ : ∃ c0 c1 c2 vi ve, v = .tup [.agg [c0, c1, c2], .int .i64 vi, .int .i64 ve] := by
    cases hl : lay x a B with
    | none => rw [hl] at hQ2; obtain ⟨c0, c1, c2, h⟩ := hQ2; exact ⟨_, _, _, _, _, h⟩
    | some q => rw [hl] at hQ2; obtain ⟨sv', rv', R', h, _⟩ := hQ2; exact ⟨_, _, _, _, _, h⟩
  refine RR_raw (S2 := S2) (v := .tup [.agg [c0, c1, c2], .int .i64 vi, .int .i64 ve]) (al := [.agg [sv, .int .i64 (optI B.free), rv], .agg x.cells, .int .i64 a]) rfl (by simp) (by exact hw.e34) (by exact hw.m34) (by simp only [KA, KB, KP, KQ, KM, reduceCtorEq, ↓reduceIte, Int.reduceLT, Int.reduceLE, Int.reduceAdd, Int.reduceSub, Int.reduceNeg, Int.reduceMul, Int.reduceToNat, Int.reduceEq, Int.reduceNe, Int.reduceGT, Int.reduceGE, Nat.reducePow, Nat.reduceAdd, Nat.reduceSub, Nat.reduceLT, Nat.reduceMul, Nat.reduceDiv, Nat.reduceEqDiff, Nat.reduceLeDiff, KT w, KI, hw.KF, htm])
    (by rw [kill_dead ok1 g1x]; exact hc2) (fun k hk => by rw [List.mem_singleton.1 hk]; exact g2d) ok2 ok1 ?_
  simp only
  rw [rest_dead ok2 g1x g2d]
  simp only [KA, KB, KP, KQ, KM, simprocAttr, KT w, KI, hw.KF, RR_step, RRa_some, RRa_none, rfoot, refsO, refs, A5j, A5k, A5n, A5o, Nat.reduceBEq, A2w, A2x, htm]
  refine RR_alloc (r := M) (z := [.nils, .int .i64 0, .nils]) (by simp [ridOf]) (Tc25 w) rfl g2d (by rw [b2]; exact Nat.zero_le _) ok2 ?_
  have nM : M < S2.n := St.get_lt g2d
  have gM : ∀ X, (S2.set M X).get M = some X := fun X => St.get_sete ok2 nM
  have oM : ∀ X, (S2.set M X).ok := fun X => St.ok_set ok2
  have bM : ∀ X, (S2.set M X).base = 0 := fun X => by rw [St.setB]; exact b2
  have n2M : ∀ X, (S2.set M X).n = S2.n := fun X => St.setN _ _ _
  have pM : ∀ X Y, (S2.set M X).putO M Y = some (S2.set M Y) := fun X Y => by rw [St.putO_base (by rw [bM]; exact Nat.zero_le _), set_set]
  refine RR_store (S1 := S2.set M (.row [c0, c1, c2] false)) rfl (by simp only [KA, KB, KP, KQ, KM, reduceCtorEq, ↓reduceIte, Int.reduceLT, Int.reduceLE, Int.reduceAdd, Int.reduceSub, Int.reduceNeg, Int.reduceMul, Int.reduceToNat, Int.reduceEq, Int.reduceNe, Int.reduceGT, Int.reduceGE, Nat.reducePow, Nat.reduceAdd, Nat.reduceSub, Nat.reduceLT, Nat.reduceMul, Nat.reduceDiv, Nat.reduceEqDiff, Nat.reduceLeDiff, KT w, KI, hw.KF, htm, gM, pM, splice]) (fun _ k hk => by rw [List.mem_singleton.1 hk, gM]; rfl) ?_
  simp only [KA, KB, KP, KQ, KM, simprocAttr, KT w, KI, hw.KF, RR_step, RRa_some, RRa_none, rfoot, refsO, refs, A5j, A5k, A5n, A5o, Nat.reduceBEq, A2w, A2x, htm]
  have dM : (M == N) = false := beq_eq_false_iff_ne.2 (by omega)
  have dM1 : (M == N + 1) = false := beq_eq_false_iff_ne.2 (by omega)
  refine RR_nile _ _ _ _ _ _ (by simp only [KA, KB, KP, KQ, KM, simprocAttr, KT w, KI, hw.KF, KX, Foot.big, rfoot, refsO, refs, wfoot, A5j, A5k, noisyOk, pairOk, Foot.isQuiet, Foot.apart, Ft.apart, Foot.none, A5l, A5m, A48, A49, A5n, A5o, A5p, A5q, Nat.reduceBEq, htm, dM, dM1]) ?_
  refine hQ' _ _ ?_
  clear hQ' Q'
  repeat with_reducible (first | apply E0 | apply E1 | apply E2 | apply E3 | apply E4 | refine E5 (by decide) ?_ | apply E6 | apply E7 | apply E8 | apply E9 | apply Ea | apply Eb | apply Ec | apply Ed)
  have g2 : ∀ q cs lk, q < M → T1.get q = some (.row cs lk) → (S2.set M (.row [c0, c1, c2] false)).get q = some (.row cs lk) := fun q cs lk hq hg => by
    rw [St.get_setn nM (by omega)]
    exact K2.get q _ (by omega) (fun g es rows e h => by cases h) hg
  have g3N := g2 N _ _ (by omega) g1N
  have g3N1 := g2 (N + 1) _ _ (by omega) g1N1
  have g3N2 := g2 (N + 2) _ _ (by omega) g1N2
  have g3N3 := g2 (N + 3) _ _ (by omega) g1N3
  have g3M := gM (.row [c0, c1, c2] false)
  have K3 := (K1.trans K2).set (o := M) (by omega) nM (.row [c0, c1, c2] false)
  have n3 := n2M (.row [c0, c1, c2] false)
  have hRd3 : ∀ sv rv R C, Rd sv rv R C S2 → Rd sv rv R C (S2.set M (.row [c0, c1, c2] false)) := fun sv rv R C h => h.keep (oM _) (bM _) (by rw [n3]; omega) fun q g es rows e hq hg => by
    rw [St.get_setn nM (fun e => by rw [e, g2d] at hg; cases hg)]; exact hg
  clear gM oM bM n2M pM g2
  generalize S2.set M (.row [c0, c1, c2] false) = S3 at *
  have ok3 := K3.ok
  have b3 : S3.base = 0 := by rw [K3.base]; exact hb
  have hnN2 : N + 2 < S3.n := by omega
  rcases lay_or x a B p' hB with ⟨hl0, -⟩ | ⟨i, C, hl1, hC, hleC, hIsC, hrC, -⟩
  · rw [hl0] at hQ2 hrest
    obtain ⟨d0, d1, d2, hv⟩ := hQ2
    simp only [AV.tup.injEq, List.cons.injEq, AV.int.injEq, AV.agg.injEq, and_true, true_and] at hv
    obtain ⟨-, rfl, rfl⟩ := hv
    simp only at hrest
    rw [hrest] at hQ
    simp only at hQ
    subst hQ
    have gZ : ∀ X, (S3.set (N + 2) X).get (N + 2) = some X := fun X => St.get_sete ok3 hnN2
    refine W_region fun K hK => ?_
    simp only [KA, KB, KP, KQ, KM, simprocAttr, KT w, KI, hw.KF, htm]
    refine hK _ _ ?_
    clear hK
    clear K
    repeat with_reducible (first | apply E0 | apply E1 | apply E2 | apply E3 | apply E4 | refine E5 (by decide) ?_ | apply E6 | apply E7 | apply E8 | apply E9 | apply Ea | apply Eb | apply Ec | apply Ed)
    refine W_condT (by simp only [KA, KP, KQ, simprocAttr, KT w, KI, hw.KF, htm]) ?_
    repeat with_reducible (first | apply E0 | apply E1 | apply E2 | apply E3 | apply E4 | refine E5 (by decide) ?_ | apply E6 | apply E7 | apply E8 | apply E9 | apply Ea | apply Eb | apply Ec | apply Ed)
    refine W_region fun K hK => ?_
    simp only [KA, KB, KP, KQ, KM, simprocAttr, KT w, KI, hw.KF, htm, t3, t6, g3N, g3N2, ok3, b3, hnN2, splice]
    refine hK _ _ ?_
    clear hK
    clear K
    repeat with_reducible (first | apply E0 | apply E1 | apply E2 | apply E3 | apply E4 | refine E5 (by decide) ?_ | apply E6 | apply E7 | apply E8 | apply E9 | apply Ea | apply Eb | apply Ec | apply Ed)
    refine AtEnd_of rfl ?_
    simp only [KA, KP, KQ, simprocAttr, KT w, KI, hw.KF, htm, t6, gZ, RS_some, aresults_nil, aresults_tmp, aresults_cell, one]
    exact ⟨(hKr.trans K3).set (by omega) hnN2 _, _, _, _, rfl⟩
  rw [hl1] at hQ2 hrest
  simp only at hrest
  obtain ⟨sv', rv', R', hv, hRd2⟩ := hQ2
  simp only [AV.tup.injEq, List.cons.injEq, AV.int.injEq, AV.agg.injEq, and_true, true_and] at hv
  obtain ⟨⟨rfl, rfl, rfl⟩, rfl, rfl⟩ := hv
  have hRd3' := hRd3 _ _ _ _ hRd2
  have hkv3 := hkv.kr K3
  have hnN : N < S3.n := by omega
  refine W_region fun K hK => ?_
  simp only [KA, KB, KP, KQ, KM, simprocAttr, KT w, KI, hw.KF, htm]
  refine hK _ _ ?_
  clear hK
  clear K
  repeat with_reducible (first | apply E0 | apply E1 | apply E2 | apply E3 | apply E4 | refine E5 (by decide) ?_ | apply E6 | apply E7 | apply E8 | apply E9 | apply Ea | apply Eb | apply Ec | apply Ed)
  refine W_condF (by simp only [KA, KP, KQ, simprocAttr, KT w, KI, hw.KF, htm]) ?_
  repeat with_reducible (first | apply E0 | apply E1 | apply E2 | apply E3 | apply E4 | refine E5 (by decide) ?_ | apply E6 | apply E7 | apply E8 | apply E9 | apply Ea | apply Eb | apply Ec | apply Ed)
  refine W_region fun K hK => ?_
  simp only [KA, KB, KP, KQ, KM, simprocAttr, KT w, KI, hw.KF, htm, t3, g3M, g3N, ok3, b3, hnN, splice]
  refine hK _ _ ?_
  clear hK
  clear K
  repeat with_reducible (first | apply E0 | apply E1 | apply E2 | apply E3 | apply E4 | refine E5 (by decide) ?_ | apply E6 | apply E7 | apply E8 | apply E9 | apply Ea | apply Eb | apply Ec | apply Ed)
  have K4 := (hKr.trans K3).set (o := N) (by omega) hnN (.row [c0, .int .i64 (optI C.free), c2] false)
  have hRd4 := hRd3'.setRow hnN g3N (.row [c0, .int .i64 (optI C.free), c2] false)
  have hkv4 : Ow (ks l) kv (S3.set N (.row [c0, .int .i64 (optI C.free), c2] false)) := by
    rcases hkv3 with h | ⟨h1, o, g, rfl, h3, h4⟩
    · exact .inl h
    · exact .inr ⟨h1, o, g, rfl, by rw [St.setN]; exact h3, by rw [St.get_setn hnN (fun e => by rw [e, g3N] at h4; cases h4)]; exact h4⟩
  have oth : ∀ q cs lk, q ≠ N → S3.get q = some (.row cs lk) → (S3.set N (.row [c0, .int .i64 (optI C.free), c2] false)).get q = some (.row cs lk) := fun q cs lk hq hg => by rw [St.get_setn hnN hq]; exact hg
  have g4N : (S3.set N (.row [c0, .int .i64 (optI C.free), c2] false)).get N = _ := St.get_sete ok3 hnN
  have g4N1 := oth _ _ _ (by omega) g3N1
  have g4N2 := oth _ _ _ (by omega) g3N2
  have g4N3 := oth _ _ _ (by omega) g3N3
  have n4 : (S3.set N (.row [c0, .int .i64 (optI C.free), c2] false)).n = S3.n := St.setN _ _ _
  generalize S3.set N (.row [c0, .int .i64 (optI C.free), c2] false) = S4 at *
  have ok4 := hRd4.ok
  have b4 := hRd4.base
  obtain ⟨kv', S5, hap, hkv5, ok5, b5, n5, lf5, cl5, fr5, aw5⟩ := app_ow (es := 1) (bytes := 8) [.int .i64 (i : Int)] hkv4 ok4 b4 rfl (ks_hd l) (by simp [capOk, ks]; omega)
  rw [ks_snoc] at hkv5
  have fr : ∀ q cs lk, S4.get q = some (.row cs lk) → S5.get q = some (.row cs lk) := fun q cs lk hg => fr5 _ _ (St.get_lt hg) (hkv4.aw hg (fun g h => by cases h)) hg
  have g5N := fr _ _ _ g4N
  have g5N1 := fr _ _ _ g4N1
  have g5N2 := fr _ _ _ g4N2
  have g5N3 := fr _ _ _ g4N3
  have hn5 : N + 3 < S5.n := by omega
  have mu9 := hr.mu34b
  refine W_region fun K hK => ?_
  simp only [KA, KB, KP, KQ, KM, reduceCtorEq, ↓reduceIte, Int.reduceLT, Int.reduceLE, Int.reduceAdd, Int.reduceSub, Int.reduceNeg, Int.reduceMul, Int.reduceToNat, Int.reduceEq, Int.reduceNe, Int.reduceGT, Int.reduceGE, Nat.reducePow, Nat.reduceAdd, Nat.reduceSub, Nat.reduceLT, Nat.reduceMul, Nat.reduceDiv, Nat.reduceEqDiff, Nat.reduceLeDiff, KT w, KI, hw.KF, htm, t9, g4N3, mu9, hap, g5N3, ok5, b5, hn5, lf5, cl5, splice]
  refine hK _ _ ?_
  clear hK
  clear K
  repeat with_reducible (first | apply E0 | apply E1 | apply E2 | apply E3 | apply E4 | refine E5 (by decide) ?_ | apply E6 | apply E7 | apply E8 | apply E9 | apply Ea | apply Eb | apply Ec | apply Ed)
  have e21 : IntKind.i64.wrap ((j : Int) + 1) = ((j + 1 : Nat) : Int) := by rw [i64_in _ (by omega)]; omega
  refine W_region fun K hK => ?_
  simp only [KA, KB, KP, KQ, KM, simprocAttr, KT w, KI, hw.KF, htm, t10, e21]
  refine hK _ _ ?_
  clear hK
  clear K
  have hRd5 : Rd c0 c2 R' C S5 := hRd4.keep ok5 b5 n5 fun q g es rows e hq hg => fr5 q _ hq (hkv4.aw hg (fun g h => by cases h)) hg
  have hRd6 := hRd5.setRow hn5 g5N3 (.row [.str [], .bool false, .str [], .int .i64 0, .int .i64 0, .int .i64 0, .nils, kv', .int .i64 0, .int .i64 (-1)] false)
  have hnn : nnL (kids.take (j + 1)) = nnL (kids.take j) + nn x := by rw [htk, nnL_snoc]
  have hlt1 : (kids.take j).length = j := by rw [List.length_take]; omega
  have hlt2 : (kids.take (j + 1)).length = j + 1 := by rw [List.length_take]; omega
  have hRB2 := lay_rb x a B c' i C hc0' hRB hl1
  have oth6 : ∀ q cs lk, q ≠ N + 3 → S5.get q = some (.row cs lk) → (S5.set (N + 3) (.row [.str [], .bool false, .str [], .int .i64 0, .int .i64 0, .int .i64 0, .nils, kv', .int .i64 0, .int .i64 (-1)] false)).get q = some (.row cs lk) := fun q cs lk hq hg => by rw [St.get_setn hn5 hq]; exact hg
  refine ⟨kids.length - (j + 1), by omega, _, j + 1, l ++ [i], C, i :: p', c' + nn x - 1, kv', c0, c2, R', rfl, rfl, by omega, by simp; omega, hRd6, hC, hRB2, lay_kl x a B i C (by omega) hKL hl1, by omega, by omega, by rw [hnn, hlt2, hcc, hlt1]; omega, ?_, ?_, ?_, ?_, oth6 _ _ _ (by omega) g5N, oth6 _ _ _ (by omega) g5N1, oth6 _ _ _ (by omega) g5N2, St.get_sete ok5 hn5, by rw [St.setN]; exact hn5, ?_, ?_, ?_⟩
  · cases hLL : layL (kids.drop (j + 1)) a C with
    | none => rw [hLL] at hrest; exact hrest
    | some q =>
      obtain ⟨l', D⟩ := q
      rw [hLL] at hrest
      simp only at hrest ⊢
      rw [hrest]; simp
  · rcases hkv5 with h | ⟨h1, q, g, h2, h3, h4⟩
    · exact .inl h
    · refine .inr ⟨h1, q, g, h2, by rw [St.setN]; exact h3, ?_⟩
      rw [St.get_setn hn5 (fun e => by rw [e, g5N3] at h4; cases h4)]; exact h4
  · rw [htk, ntL_snoc]
    exact isL_snoc hIsC _ _ (IsL.mono hleC _ _ hIL)
  · intro y hy
    rcases List.mem_cons.1 hy with rfl | hy
    · exact .inr (by simp)
    · rcases hpp y hy with h | h
      · exact .inl h
      · exact .inr (List.mem_append_left _ h)
  · refine ⟨St.ok_set ok5, by rw [St.setB, b5, ← K4.base]; exact b4.symm, by rw [St.setN]; have := K4.n; omega, fun q y hq hx hg => ?_⟩
    rw [St.get_setn hn5 (by omega)]
    exact fr5 q y (by have := K4.n; omega) (fun r oo g e => by have := hkN r oo g e; omega) (K4.get q y hq hx hg)
  · intro r oo g e
    by_cases hlt : oo < N
    · exfalso
      exact aw5 oo (by have := K4.n; omega) (fun r' o' g' e' h => by have := hkN r' o' g' e'; omega) r oo g e rfl
    · omega
  · simp only [KA, KP, KQ, simprocAttr, KT w, KI, hw.KF, htm, t2, t3, t4, t6, t7, t8, t9]
    try simp
end Go.Am.R
