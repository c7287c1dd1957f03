/- THE READER: an operation begins. -/
import Derived.Test.YtjdhcjhalkjamaaDoorV6
import Derived.Test.YtjdhcjhalkjamaaDoorR2
set_option linter.unusedSimpArgs false
set_option linter.unusedVariables false
set_option maxRecDepth 20000
namespace Go.Am.V
open Go.Proofs Go.IntWalk

variable {w : Ways}

structure Rd where
  p : List Ins
  ends : List Int
  left : List UInt8
  more : Bool

def PV (pv : AV) (p : List Ins) (S : St) : Prop := (p = [] ∧ pv = .nils) ∨ ∃ o g, pv = .sref o g 0 p.length ∧ o < S.n ∧ S.get o = some (.seq g 4 (inRows p) 0)
def EV (ev : AV) (e : List Int) (S : St) : Prop := (e = [] ∧ ev = .nils) ∨ ∃ o g, ev = .sref o g 0 e.length ∧ o < S.n ∧ S.get o = some (.seq g 1 (ints e) 0)
def Rdr (o : Nat) (r : Rd) (S : St) : Prop := ∃ pv ev, S.get o = some (.row [pv, ev, .str r.left, .bool r.more] false) ∧ PV pv r.p S ∧ EV ev r.ends S ∧ r.ends.length = r.p.length ∧ (r.p = [] ↔ pv = .nils) ∧ (r.p = [] ↔ ev = .nils)

/-- Rows are as they were, but o. -/
structure Kp (o : Nat) (S S' : St) : Prop where
  ok : S'.ok
  base : S'.base = S.base
  n : S.n ≤ S'.n
  get : ∀ q x, q < S.n → q ≠ o → (∀ g es rows e, x ≠ AObj.seq g es rows e) → S.get q = some x → S'.get q = some x
theorem Kp.refl {o : Nat} {S : St} (h : S.ok) : Kp o S S := ⟨h, rfl, Nat.le_refl _, fun _ _ _ _ _ h => h⟩
theorem Kp.trans {o : Nat} {A B C : St} (h : Kp o A B) (k : Kp o B C) : Kp o A C :=
  ⟨k.ok, k.base.trans h.base, Nat.le_trans h.n k.n, fun q x hq hn hx hg => k.get q x (Nat.lt_of_lt_of_le hq h.n) hn hx (h.get q x hq hn hx hg)⟩
theorem Kp.push {o : Nat} {S : St} (h : S.ok) (a : AObj) : Kp o S (S.push a) :=
  ⟨St.ok_push h, St.pushB _ _, by rw [St.pushN]; omega, fun q x hq hn hx hg => by rw [St.get_pushn (by omega)]; exact hg⟩
theorem Kp.set {o : Nat} {S : St} (h : S.ok) (ho : o < S.n) (a : AObj) : Kp o S (S.set o a) :=
  ⟨St.ok_set h, St.setB _ _ _, Nat.le_of_eq (St.setN _ _ _).symm, fun q x hq hn hx hg => by rw [St.get_setn ho hn]; exact hg⟩
theorem Kp.seq {o q g es : Nat} {rows : Rows} {e : Nat} {S : St} (h : S.ok) (hq : q < S.n) (hg : S.get q = some (.seq g es rows e)) (a : AObj) : Kp o S (S.set q a) :=
  ⟨St.ok_set h, St.setB _ _ _, Nat.le_of_eq (St.setN _ _ _).symm, fun i x hi hn hx hgi => by
    by_cases e1 : i = q
    · subst e1; rw [hg] at hgi; cases hgi; exact absurd rfl (hx _ _ _ _)
    · rw [St.get_setn hq e1]; exact hgi⟩

theorem set_set {S : St} {i : Nat} {a b : AObj} : (S.set i a).set i b = S.set i b := by simp [St.set, List.set_set]
theorem upd1 {T : St} {o : Nat} (X A : AObj) (hok : T.ok) (ho : o < T.n) : ((T.set o X).push A).get o = some X ∧ (∀ q x, q < T.n → q ≠ o → T.get q = some x → ((T.set o X).push A).get q = some x) ∧ ((T.set o X).push A).get T.n = some A ∧ ((T.set o X).push A).n = T.n + 1 ∧ Kp o T ((T.set o X).push A) :=
  ⟨by rw [St.get_pushn (by rw [St.setN]; omega)]; exact St.get_set_same hok _ ho, fun q x hq hn hx => by rw [St.get_pushn (by rw [St.setN]; omega), St.get_setn ho hn]; exact hx, St.get_pushq (by rw [St.setN]), by rw [St.pushN, St.setN], (Kp.set hok ho _).trans (Kp.push (St.ok_set hok) _)⟩
theorem upd2 {T : St} {o q g es e : Nat} {rows : Rows} (X A : AObj) (hok : T.ok) (ho : o < T.n) (hq : q < T.n) (hne : o ≠ q) (hg : T.get q = some (.seq g es rows e)) : ((T.set q A).set o X).get o = some X ∧ (∀ i x, i < T.n → i ≠ o → i ≠ q → T.get i = some x → ((T.set q A).set o X).get i = some x) ∧ ((T.set q A).set o X).get q = some A ∧ ((T.set q A).set o X).n = T.n ∧ Kp o T ((T.set q A).set o X) :=
  ⟨St.get_set_same (St.ok_set hok) _ (by rw [St.setN]; exact ho), fun i x hi hn hn2 hx => by rw [St.get_setn (by rw [St.setN]; exact ho) hn, St.get_setn hq hn2]; exact hx, by rw [St.get_setn (by rw [St.setN]; exact ho) (Ne.symm hne)]; exact St.get_set_same hok _ hq, by rw [St.setN, St.setN], (Kp.seq hok hq hg _).trans (Kp.set (St.ok_set hok) (by rw [St.setN]; exact ho) _)⟩
def findOp (wd : List UInt8) : Option (Int × List UInt8) := (opTab.find? fun x => x.1 == wd).map (·.2)

theorem look59 (wd : List UInt8) (S : St) (m : Nat) (hg : S.get m = some (.map opsEs 7)) :
    alookup (cfg w) S 59 (.map m) (.str wd) true = some (match findOp wd with | some x => .tup [.agg [.int .i64 x.1, .str x.2], .bool true] | none => .tup [.agg [.int .i64 0, .str []], .bool false]) := by
  unfold alookup
  rw [Tk59]
  have hk : keyFits (cfg w) 9 (.str wd) = true := by simp [keyFits, Tc9]
  simp only [hk, if_true, hg, Option.bind_some]
  have hz : zeroOf (cfg w) 62 = some (.agg [.int .i64 0, .str []]) := by simp [zeroOf, Tc62, isAggK]
  unfold findOp opTab
  simp only [opsEs, findKey, keyEq, leafEq, Option.bind_some, List.find?]
  by_cases h1 : wd = [99, 104, 97, 114]
  · subst h1; rfl
  by_cases h2 : wd = [105, 115]
  · subst h2; rfl
  by_cases h3 : wd = [115, 101, 116]
  · subst h3; rfl
  by_cases h4 : wd = [97, 100, 100]
  · subst h4; rfl
  by_cases h5 : wd = [103, 111, 116, 111]
  · subst h5; rfl
  by_cases h6 : wd = [121, 101, 115]
  · subst h6; rfl
  by_cases h7 : wd = [110, 111]
  · subst h7; rfl
  have b1 : ([99, 104, 97, 114] == wd) = false := beq_eq_false_iff_ne.2 (Ne.symm h1)
  have d1 : (wd == [99, 104, 97, 114]) = false := beq_eq_false_iff_ne.2 h1
  have b2 : ([105, 115] == wd) = false := beq_eq_false_iff_ne.2 (Ne.symm h2)
  have d2 : (wd == [105, 115]) = false := beq_eq_false_iff_ne.2 h2
  have b3 : ([115, 101, 116] == wd) = false := beq_eq_false_iff_ne.2 (Ne.symm h3)
  have d3 : (wd == [115, 101, 116]) = false := beq_eq_false_iff_ne.2 h3
  have b4 : ([97, 100, 100] == wd) = false := beq_eq_false_iff_ne.2 (Ne.symm h4)
  have d4 : (wd == [97, 100, 100]) = false := beq_eq_false_iff_ne.2 h4
  have b5 : ([103, 111, 116, 111] == wd) = false := beq_eq_false_iff_ne.2 (Ne.symm h5)
  have d5 : (wd == [103, 111, 116, 111]) = false := beq_eq_false_iff_ne.2 h5
  have b6 : ([121, 101, 115] == wd) = false := beq_eq_false_iff_ne.2 (Ne.symm h6)
  have d6 : (wd == [121, 101, 115]) = false := beq_eq_false_iff_ne.2 h6
  have b7 : ([110, 111] == wd) = false := beq_eq_false_iff_ne.2 (Ne.symm h7)
  have d7 : (wd == [110, 111]) = false := beq_eq_false_iff_ne.2 h7
  simp only [b1, d1, b2, d2, b3, d3, b4, d4, b5, d5, b6, d6, b7, d7, Option.map_none, hz, Option.bind_some, Option.map_some, Bool.false_eq_true, if_false, if_true]

theorem PV.mono {pv : AV} {p : List Ins} {S S' : St} (h : PV pv p S) (hg : ∀ q x, q < S.n → S.get q = some x → S'.get q = some x) (hn : S.n ≤ S'.n) : PV pv p S' := by
  rcases h with h | ⟨o, g, h1, h2, h3⟩
  · exact .inl h
  · exact .inr ⟨o, g, h1, by omega, hg _ _ h2 h3⟩
theorem EV.mono {pv : AV} {p : List Int} {S S' : St} (h : EV pv p S) (hg : ∀ q x, q < S.n → S.get q = some x → S'.get q = some x) (hn : S.n ≤ S'.n) : EV pv p S' := by
  rcases h with h | ⟨o, g, h1, h2, h3⟩
  · exact .inl h
  · exact .inr ⟨o, g, h1, by omega, hg _ _ h2 h3⟩
theorem Rdr.mono {o : Nat} {r : Rd} {S S' : St} (h : Rdr o r S) (ho : o < S.n) (hg : ∀ q x, q < S.n → S.get q = some x → S'.get q = some x) (hn : S.n ≤ S'.n) : Rdr o r S' := by
  obtain ⟨pv, ev, h1, h2, h3, h4⟩ := h
  exact ⟨pv, ev, hg _ _ ho h1, h2.mono hg hn, h3.mono hg hn, h4⟩
theorem Rdr.push {o : Nat} {r : Rd} {S : St} (h : Rdr o r S) (ho : o < S.n) (a : AObj) : Rdr o r (S.push a) :=
  h.mono ho (fun q x hq hx => by rw [St.get_pushn (by omega)]; exact hx) (by rw [St.pushN]; omega)

/-- An operation begins. -/
def beginR (r : Rd) (at' : Int) (wd : List UInt8) : Int × Rd :=
  match findOp wd with
  | none => (10, r)
  | some x => if r.p.length = 64 then (15, r) else (0, ⟨r.p ++ [⟨x.1, 0, 0, 0⟩], r.ends ++ [at'], x.2, false⟩)

theorem inRows_snoc (p : List Ins) (i : Ins) : inRows p ++ [inRow i] = inRows (p ++ [i]) := by simp [inRows]
theorem ints_snoc (e : List Int) (x : Int) : ints e ++ [[.int .i64 x]] = ints (e ++ [x]) := by simp [ints]

theorem cap32 (m : Nat) (h : m ≤ 100) : (m + m / 4 + 1000) * 32 ≤ 281474976710656 := by omega
theorem cap8 (m : Nat) (h : m ≤ 100) : (m + m / 4 + 1000) * 8 ≤ 281474976710656 := by omega
set_option maxHeartbeats 2000000 in
theorem begin20 (hw : Std w) (hops : w.ext 26 = some (.push opsF)) {o : Nat} {r : Rd} {S : St} (at' : Int) (wd : List UInt8) (hok : S.ok) (hb : S.base = 0) (ho : o < S.n) (hR : Rdr o r S) (hlen : r.p.length ≤ 64) :
    CallQ (cfg w) 20 [.ptr o 0, .int .i64 at', .str wd] S fun v S' => v = .int .i64 (beginR r at' wd).1 ∧ Rdr o (beginR r at' wd).2 S' ∧ Kp o S S' := by
  have hcall : ∀ T : St, callF (cfg w) (lim (cfg w)) 26 [] T = some (.map T.n, T.push (.map opsEs 7)) := fun T => by
    simp [callF, cfgP_ext, hops, XT.run, opsF]
  obtain ⟨pv, ev, hgo, hpv, hev, hel, hpn, hen⟩ := hR
  have hlk := fun T m h => look59 (w := w) wd T m h
  have hne : (o = S.n) = False := by simp; omega
  have hne1 : (o = S.n + 1) = False := by simp; omega
  have hmg : (S.push (.map opsEs 7)).get S.n = some (.map opsEs 7) := St.get_pushe
  have hlk1 := hlk _ _ hmg
  unfold beginR
  cases hf : findOp wd with
  | none =>
    rw [hf] at hlk1
    simp only at hlk1 ⊢
    refine call_of_W (fn20 w) rfl ?_
    simp only [Tryd.f20, List.length_cons, List.length_nil, ↓reduceIte, Int.reduceLT, Int.reduceLE, Int.reduceAdd, Int.reduceSub, Int.reduceNeg, Int.reduceMul, Int.reduceToNat, Int.reduceEq, Int.reduceNe, Int.reduceGT, Int.reduceGE, Nat.reducePow, IntKind.bits, Nat.reduceAdd, Nat.reduceSub, List.cons_append, List.nil_append]
    repeat with_reducible (first | refine E0 ?_ | refine E1 ?_ | refine E2 ?_ | refine E3 ?_ | refine E4 ?_ | refine E5 (by decide) ?_ | refine E6 ?_ | refine E7 ?_ | refine E8 ?_ | refine E9 ?_ | refine Ea ?_ | refine Eb ?_ | refine Ec ?_ | refine Ed ?_)
    refine W_region fun K hK => ?_
    simp only [KA, KB, KP, KQ, reduceCtorEq, ↓reduceIte, Int.reduceLT, Int.reduceLE, Int.reduceAdd, Int.reduceSub, Int.reduceNeg, Int.reduceMul, Int.reduceToNat, Int.reduceEq, Int.reduceNe, Int.reduceGT, Int.reduceGE, Nat.reducePow, Nat.reduceAdd, Nat.reduceSub, Nat.reduceLT, Nat.reduceMul, Nat.reduceDiv, Nat.reduceEqDiff, Nat.reduceLeDiff, KT w, KI, hw.KF]
    refine hK _ _ ?_
    clear hK
    clear K
    repeat with_reducible (first | refine E0 ?_ | refine E1 ?_ | refine E2 ?_ | refine E3 ?_ | refine E4 ?_ | refine E5 (by decide) ?_ | refine E6 ?_ | refine E7 ?_ | refine E8 ?_ | refine E9 ?_ | refine Ea ?_ | refine Eb ?_ | refine Ec ?_ | refine Ed ?_)
    refine W_region fun K hK => ?_
    simp only [KA, KB, KP, KQ, reduceCtorEq, ↓reduceIte, Int.reduceLT, Int.reduceLE, Int.reduceAdd, Int.reduceSub, Int.reduceNeg, Int.reduceMul, Int.reduceToNat, Int.reduceEq, Int.reduceNe, Int.reduceGT, Int.reduceGE, Nat.reducePow, Nat.reduceAdd, Nat.reduceSub, Nat.reduceLT, Nat.reduceMul, Nat.reduceDiv, Nat.reduceEqDiff, Nat.reduceLeDiff, KT w, KI, hw.KF, hcall, hlk1, hok, hb, splice, A2y]
    refine hK _ _ ?_
    clear hK
    clear K
    repeat with_reducible (first | refine E0 ?_ | refine E1 ?_ | refine E2 ?_ | refine E3 ?_ | refine E4 ?_ | refine E5 (by decide) ?_ | refine E6 ?_ | refine E7 ?_ | refine E8 ?_ | refine E9 ?_ | refine Ea ?_ | refine Eb ?_ | refine Ec ?_ | refine Ed ?_)
    refine W_region fun K hK => ?_
    simp only [KA, KB, KP, KQ, reduceCtorEq, ↓reduceIte, Int.reduceLT, Int.reduceLE, Int.reduceAdd, Int.reduceSub, Int.reduceNeg, Int.reduceMul, Int.reduceToNat, Int.reduceEq, Int.reduceNe, Int.reduceGT, Int.reduceGE, Nat.reducePow, Nat.reduceAdd, Nat.reduceSub, Nat.reduceLT, Nat.reduceMul, Nat.reduceDiv, Nat.reduceEqDiff, Nat.reduceLeDiff, KT w, KI, hw.KF]
    refine hK _ _ ?_
    clear hK
    clear K
    repeat with_reducible (first | refine E0 ?_ | refine E1 ?_ | refine E2 ?_ | refine E3 ?_ | refine E4 ?_ | refine E5 (by decide) ?_ | refine E6 ?_ | refine E7 ?_ | refine E8 ?_ | refine E9 ?_ | refine Ea ?_ | refine Eb ?_ | refine Ec ?_ | refine Ed ?_)
    refine W_condT (by simp only [KA, KP, KQ, reduceCtorEq, ↓reduceIte, Int.reduceLT, Int.reduceLE, Int.reduceAdd, Int.reduceSub, Int.reduceNeg, Int.reduceMul, Int.reduceToNat, Int.reduceEq, Int.reduceNe, Int.reduceGT, Int.reduceGE, Nat.reducePow, Nat.reduceAdd, Nat.reduceSub, Nat.reduceLT, Nat.reduceMul, Nat.reduceDiv, Nat.reduceEqDiff, Nat.reduceLeDiff, KT w, KI, hw.KF]) ?_
    repeat with_reducible (first | refine E0 ?_ | refine E1 ?_ | refine E2 ?_ | refine E3 ?_ | refine E4 ?_ | refine E5 (by decide) ?_ | refine E6 ?_ | refine E7 ?_ | refine E8 ?_ | refine E9 ?_ | refine Ea ?_ | refine Eb ?_ | refine Ec ?_ | refine Ed ?_)
    refine W_region fun K hK => ?_
    simp only [KA, KB, KP, KQ, reduceCtorEq, ↓reduceIte, Int.reduceLT, Int.reduceLE, Int.reduceAdd, Int.reduceSub, Int.reduceNeg, Int.reduceMul, Int.reduceToNat, Int.reduceEq, Int.reduceNe, Int.reduceGT, Int.reduceGE, Nat.reducePow, Nat.reduceAdd, Nat.reduceSub, Nat.reduceLT, Nat.reduceMul, Nat.reduceDiv, Nat.reduceEqDiff, Nat.reduceLeDiff, KT w, KI, hw.KF]
    refine hK _ _ ?_
    clear hK
    clear K
    repeat with_reducible (first | refine E0 ?_ | refine E1 ?_ | refine E2 ?_ | refine E3 ?_ | refine E4 ?_ | refine E5 (by decide) ?_ | refine E6 ?_ | refine E7 ?_ | refine E8 ?_ | refine E9 ?_ | refine Ea ?_ | refine Eb ?_ | refine Ec ?_ | refine Ed ?_)
    refine AtEnd_of rfl ?_
    simp only [KA, KP, KQ, reduceCtorEq, ↓reduceIte, Int.reduceLT, Int.reduceLE, Int.reduceAdd, Int.reduceSub, Int.reduceNeg, Int.reduceMul, Int.reduceToNat, Int.reduceEq, Int.reduceNe, Int.reduceGT, Int.reduceGE, Nat.reducePow, Nat.reduceAdd, Nat.reduceSub, Nat.reduceLT, Nat.reduceMul, Nat.reduceDiv, Nat.reduceEqDiff, Nat.reduceLeDiff, KT w, KI, hw.KF, RS_some, aresults_nil, aresults_tmp, aresults_cell, one]
    exact ⟨(Rdr.push ⟨pv, ev, hgo, hpv, hev, hel, hpn, hen⟩ ho _).push (by rw [St.pushN]; omega) _, (Kp.push hok _).trans (Kp.push (St.ok_push hok) _)⟩
  | some x =>
    rw [hf] at hlk1
    simp only at hlk1 ⊢
    by_cases h64 : r.p.length = 64
    · rw [if_pos h64]
      have h64z : (r.p.length : Int) = 64 := by omega
      obtain ⟨rp, re, rl, rm⟩ := r
      simp only at hpv hev hel hpn hen hlen h64 h64z hgo ⊢
      have hR0 : Rdr o ⟨rp, re, rl, rm⟩ S := ⟨pv, ev, hgo, hpv, hev, hel, hpn, hen⟩
      rcases hpv with ⟨hp0, rfl⟩ | ⟨op, gp, rfl, hpo, hpg⟩
      · subst hp0; simp at h64
      refine call_of_W (fn20 w) rfl ?_
      simp only [Tryd.f20, List.length_cons, List.length_nil, ↓reduceIte, Int.reduceLT, Int.reduceLE, Int.reduceAdd, Int.reduceSub, Int.reduceNeg, Int.reduceMul, Int.reduceToNat, Int.reduceEq, Int.reduceNe, Int.reduceGT, Int.reduceGE, Nat.reducePow, IntKind.bits, Nat.reduceAdd, Nat.reduceSub, List.cons_append, List.nil_append]
      repeat with_reducible (first | refine E0 ?_ | refine E1 ?_ | refine E2 ?_ | refine E3 ?_ | refine E4 ?_ | refine E5 (by decide) ?_ | refine E6 ?_ | refine E7 ?_ | refine E8 ?_ | refine E9 ?_ | refine Ea ?_ | refine Eb ?_ | refine Ec ?_ | refine Ed ?_)
      refine W_region fun K hK => ?_
      simp only [KA, KB, KP, KQ, reduceCtorEq, ↓reduceIte, Int.reduceLT, Int.reduceLE, Int.reduceAdd, Int.reduceSub, Int.reduceNeg, Int.reduceMul, Int.reduceToNat, Int.reduceEq, Int.reduceNe, Int.reduceGT, Int.reduceGE, Nat.reducePow, Nat.reduceAdd, Nat.reduceSub, Nat.reduceLT, Nat.reduceMul, Nat.reduceDiv, Nat.reduceEqDiff, Nat.reduceLeDiff, KT w, KI, hw.KF]
      refine hK _ _ ?_
      clear hK
      clear K
      repeat with_reducible (first | refine E0 ?_ | refine E1 ?_ | refine E2 ?_ | refine E3 ?_ | refine E4 ?_ | refine E5 (by decide) ?_ | refine E6 ?_ | refine E7 ?_ | refine E8 ?_ | refine E9 ?_ | refine Ea ?_ | refine Eb ?_ | refine Ec ?_ | refine Ed ?_)
      refine W_region fun K hK => ?_
      simp only [KA, KB, KP, KQ, reduceCtorEq, ↓reduceIte, Int.reduceLT, Int.reduceLE, Int.reduceAdd, Int.reduceSub, Int.reduceNeg, Int.reduceMul, Int.reduceToNat, Int.reduceEq, Int.reduceNe, Int.reduceGT, Int.reduceGE, Nat.reducePow, Nat.reduceAdd, Nat.reduceSub, Nat.reduceLT, Nat.reduceMul, Nat.reduceDiv, Nat.reduceEqDiff, Nat.reduceLeDiff, KT w, KI, hw.KF, hcall, hlk1, hok, hb, splice, A2y]
      refine hK _ _ ?_
      clear hK
      clear K
      repeat with_reducible (first | refine E0 ?_ | refine E1 ?_ | refine E2 ?_ | refine E3 ?_ | refine E4 ?_ | refine E5 (by decide) ?_ | refine E6 ?_ | refine E7 ?_ | refine E8 ?_ | refine E9 ?_ | refine Ea ?_ | refine Eb ?_ | refine Ec ?_ | refine Ed ?_)
      refine W_region fun K hK => ?_
      simp only [KA, KB, KP, KQ, reduceCtorEq, ↓reduceIte, Int.reduceLT, Int.reduceLE, Int.reduceAdd, Int.reduceSub, Int.reduceNeg, Int.reduceMul, Int.reduceToNat, Int.reduceEq, Int.reduceNe, Int.reduceGT, Int.reduceGE, Nat.reducePow, Nat.reduceAdd, Nat.reduceSub, Nat.reduceLT, Nat.reduceMul, Nat.reduceDiv, Nat.reduceEqDiff, Nat.reduceLeDiff, KT w, KI, hw.KF]
      refine hK _ _ ?_
      clear hK
      clear K
      repeat with_reducible (first | refine E0 ?_ | refine E1 ?_ | refine E2 ?_ | refine E3 ?_ | refine E4 ?_ | refine E5 (by decide) ?_ | refine E6 ?_ | refine E7 ?_ | refine E8 ?_ | refine E9 ?_ | refine Ea ?_ | refine Eb ?_ | refine Ec ?_ | refine Ed ?_)
      refine W_condF (by simp only [KA, KP, KQ, reduceCtorEq, ↓reduceIte, Int.reduceLT, Int.reduceLE, Int.reduceAdd, Int.reduceSub, Int.reduceNeg, Int.reduceMul, Int.reduceToNat, Int.reduceEq, Int.reduceNe, Int.reduceGT, Int.reduceGE, Nat.reducePow, Nat.reduceAdd, Nat.reduceSub, Nat.reduceLT, Nat.reduceMul, Nat.reduceDiv, Nat.reduceEqDiff, Nat.reduceLeDiff, KT w, KI, hw.KF]) ?_
      repeat with_reducible (first | refine E0 ?_ | refine E1 ?_ | refine E2 ?_ | refine E3 ?_ | refine E4 ?_ | refine E5 (by decide) ?_ | refine E6 ?_ | refine E7 ?_ | refine E8 ?_ | refine E9 ?_ | refine Ea ?_ | refine Eb ?_ | refine Ec ?_ | refine Ed ?_)
      refine W_region fun K hK => ?_
      simp only [KA, KB, KP, KQ, reduceCtorEq, ↓reduceIte, Int.reduceLT, Int.reduceLE, Int.reduceAdd, Int.reduceSub, Int.reduceNeg, Int.reduceMul, Int.reduceToNat, Int.reduceEq, Int.reduceNe, Int.reduceGT, Int.reduceGE, Nat.reducePow, Nat.reduceAdd, Nat.reduceSub, Nat.reduceLT, Nat.reduceMul, Nat.reduceDiv, Nat.reduceEqDiff, Nat.reduceLeDiff, KT w, KI, hw.KF, hgo, hne, hne1, h64z]
      refine hK _ _ ?_
      clear hK
      clear K
      repeat with_reducible (first | refine E0 ?_ | refine E1 ?_ | refine E2 ?_ | refine E3 ?_ | refine E4 ?_ | refine E5 (by decide) ?_ | refine E6 ?_ | refine E7 ?_ | refine E8 ?_ | refine E9 ?_ | refine Ea ?_ | refine Eb ?_ | refine Ec ?_ | refine Ed ?_)
      refine W_condT (by simp only [KA, KP, KQ, reduceCtorEq, ↓reduceIte, Int.reduceLT, Int.reduceLE, Int.reduceAdd, Int.reduceSub, Int.reduceNeg, Int.reduceMul, Int.reduceToNat, Int.reduceEq, Int.reduceNe, Int.reduceGT, Int.reduceGE, Nat.reducePow, Nat.reduceAdd, Nat.reduceSub, Nat.reduceLT, Nat.reduceMul, Nat.reduceDiv, Nat.reduceEqDiff, Nat.reduceLeDiff, KT w, KI, hw.KF, h64z]) ?_
      repeat with_reducible (first | refine E0 ?_ | refine E1 ?_ | refine E2 ?_ | refine E3 ?_ | refine E4 ?_ | refine E5 (by decide) ?_ | refine E6 ?_ | refine E7 ?_ | refine E8 ?_ | refine E9 ?_ | refine Ea ?_ | refine Eb ?_ | refine Ec ?_ | refine Ed ?_)
      refine W_region fun K hK => ?_
      simp only [KA, KB, KP, KQ, reduceCtorEq, ↓reduceIte, Int.reduceLT, Int.reduceLE, Int.reduceAdd, Int.reduceSub, Int.reduceNeg, Int.reduceMul, Int.reduceToNat, Int.reduceEq, Int.reduceNe, Int.reduceGT, Int.reduceGE, Nat.reducePow, Nat.reduceAdd, Nat.reduceSub, Nat.reduceLT, Nat.reduceMul, Nat.reduceDiv, Nat.reduceEqDiff, Nat.reduceLeDiff, KT w, KI, hw.KF]
      refine hK _ _ ?_
      clear hK
      clear K
      repeat with_reducible (first | refine E0 ?_ | refine E1 ?_ | refine E2 ?_ | refine E3 ?_ | refine E4 ?_ | refine E5 (by decide) ?_ | refine E6 ?_ | refine E7 ?_ | refine E8 ?_ | refine E9 ?_ | refine Ea ?_ | refine Eb ?_ | refine Ec ?_ | refine Ed ?_)
      refine AtEnd_of rfl ?_
      simp only [KA, KP, KQ, reduceCtorEq, ↓reduceIte, Int.reduceLT, Int.reduceLE, Int.reduceAdd, Int.reduceSub, Int.reduceNeg, Int.reduceMul, Int.reduceToNat, Int.reduceEq, Int.reduceNe, Int.reduceGT, Int.reduceGE, Nat.reducePow, Nat.reduceAdd, Nat.reduceSub, Nat.reduceLT, Nat.reduceMul, Nat.reduceDiv, Nat.reduceEqDiff, Nat.reduceLeDiff, KT w, KI, hw.KF, RS_some, aresults_nil, aresults_tmp, aresults_cell, one]
      exact ⟨(Rdr.push hR0 ho _).push (by rw [St.pushN]; omega) _, (Kp.push hok _).trans (Kp.push (St.ok_push hok) _)⟩
    rw [if_neg h64]
    have h64z : ¬ (r.p.length : Int) = 64 := by omega
    obtain ⟨rp, re, rl, rm⟩ := r
    simp only at hpv hev hel hpn hen hlen h64 h64z hgo ⊢
    rcases hpv with ⟨hp0, rfl⟩ | ⟨op, gp, rfl, hpo, hpg⟩
    · have he0 : ev = .nils := hen.1 hp0
      subst he0 hp0
      refine call_of_W (fn20 w) rfl ?_
      simp only [Tryd.f20, List.length_cons, List.length_nil, ↓reduceIte, Int.reduceLT, Int.reduceLE, Int.reduceAdd, Int.reduceSub, Int.reduceNeg, Int.reduceMul, Int.reduceToNat, Int.reduceEq, Int.reduceNe, Int.reduceGT, Int.reduceGE, Nat.reducePow, IntKind.bits, Nat.reduceAdd, Nat.reduceSub, List.cons_append, List.nil_append]
      repeat with_reducible (first | refine E0 ?_ | refine E1 ?_ | refine E2 ?_ | refine E3 ?_ | refine E4 ?_ | refine E5 (by decide) ?_ | refine E6 ?_ | refine E7 ?_ | refine E8 ?_ | refine E9 ?_ | refine Ea ?_ | refine Eb ?_ | refine Ec ?_ | refine Ed ?_)
      refine W_region fun K hK => ?_
      simp only [KA, KB, KP, KQ, reduceCtorEq, ↓reduceIte, Int.reduceLT, Int.reduceLE, Int.reduceAdd, Int.reduceSub, Int.reduceNeg, Int.reduceMul, Int.reduceToNat, Int.reduceEq, Int.reduceNe, Int.reduceGT, Int.reduceGE, Nat.reducePow, Nat.reduceAdd, Nat.reduceSub, Nat.reduceLT, Nat.reduceMul, Nat.reduceDiv, Nat.reduceEqDiff, Nat.reduceLeDiff, KT w, KI, hw.KF]
      refine hK _ _ ?_
      clear hK
      clear K
      repeat with_reducible (first | refine E0 ?_ | refine E1 ?_ | refine E2 ?_ | refine E3 ?_ | refine E4 ?_ | refine E5 (by decide) ?_ | refine E6 ?_ | refine E7 ?_ | refine E8 ?_ | refine E9 ?_ | refine Ea ?_ | refine Eb ?_ | refine Ec ?_ | refine Ed ?_)
      refine W_region fun K hK => ?_
      simp only [KA, KB, KP, KQ, reduceCtorEq, ↓reduceIte, Int.reduceLT, Int.reduceLE, Int.reduceAdd, Int.reduceSub, Int.reduceNeg, Int.reduceMul, Int.reduceToNat, Int.reduceEq, Int.reduceNe, Int.reduceGT, Int.reduceGE, Nat.reducePow, Nat.reduceAdd, Nat.reduceSub, Nat.reduceLT, Nat.reduceMul, Nat.reduceDiv, Nat.reduceEqDiff, Nat.reduceLeDiff, KT w, KI, hw.KF, hcall, hlk1, hok, hb, splice, A2y]
      refine hK _ _ ?_
      clear hK
      clear K
      repeat with_reducible (first | refine E0 ?_ | refine E1 ?_ | refine E2 ?_ | refine E3 ?_ | refine E4 ?_ | refine E5 (by decide) ?_ | refine E6 ?_ | refine E7 ?_ | refine E8 ?_ | refine E9 ?_ | refine Ea ?_ | refine Eb ?_ | refine Ec ?_ | refine Ed ?_)
      refine W_region fun K hK => ?_
      simp only [KA, KB, KP, KQ, reduceCtorEq, ↓reduceIte, Int.reduceLT, Int.reduceLE, Int.reduceAdd, Int.reduceSub, Int.reduceNeg, Int.reduceMul, Int.reduceToNat, Int.reduceEq, Int.reduceNe, Int.reduceGT, Int.reduceGE, Nat.reducePow, Nat.reduceAdd, Nat.reduceSub, Nat.reduceLT, Nat.reduceMul, Nat.reduceDiv, Nat.reduceEqDiff, Nat.reduceLeDiff, KT w, KI, hw.KF]
      refine hK _ _ ?_
      clear hK
      clear K
      repeat with_reducible (first | refine E0 ?_ | refine E1 ?_ | refine E2 ?_ | refine E3 ?_ | refine E4 ?_ | refine E5 (by decide) ?_ | refine E6 ?_ | refine E7 ?_ | refine E8 ?_ | refine E9 ?_ | refine Ea ?_ | refine Eb ?_ | refine Ec ?_ | refine Ed ?_)
      refine W_condF (by simp only [KA, KP, KQ, reduceCtorEq, ↓reduceIte, Int.reduceLT, Int.reduceLE, Int.reduceAdd, Int.reduceSub, Int.reduceNeg, Int.reduceMul, Int.reduceToNat, Int.reduceEq, Int.reduceNe, Int.reduceGT, Int.reduceGE, Nat.reducePow, Nat.reduceAdd, Nat.reduceSub, Nat.reduceLT, Nat.reduceMul, Nat.reduceDiv, Nat.reduceEqDiff, Nat.reduceLeDiff, KT w, KI, hw.KF]) ?_
      repeat with_reducible (first | refine E0 ?_ | refine E1 ?_ | refine E2 ?_ | refine E3 ?_ | refine E4 ?_ | refine E5 (by decide) ?_ | refine E6 ?_ | refine E7 ?_ | refine E8 ?_ | refine E9 ?_ | refine Ea ?_ | refine Eb ?_ | refine Ec ?_ | refine Ed ?_)
      refine W_region fun K hK => ?_
      simp only [KA, KB, KP, KQ, reduceCtorEq, ↓reduceIte, Int.reduceLT, Int.reduceLE, Int.reduceAdd, Int.reduceSub, Int.reduceNeg, Int.reduceMul, Int.reduceToNat, Int.reduceEq, Int.reduceNe, Int.reduceGT, Int.reduceGE, Nat.reducePow, Nat.reduceAdd, Nat.reduceSub, Nat.reduceLT, Nat.reduceMul, Nat.reduceDiv, Nat.reduceEqDiff, Nat.reduceLeDiff, KT w, KI, hw.KF, hgo, hne, hne1]
      refine hK _ _ ?_
      clear hK
      clear K
      repeat with_reducible (first | refine E0 ?_ | refine E1 ?_ | refine E2 ?_ | refine E3 ?_ | refine E4 ?_ | refine E5 (by decide) ?_ | refine E6 ?_ | refine E7 ?_ | refine E8 ?_ | refine E9 ?_ | refine Ea ?_ | refine Eb ?_ | refine Ec ?_ | refine Ed ?_)
      refine W_condF (by simp only [KA, KP, KQ, reduceCtorEq, ↓reduceIte, Int.reduceLT, Int.reduceLE, Int.reduceAdd, Int.reduceSub, Int.reduceNeg, Int.reduceMul, Int.reduceToNat, Int.reduceEq, Int.reduceNe, Int.reduceGT, Int.reduceGE, Nat.reducePow, Nat.reduceAdd, Nat.reduceSub, Nat.reduceLT, Nat.reduceMul, Nat.reduceDiv, Nat.reduceEqDiff, Nat.reduceLeDiff, KT w, KI, hw.KF]) ?_
      repeat with_reducible (first | refine E0 ?_ | refine E1 ?_ | refine E2 ?_ | refine E3 ?_ | refine E4 ?_ | refine E5 (by decide) ?_ | refine E6 ?_ | refine E7 ?_ | refine E8 ?_ | refine E9 ?_ | refine Ea ?_ | refine Eb ?_ | refine Ec ?_ | refine Ed ?_)
      have hK : Kp o S ((S.push (.map opsEs 7)).push (.row [.int .i64 x.1, .str x.2] false)) := (Kp.push hok _).trans (Kp.push (St.ok_push hok) _)
      have hgo2 : ((S.push (.map opsEs 7)).push (.row [.int .i64 x.1, .str x.2] false)).get o = some (.row [.nils, .nils, .str rl, .bool rm] false) := by
        rw [St.get_pushn (by rw [St.pushN]; omega), St.get_pushn (by omega)]; exact hgo
      have hg7 : ((S.push (.map opsEs 7)).push (.row [.int .i64 x.1, .str x.2] false)).get (S.n + 1) = some (.row [.int .i64 x.1, .str x.2] false) := by
        have := @St.get_pushe (S.push (.map opsEs 7)) (.row [.int .i64 x.1, .str x.2] false)
        rwa [St.pushN] at this
      have hTn : ((S.push (.map opsEs 7)).push (.row [.int .i64 x.1, .str x.2] false)).n = S.n + 2 := by rw [St.pushN, St.pushN]
      have hokT := hK.ok
      have hbT : _ = 0 := hK.base.trans hb
      generalize (S.push (.map opsEs 7)).push (.row [.int .i64 x.1, .str x.2] false) = T at *
      have ho1 : (o = T.n) = False := by simp; omega
      have ho2 : (S.n + 1 = T.n) = False := by simp; omega
      have ho3 : (T.n ≤ o) = False := by simp; omega
      have ho4 : o < T.n := by omega
      have ho5 : (S.n + 1 = o) = False := by simp; omega
      have ho6 : (o = T.n + 1) = False := by simp; omega
      have ho7 : (T.n + 1 ≤ o) = False := by simp; omega
      have ho8 : (S.n = T.n) = False := by simp; omega
      have ho9 : (S.n + 1 = T.n + 1) = False := by simp; omega
      have ho10 : o < T.n + 1 := by omega
      have ho11 : o < T.n + 1 + 1 := by omega
      refine W_regionD [[], [], [1], [2, 1], [3, 2, 1], [], [5], [6, 5], [7, 6, 5], [4, 3, 2, 1, 8, 7, 6, 5], [0, 1, 2, 3, 4, 5, 6, 7, 8, 9], [10, 0, 1, 2, 3, 4, 5, 6, 7, 8, 9], [11, 10, 0, 1, 2, 3, 4, 5, 6, 7, 8, 9]] (by decide +kernel) (by decide +kernel) (by decide +kernel) fun K hK => ?_
      simp only [KA, KB, KP, KQ, reduceCtorEq, ↓reduceIte, Int.reduceLT, Int.reduceLE, Int.reduceAdd, Int.reduceSub, Int.reduceNeg, Int.reduceMul, Int.reduceToNat, Int.reduceEq, Int.reduceNe, Int.reduceGT, Int.reduceGE, Nat.reducePow, Nat.reduceAdd, Nat.reduceSub, Nat.reduceLT, Nat.reduceMul, Nat.reduceDiv, Nat.reduceEqDiff, Nat.reduceLeDiff, KT w, KI, hw.KF, A58, A59, A5a, A5b, A5c, A5d, A5e, A5f, A5g, A5h, A5i, opP, rfoot, refsO, refs, wfoot, A5j, A5k, noisyOk, pairOk, Foot.isQuiet, Foot.apart, Ft.apart, Foot.none, A5l, A5m, A48, A49, A5n, A5o, A5p, A5q, Nat.reduceBEq, hgo2, hg7, ho1, ho2, ho3, ho4, ho5, ho6, ho7, hokT, hbT, splice, Nat.lt_succ_of_lt]
      refine hK _ _ ?_
      clear hK
      clear K
      repeat with_reducible (first | refine E0 ?_ | refine E1 ?_ | refine E2 ?_ | refine E3 ?_ | refine E4 ?_ | refine E5 (by decide) ?_ | refine E6 ?_ | refine E7 ?_ | refine E8 ?_ | refine E9 ?_ | refine Ea ?_ | refine Eb ?_ | refine Ec ?_ | refine Ed ?_)
      obtain ⟨u1, u2, u3, u4, u5⟩ := upd1 (.row [.sref T.n 0 0 1, .nils, .str rl, .bool rm] false) (.seq 0 4 [[.int .i64 x.1, .int .i64 0, .int .i64 0, .int .i64 0]] 0) hokT ho4
      have u7 := u2 (S.n + 1) _ (by omega) (by omega) hg7
      generalize (T.set o (.row [.sref T.n 0 0 1, .nils, .str rl, .bool rm] false)).push (.seq 0 4 [[.int .i64 x.1, .int .i64 0, .int .i64 0, .int .i64 0]] 0) = T6 at *
      have w1 : (o = T6.n) = False := by simp; omega
      have w2 : (T6.n ≤ o) = False := by simp; omega
      have w3 : o < T6.n := by omega
      have okT6 := u5.ok
      have bT6 : _ = 0 := u5.base.trans hbT
      refine W_region fun K hK => ?_
      simp only [KA, KB, KP, KQ, reduceCtorEq, ↓reduceIte, Int.reduceLT, Int.reduceLE, Int.reduceAdd, Int.reduceSub, Int.reduceNeg, Int.reduceMul, Int.reduceToNat, Int.reduceEq, Int.reduceNe, Int.reduceGT, Int.reduceGE, Nat.reducePow, Nat.reduceAdd, Nat.reduceSub, Nat.reduceLT, Nat.reduceMul, Nat.reduceDiv, Nat.reduceEqDiff, Nat.reduceLeDiff, KT w, KI, hw.KF, u1, w1, w2, w3, okT6, bT6, splice, Nat.lt_succ_of_lt]
      refine hK _ _ ?_
      clear hK
      clear K
      repeat with_reducible (first | refine E0 ?_ | refine E1 ?_ | refine E2 ?_ | refine E3 ?_ | refine E4 ?_ | refine E5 (by decide) ?_ | refine E6 ?_ | refine E7 ?_ | refine E8 ?_ | refine E9 ?_ | refine Ea ?_ | refine Eb ?_ | refine Ec ?_ | refine Ed ?_)
      obtain ⟨k1, k2, k3, k4, k5⟩ := upd1 (.row [.sref T.n 0 0 1, .sref T6.n 0 0 1, .str rl, .bool rm] false) (.seq 0 1 [[.int .i64 at']] 0) okT6 w3
      have k7 := k2 (S.n + 1) _ (by omega) (by omega) u7
      have k8 := k2 T.n _ (by omega) (by omega) u3
      generalize (T6.set o (.row [.sref T.n 0 0 1, .sref T6.n 0 0 1, .str rl, .bool rm] false)).push (.seq 0 1 [[.int .i64 at']] 0) = T7 at *
      have y1 : o < T7.n := by omega
      have y2 : (S.n + 1 = o) = False := by simp; omega
      have okT7 := k5.ok
      have bT7 : _ = 0 := k5.base.trans bT6
      refine W_region fun K hK => ?_
      simp only [KA, KB, KP, KQ, reduceCtorEq, ↓reduceIte, Int.reduceLT, Int.reduceLE, Int.reduceAdd, Int.reduceSub, Int.reduceNeg, Int.reduceMul, Int.reduceToNat, Int.reduceEq, Int.reduceNe, Int.reduceGT, Int.reduceGE, Nat.reducePow, Nat.reduceAdd, Nat.reduceSub, Nat.reduceLT, Nat.reduceMul, Nat.reduceDiv, Nat.reduceEqDiff, Nat.reduceLeDiff, KT w, KI, hw.KF, k1, k7, y1, y2, okT7, bT7, splice, set_set]
      refine hK _ _ ?_
      clear hK
      clear K
      repeat with_reducible (first | refine E0 ?_ | refine E1 ?_ | refine E2 ?_ | refine E3 ?_ | refine E4 ?_ | refine E5 (by decide) ?_ | refine E6 ?_ | refine E7 ?_ | refine E8 ?_ | refine E9 ?_ | refine Ea ?_ | refine Eb ?_ | refine Ec ?_ | refine Ed ?_)
      refine W_region fun K hK => ?_
      simp only [KA, KB, KP, KQ, reduceCtorEq, ↓reduceIte, Int.reduceLT, Int.reduceLE, Int.reduceAdd, Int.reduceSub, Int.reduceNeg, Int.reduceMul, Int.reduceToNat, Int.reduceEq, Int.reduceNe, Int.reduceGT, Int.reduceGE, Nat.reducePow, Nat.reduceAdd, Nat.reduceSub, Nat.reduceLT, Nat.reduceMul, Nat.reduceDiv, Nat.reduceEqDiff, Nat.reduceLeDiff, KT w, KI, hw.KF]
      refine hK _ _ ?_
      clear hK
      clear K
      repeat with_reducible (first | refine E0 ?_ | refine E1 ?_ | refine E2 ?_ | refine E3 ?_ | refine E4 ?_ | refine E5 (by decide) ?_ | refine E6 ?_ | refine E7 ?_ | refine E8 ?_ | refine E9 ?_ | refine Ea ?_ | refine Eb ?_ | refine Ec ?_ | refine Ed ?_)
      refine AtEnd_of rfl ?_
      simp only [KA, KP, KQ, reduceCtorEq, ↓reduceIte, Int.reduceLT, Int.reduceLE, Int.reduceAdd, Int.reduceSub, Int.reduceNeg, Int.reduceMul, Int.reduceToNat, Int.reduceEq, Int.reduceNe, Int.reduceGT, Int.reduceGE, Nat.reducePow, Nat.reduceAdd, Nat.reduceSub, Nat.reduceLT, Nat.reduceMul, Nat.reduceDiv, Nat.reduceEqDiff, Nat.reduceLeDiff, KT w, KI, hw.KF, RS_some, aresults_nil, aresults_tmp, aresults_cell, one]
      have hre : re = [] := by simpa using hel
      subst hre
      refine ⟨⟨.sref T.n 0 0 1, .sref T6.n 0 0 1, St.get_set_same okT7 _ y1, .inr ⟨T.n, 0, rfl, by rw [St.setN]; omega, ?_⟩, .inr ⟨T6.n, 0, rfl, by rw [St.setN]; omega, ?_⟩, rfl, by simp, by simp⟩, ((hK.trans u5).trans k5).trans (Kp.set okT7 y1 _)⟩
      · rw [St.get_setn y1 (by omega)]; exact k8
      · rw [St.get_setn y1 (by omega)]; exact k3
    · have hpne : rp ≠ [] := fun h => by have := hpn.1 h; cases this
      rcases hev with ⟨he0, rfl⟩ | ⟨oe, ge, rfl, heo, heg⟩
      · exact absurd (hen.2 rfl) hpne
      have hel' : re.length = rp.length := hel
      rw [hel'] at hgo
      have hlen' : rp.length ≤ 63 := by omega
      refine call_of_W (fn20 w) rfl ?_
      simp only [Tryd.f20, List.length_cons, List.length_nil, ↓reduceIte, Int.reduceLT, Int.reduceLE, Int.reduceAdd, Int.reduceSub, Int.reduceNeg, Int.reduceMul, Int.reduceToNat, Int.reduceEq, Int.reduceNe, Int.reduceGT, Int.reduceGE, Nat.reducePow, IntKind.bits, Nat.reduceAdd, Nat.reduceSub, List.cons_append, List.nil_append]
      repeat with_reducible (first | refine E0 ?_ | refine E1 ?_ | refine E2 ?_ | refine E3 ?_ | refine E4 ?_ | refine E5 (by decide) ?_ | refine E6 ?_ | refine E7 ?_ | refine E8 ?_ | refine E9 ?_ | refine Ea ?_ | refine Eb ?_ | refine Ec ?_ | refine Ed ?_)
      refine W_region fun K hK => ?_
      simp only [KA, KB, KP, KQ, reduceCtorEq, ↓reduceIte, Int.reduceLT, Int.reduceLE, Int.reduceAdd, Int.reduceSub, Int.reduceNeg, Int.reduceMul, Int.reduceToNat, Int.reduceEq, Int.reduceNe, Int.reduceGT, Int.reduceGE, Nat.reducePow, Nat.reduceAdd, Nat.reduceSub, Nat.reduceLT, Nat.reduceMul, Nat.reduceDiv, Nat.reduceEqDiff, Nat.reduceLeDiff, KT w, KI, hw.KF]
      refine hK _ _ ?_
      clear hK
      clear K
      repeat with_reducible (first | refine E0 ?_ | refine E1 ?_ | refine E2 ?_ | refine E3 ?_ | refine E4 ?_ | refine E5 (by decide) ?_ | refine E6 ?_ | refine E7 ?_ | refine E8 ?_ | refine E9 ?_ | refine Ea ?_ | refine Eb ?_ | refine Ec ?_ | refine Ed ?_)
      refine W_region fun K hK => ?_
      simp only [KA, KB, KP, KQ, reduceCtorEq, ↓reduceIte, Int.reduceLT, Int.reduceLE, Int.reduceAdd, Int.reduceSub, Int.reduceNeg, Int.reduceMul, Int.reduceToNat, Int.reduceEq, Int.reduceNe, Int.reduceGT, Int.reduceGE, Nat.reducePow, Nat.reduceAdd, Nat.reduceSub, Nat.reduceLT, Nat.reduceMul, Nat.reduceDiv, Nat.reduceEqDiff, Nat.reduceLeDiff, KT w, KI, hw.KF, hcall, hlk1, hok, hb, splice, A2y]
      refine hK _ _ ?_
      clear hK
      clear K
      repeat with_reducible (first | refine E0 ?_ | refine E1 ?_ | refine E2 ?_ | refine E3 ?_ | refine E4 ?_ | refine E5 (by decide) ?_ | refine E6 ?_ | refine E7 ?_ | refine E8 ?_ | refine E9 ?_ | refine Ea ?_ | refine Eb ?_ | refine Ec ?_ | refine Ed ?_)
      refine W_region fun K hK => ?_
      simp only [KA, KB, KP, KQ, reduceCtorEq, ↓reduceIte, Int.reduceLT, Int.reduceLE, Int.reduceAdd, Int.reduceSub, Int.reduceNeg, Int.reduceMul, Int.reduceToNat, Int.reduceEq, Int.reduceNe, Int.reduceGT, Int.reduceGE, Nat.reducePow, Nat.reduceAdd, Nat.reduceSub, Nat.reduceLT, Nat.reduceMul, Nat.reduceDiv, Nat.reduceEqDiff, Nat.reduceLeDiff, KT w, KI, hw.KF]
      refine hK _ _ ?_
      clear hK
      clear K
      repeat with_reducible (first | refine E0 ?_ | refine E1 ?_ | refine E2 ?_ | refine E3 ?_ | refine E4 ?_ | refine E5 (by decide) ?_ | refine E6 ?_ | refine E7 ?_ | refine E8 ?_ | refine E9 ?_ | refine Ea ?_ | refine Eb ?_ | refine Ec ?_ | refine Ed ?_)
      refine W_condF (by simp only [KA, KP, KQ, reduceCtorEq, ↓reduceIte, Int.reduceLT, Int.reduceLE, Int.reduceAdd, Int.reduceSub, Int.reduceNeg, Int.reduceMul, Int.reduceToNat, Int.reduceEq, Int.reduceNe, Int.reduceGT, Int.reduceGE, Nat.reducePow, Nat.reduceAdd, Nat.reduceSub, Nat.reduceLT, Nat.reduceMul, Nat.reduceDiv, Nat.reduceEqDiff, Nat.reduceLeDiff, KT w, KI, hw.KF]) ?_
      repeat with_reducible (first | refine E0 ?_ | refine E1 ?_ | refine E2 ?_ | refine E3 ?_ | refine E4 ?_ | refine E5 (by decide) ?_ | refine E6 ?_ | refine E7 ?_ | refine E8 ?_ | refine E9 ?_ | refine Ea ?_ | refine Eb ?_ | refine Ec ?_ | refine Ed ?_)
      refine W_region fun K hK => ?_
      simp only [KA, KB, KP, KQ, reduceCtorEq, ↓reduceIte, Int.reduceLT, Int.reduceLE, Int.reduceAdd, Int.reduceSub, Int.reduceNeg, Int.reduceMul, Int.reduceToNat, Int.reduceEq, Int.reduceNe, Int.reduceGT, Int.reduceGE, Nat.reducePow, Nat.reduceAdd, Nat.reduceSub, Nat.reduceLT, Nat.reduceMul, Nat.reduceDiv, Nat.reduceEqDiff, Nat.reduceLeDiff, KT w, KI, hw.KF, hgo, hne, hne1, h64z]
      refine hK _ _ ?_
      clear hK
      clear K
      repeat with_reducible (first | refine E0 ?_ | refine E1 ?_ | refine E2 ?_ | refine E3 ?_ | refine E4 ?_ | refine E5 (by decide) ?_ | refine E6 ?_ | refine E7 ?_ | refine E8 ?_ | refine E9 ?_ | refine Ea ?_ | refine Eb ?_ | refine Ec ?_ | refine Ed ?_)
      refine W_condF (by simp only [KA, KP, KQ, reduceCtorEq, ↓reduceIte, Int.reduceLT, Int.reduceLE, Int.reduceAdd, Int.reduceSub, Int.reduceNeg, Int.reduceMul, Int.reduceToNat, Int.reduceEq, Int.reduceNe, Int.reduceGT, Int.reduceGE, Nat.reducePow, Nat.reduceAdd, Nat.reduceSub, Nat.reduceLT, Nat.reduceMul, Nat.reduceDiv, Nat.reduceEqDiff, Nat.reduceLeDiff, KT w, KI, hw.KF, h64z]) ?_
      repeat with_reducible (first | refine E0 ?_ | refine E1 ?_ | refine E2 ?_ | refine E3 ?_ | refine E4 ?_ | refine E5 (by decide) ?_ | refine E6 ?_ | refine E7 ?_ | refine E8 ?_ | refine E9 ?_ | refine Ea ?_ | refine Eb ?_ | refine Ec ?_ | refine Ed ?_)
      have hK : Kp o S ((S.push (.map opsEs 7)).push (.row [.int .i64 x.1, .str x.2] false)) := (Kp.push hok _).trans (Kp.push (St.ok_push hok) _)
      have hgo2 : ((S.push (.map opsEs 7)).push (.row [.int .i64 x.1, .str x.2] false)).get o = some (.row [.sref op gp 0 rp.length, .sref oe ge 0 rp.length, .str rl, .bool rm] false) := by
        rw [St.get_pushn (by rw [St.pushN]; omega), St.get_pushn (by omega)]; exact hgo
      have hpg2 : ((S.push (.map opsEs 7)).push (.row [.int .i64 x.1, .str x.2] false)).get op = some (.seq gp 4 (inRows rp) 0) := by
        rw [St.get_pushn (by rw [St.pushN]; omega), St.get_pushn (by omega)]; exact hpg
      have heg2 : ((S.push (.map opsEs 7)).push (.row [.int .i64 x.1, .str x.2] false)).get oe = some (.seq ge 1 (ints re) 0) := by
        rw [St.get_pushn (by rw [St.pushN]; omega), St.get_pushn (by omega)]; exact heg
      have hg7 : ((S.push (.map opsEs 7)).push (.row [.int .i64 x.1, .str x.2] false)).get (S.n + 1) = some (.row [.int .i64 x.1, .str x.2] false) := by
        have := @St.get_pushe (S.push (.map opsEs 7)) (.row [.int .i64 x.1, .str x.2] false)
        rwa [St.pushN] at this
      have hTn : ((S.push (.map opsEs 7)).push (.row [.int .i64 x.1, .str x.2] false)).n = S.n + 2 := by rw [St.pushN, St.pushN]
      have hokT := hK.ok
      have hbT : _ = 0 := hK.base.trans hb
      generalize (S.push (.map opsEs 7)).push (.row [.int .i64 x.1, .str x.2] false) = T at *
      have ho4 : o < T.n := by omega
      have hp4 : op < T.n := by omega
      have he4 : oe < T.n := by omega
      have hop' : op ≠ o := fun h => by subst h; rw [hgo2] at hpg2; cases hpg2
      have hoe' : oe ≠ o := fun h => by subst h; rw [hgo2] at heg2; cases heg2
      have hpe' : op ≠ oe := fun h => by subst h; rw [hpg2] at heg2; cases heg2
      have d1 : (o = op) = False := by simp; omega
      have d2 : (o = oe) = False := by simp; omega
      have d3 : (op = o) = False := by simp; omega
      have d4 : (oe = o) = False := by simp; omega
      have d5 : (op = oe) = False := by simp; omega
      have d6 : (oe = op) = False := by simp; omega
      have d7 : (S.n + 1 = o) = False := by simp; omega
      have d8 : (S.n + 1 = op) = False := by simp; omega
      have d9 : (S.n + 1 = oe) = False := by simp; omega
      have c1 := cap32 (rp.length + 1) (by omega)
      have c2 := cap8 (rp.length + 1) (by omega)
      refine W_regionD [[], [], [1], [2, 1], [3, 2, 1], [], [5], [6, 5], [7, 6, 5], [4, 3, 2, 1, 8, 7, 6, 5], [0, 1, 2, 3, 4, 5, 6, 7, 8, 9], [10, 0, 1, 2, 3, 4, 5, 6, 7, 8, 9], [11, 10, 0, 1, 2, 3, 4, 5, 6, 7, 8, 9]] (by decide +kernel) (by decide +kernel) (by decide +kernel) fun K hK => ?_
      simp only [KA, KB, KP, KQ, reduceCtorEq, ↓reduceIte, Int.reduceLT, Int.reduceLE, Int.reduceAdd, Int.reduceSub, Int.reduceNeg, Int.reduceMul, Int.reduceToNat, Int.reduceEq, Int.reduceNe, Int.reduceGT, Int.reduceGE, Nat.reducePow, Nat.reduceAdd, Nat.reduceSub, Nat.reduceLT, Nat.reduceMul, Nat.reduceDiv, Nat.reduceEqDiff, Nat.reduceLeDiff, KT w, KI, hw.KF, A58, A59, A5a, A5b, A5c, A5d, A5e, A5f, A5g, A5h, A5i, opP, rfoot, refsO, refs, wfoot, A5j, A5k, noisyOk, pairOk, Foot.isQuiet, Foot.apart, Ft.apart, Foot.none, A5l, A5m, A48, A49, A5n, A5o, A5p, A5q, Nat.reduceBEq, hgo2, hg7, hpg2, ho4, hp4, d1, d3, d7, d8, hokT, hbT, splice, c1]
      refine hK _ _ ?_
      clear hK
      clear K
      repeat with_reducible (first | refine E0 ?_ | refine E1 ?_ | refine E2 ?_ | refine E3 ?_ | refine E4 ?_ | refine E5 (by decide) ?_ | refine E6 ?_ | refine E7 ?_ | refine E8 ?_ | refine E9 ?_ | refine Ea ?_ | refine Eb ?_ | refine Ec ?_ | refine Ed ?_)
      obtain ⟨u1, u2, u3, u4, u5⟩ := upd2 (.row [.sref op (gp + 1) 0 (rp.length + 1), .sref oe ge 0 rp.length, .str rl, .bool rm] false) (.seq (gp + 1) 4 (inRows rp ++ [[.int .i64 x.1, .int .i64 0, .int .i64 0, .int .i64 0]]) 0) hokT ho4 hp4 (Ne.symm hop') hpg2
      have u7 := u2 (S.n + 1) _ (by omega) (by omega) (fun h => by subst h; rw [hg7] at hpg2; cases hpg2) hg7
      have u8 := u2 oe _ he4 hoe' (Ne.symm hpe') heg2
      generalize (T.set op (.seq (gp + 1) 4 (inRows rp ++ [[.int .i64 x.1, .int .i64 0, .int .i64 0, .int .i64 0]]) 0)).set o (.row [.sref op (gp + 1) 0 (rp.length + 1), .sref oe ge 0 rp.length, .str rl, .bool rm] false) = T6 at *
      have w3 : o < T6.n := by omega
      have w4 : oe < T6.n := by omega
      have okT6 := u5.ok
      have bT6 : _ = 0 := u5.base.trans hbT
      refine W_region fun K hK => ?_
      simp only [KA, KB, KP, KQ, reduceCtorEq, ↓reduceIte, Int.reduceLT, Int.reduceLE, Int.reduceAdd, Int.reduceSub, Int.reduceNeg, Int.reduceMul, Int.reduceToNat, Int.reduceEq, Int.reduceNe, Int.reduceGT, Int.reduceGE, Nat.reducePow, Nat.reduceAdd, Nat.reduceSub, Nat.reduceLT, Nat.reduceMul, Nat.reduceDiv, Nat.reduceEqDiff, Nat.reduceLeDiff, KT w, KI, hw.KF, u1, u8, w3, w4, d2, d4, okT6, bT6, splice, c2, A4z, hel']
      refine hK _ _ ?_
      clear hK
      clear K
      repeat with_reducible (first | refine E0 ?_ | refine E1 ?_ | refine E2 ?_ | refine E3 ?_ | refine E4 ?_ | refine E5 (by decide) ?_ | refine E6 ?_ | refine E7 ?_ | refine E8 ?_ | refine E9 ?_ | refine Ea ?_ | refine Eb ?_ | refine Ec ?_ | refine Ed ?_)
      obtain ⟨k1, k2, k3, k4, k5⟩ := upd2 (.row [.sref op (gp + 1) 0 (rp.length + 1), .sref oe (ge + 1) 0 (rp.length + 1), .str rl, .bool rm] false) (.seq (ge + 1) 1 (ints re ++ [[.int .i64 at']]) 0) okT6 w3 w4 (Ne.symm hoe') u8
      have k7 := k2 (S.n + 1) _ (by omega) (by omega) (fun h => by subst h; rw [u7] at u8; cases u8) u7
      have k8 := k2 op _ (by omega) hop' hpe' u3
      generalize (T6.set oe (.seq (ge + 1) 1 (ints re ++ [[.int .i64 at']]) 0)).set o (.row [.sref op (gp + 1) 0 (rp.length + 1), .sref oe (ge + 1) 0 (rp.length + 1), .str rl, .bool rm] false) = T7 at *
      have y1 : o < T7.n := by omega
      have y2 : (S.n + 1 = o) = False := by simp; omega
      have okT7 := k5.ok
      have bT7 : _ = 0 := k5.base.trans bT6
      refine W_region fun K hK => ?_
      simp only [KA, KB, KP, KQ, reduceCtorEq, ↓reduceIte, Int.reduceLT, Int.reduceLE, Int.reduceAdd, Int.reduceSub, Int.reduceNeg, Int.reduceMul, Int.reduceToNat, Int.reduceEq, Int.reduceNe, Int.reduceGT, Int.reduceGE, Nat.reducePow, Nat.reduceAdd, Nat.reduceSub, Nat.reduceLT, Nat.reduceMul, Nat.reduceDiv, Nat.reduceEqDiff, Nat.reduceLeDiff, KT w, KI, hw.KF, k1, k7, y1, y2, okT7, bT7, splice, set_set]
      refine hK _ _ ?_
      clear hK
      clear K
      repeat with_reducible (first | refine E0 ?_ | refine E1 ?_ | refine E2 ?_ | refine E3 ?_ | refine E4 ?_ | refine E5 (by decide) ?_ | refine E6 ?_ | refine E7 ?_ | refine E8 ?_ | refine E9 ?_ | refine Ea ?_ | refine Eb ?_ | refine Ec ?_ | refine Ed ?_)
      refine W_region fun K hK => ?_
      simp only [KA, KB, KP, KQ, reduceCtorEq, ↓reduceIte, Int.reduceLT, Int.reduceLE, Int.reduceAdd, Int.reduceSub, Int.reduceNeg, Int.reduceMul, Int.reduceToNat, Int.reduceEq, Int.reduceNe, Int.reduceGT, Int.reduceGE, Nat.reducePow, Nat.reduceAdd, Nat.reduceSub, Nat.reduceLT, Nat.reduceMul, Nat.reduceDiv, Nat.reduceEqDiff, Nat.reduceLeDiff, KT w, KI, hw.KF]
      refine hK _ _ ?_
      clear hK
      clear K
      repeat with_reducible (first | refine E0 ?_ | refine E1 ?_ | refine E2 ?_ | refine E3 ?_ | refine E4 ?_ | refine E5 (by decide) ?_ | refine E6 ?_ | refine E7 ?_ | refine E8 ?_ | refine E9 ?_ | refine Ea ?_ | refine Eb ?_ | refine Ec ?_ | refine Ed ?_)
      refine AtEnd_of rfl ?_
      simp only [KA, KP, KQ, reduceCtorEq, ↓reduceIte, Int.reduceLT, Int.reduceLE, Int.reduceAdd, Int.reduceSub, Int.reduceNeg, Int.reduceMul, Int.reduceToNat, Int.reduceEq, Int.reduceNe, Int.reduceGT, Int.reduceGE, Nat.reducePow, Nat.reduceAdd, Nat.reduceSub, Nat.reduceLT, Nat.reduceMul, Nat.reduceDiv, Nat.reduceEqDiff, Nat.reduceLeDiff, KT w, KI, hw.KF, RS_some, aresults_nil, aresults_tmp, aresults_cell, one]
      have hi1 : inRows rp ++ [[.int .i64 x.1, .int .i64 0, .int .i64 0, .int .i64 0]] = inRows (rp ++ [⟨x.1, 0, 0, 0⟩]) := inRows_snoc rp ⟨x.1, 0, 0, 0⟩
      rw [hi1] at k8
      rw [ints_snoc] at k3
      refine ⟨⟨.sref op (gp + 1) 0 (rp.length + 1), .sref oe (ge + 1) 0 (rp.length + 1), St.get_set_same okT7 _ y1, .inr ⟨op, gp + 1, by simp, by rw [St.setN]; omega, ?_⟩, .inr ⟨oe, ge + 1, by simp [hel'], by rw [St.setN]; omega, ?_⟩, by simp [hel'], by simp, by simp⟩, ((hK.trans u5).trans k5).trans (Kp.set okT7 y1 _)⟩
      · rw [St.get_setn y1 hop']; exact k8
      · rw [St.get_setn y1 hoe']; exact k3
end Go.Am.V
