/- vm.Parse. -/
import Derived.Test.YtjdhcjhalkjamaaDoorV16
set_option linter.unusedSimpArgs false
set_option linter.unusedVariables false
set_option maxRecDepth 20000
namespace Go.Am.V
open Go.Proofs Go.IntWalk

variable {w : Ways}

def stepP (r : Rd) (a : Int) (wd : List UInt8) : Int × Rd :=
  if r.left = [] then (if r.more then beginR r a wd else if wd = [59] then (0, { r with more := true }) else (10, r)) else numberR r a wd
def stpP (z : Rd × Option (Int × Int)) (x : Nat × List UInt8) : (Rd × Option (Int × Int)) × Bool :=
  if (stepP z.1 x.1 x.2).1 = 0 then (((stepP z.1 x.1 x.2).2, none), true) else (((stepP z.1 x.1 x.2).2, some ((stepP z.1 x.1 x.2).1, (x.1 : Int))), false)

structure Good (r : Rd) : Prop where
  len : r.p.length ≤ 64
  ne : r.left ≠ [] → r.p ≠ []
  chars : ∀ f ∈ r.left, f = 88 ∨ f = 89 ∨ f = 90

theorem findOp_some {wd : List UInt8} {x : Int × List UInt8} (h : findOp wd = some x) : ∀ f ∈ x.2, f = 88 ∨ f = 89 ∨ f = 90 := by
  unfold findOp at h
  simp only [Option.map_eq_some_iff] at h
  obtain ⟨y, hy, rfl⟩ := h
  have := List.mem_of_find?_eq_some hy
  simp only [opTab, List.mem_cons, List.not_mem_nil, or_false] at this
  rcases this with rfl | rfl | rfl | rfl | rfl | rfl | rfl <;> simp

theorem Good.step {r : Rd} (h : Good r) (a : Int) (wd : List UInt8) : Good (stepP r a wd).2 := by
  unfold stepP
  split
  · split
    · unfold beginR
      split
      · exact h
      · rename_i x hx
        split
        · exact h
        · rename_i h64
          exact ⟨by simp; have := h.len; omega, fun _ => by simp, fun f hf => findOp_some hx f hf⟩
    · split
      · rename_i hl _ _
        exact ⟨h.len, fun hh => absurd hl hh, h.chars⟩
      · exact h
  · rename_i hl
    unfold numberR
    split
    · exact h
    · split
      · exact h
      · exact ⟨by simpa using h.len, fun _ => by simpa using h.ne hl, fun f hf => h.chars f (List.mem_of_mem_tail hf)⟩

theorem words18 (hw : Std w) (s : List UInt8) (S : St) (hok : S.ok) : callF (cfg w) (lim (cfg w)) 18 [.str s] S = some (.fn 35 [] [.ptr S.n 0], S.push (.row [.str s] false)) := by
  rw [callF_raw (by exact hw.e18) (by exact hw.m18)]
  refine call_eq_of ?_
  refine call_of_W (fn18 w) rfl ?_
  simp only [Tryd.f18, List.length_cons, List.length_nil, ↓reduceIte, Int.reduceLT, Int.reduceLE, Int.reduceAdd, Int.reduceSub, Int.reduceNeg, Int.reduceMul, Int.reduceToNat, Int.reduceEq, Int.reduceNe, Int.reduceGT, Int.reduceGE, Nat.reducePow, IntKind.bits, Nat.reduceAdd, Nat.reduceSub, List.cons_append, List.nil_append]
  repeat with_reducible (first | refine E0 ?_ | refine E1 ?_ | refine E2 ?_ | refine E3 ?_ | refine E4 ?_ | refine E5 (by decide) ?_ | refine E6 ?_ | refine E7 ?_ | refine E8 ?_ | refine E9 ?_ | refine Ea ?_ | refine Eb ?_ | refine Ec ?_ | refine Ed ?_)
  refine W_region fun K hK => ?_
  simp only [KA, KB, KP, KQ, reduceCtorEq, ↓reduceIte, Int.reduceLT, Int.reduceLE, Int.reduceAdd, Int.reduceSub, Int.reduceNeg, Int.reduceMul, Int.reduceToNat, Int.reduceEq, Int.reduceNe, Int.reduceGT, Int.reduceGE, Nat.reducePow, Nat.reduceAdd, Nat.reduceSub, Nat.reduceLT, Nat.reduceMul, Nat.reduceDiv, Nat.reduceEqDiff, Nat.reduceLeDiff, KT w, KI, hw.KF]
  refine hK _ _ ?_
  clear hK
  clear K
  repeat with_reducible (first | refine E0 ?_ | refine E1 ?_ | refine E2 ?_ | refine E3 ?_ | refine E4 ?_ | refine E5 (by decide) ?_ | refine E6 ?_ | refine E7 ?_ | refine E8 ?_ | refine E9 ?_ | refine Ea ?_ | refine Eb ?_ | refine Ec ?_ | refine Ed ?_)
  refine W_region fun K hK => ?_
  simp only [KA, KB, KP, KQ, reduceCtorEq, ↓reduceIte, Int.reduceLT, Int.reduceLE, Int.reduceAdd, Int.reduceSub, Int.reduceNeg, Int.reduceMul, Int.reduceToNat, Int.reduceEq, Int.reduceNe, Int.reduceGT, Int.reduceGE, Nat.reducePow, Nat.reduceAdd, Nat.reduceSub, Nat.reduceLT, Nat.reduceMul, Nat.reduceDiv, Nat.reduceEqDiff, Nat.reduceLeDiff, KT w, KI, hw.KF]
  refine hK _ _ ?_
  clear hK
  clear K
  repeat with_reducible (first | refine E0 ?_ | refine E1 ?_ | refine E2 ?_ | refine E3 ?_ | refine E4 ?_ | refine E5 (by decide) ?_ | refine E6 ?_ | refine E7 ?_ | refine E8 ?_ | refine E9 ?_ | refine Ea ?_ | refine Eb ?_ | refine Ec ?_ | refine Ed ?_)
  refine AtEnd_of rfl ?_
  simp only [KA, KP, KQ, reduceCtorEq, ↓reduceIte, Int.reduceLT, Int.reduceLE, Int.reduceAdd, Int.reduceSub, Int.reduceNeg, Int.reduceMul, Int.reduceToNat, Int.reduceEq, Int.reduceNe, Int.reduceGT, Int.reduceGE, Nat.reducePow, Nat.reduceAdd, Nat.reduceSub, Nat.reduceLT, Nat.reduceMul, Nat.reduceDiv, Nat.reduceEqDiff, Nat.reduceLeDiff, KT w, KI, hw.KF, RS_some, aresults_nil, aresults_tmp, aresults_cell, one]
  try trivial

/-- Where the loop over the words stands. -/
structure JP (L : Lp) (s : List UInt8) (b : Bool) (z : Rd × Option (Int × Int)) (S : St) : Prop where
  ok : S.ok
  base : S.base = 0
  n : 6 < S.n
  lp : S.get 6 = some (if b then L.at .ready .nrm else L.at .done .ret)
  dfr : S.get 5 = some .dfr
  c0 : S.get 0 = some (.row [.nils] false)
  c4 : S.get 4 = some (.row [.str s] false)
  yes : b = true → z.2 = none ∧ S.get 1 = some (.row [.int .i64 0, .int .i64 0] false) ∧ S.get 3 = some (.row [.ptr 2 0] false) ∧ Rdr 2 z.1 S ∧ Good z.1
  no : b = false → ∃ e a, z.2 = some (e, a) ∧ S.get 1 = some (.row [.int .i64 e, .int .i64 a] false)


theorem Rdr.setL {o l : Nat} {r : Rd} {S : St} {x X : AObj} (h : Rdr o r S) (hl : l < S.n) (hne : o ≠ l) (hx : S.get l = some x) (hg : ∀ g es rows e, x ≠ AObj.seq g es rows e) : Rdr o r (S.set l X) := by
  obtain ⟨pv, ev, h1, h2, h3, h4⟩ := h
  refine ⟨pv, ev, by rw [St.get_setn hl hne]; exact h1, ?_, ?_, h4⟩
  · rcases h2 with h | ⟨q, g, e1, e2, e3⟩
    · exact .inl h
    · have hq : q ≠ l := fun e => by subst e; rw [e3] at hx; exact hg _ _ _ _ (Option.some.inj hx).symm
      exact .inr ⟨q, g, e1, by rw [St.setN]; exact e2, by rw [St.get_setn hl hq]; exact e3⟩
  · rcases h3 with h | ⟨q, g, e1, e2, e3⟩
    · exact .inl h
    · have hq : q ≠ l := fun e => by subst e; rw [e3] at hx; exact hg _ _ _ _ (Option.some.inj hx).symm
      exact .inr ⟨q, g, e1, by rw [St.setN]; exact e2, by rw [St.get_setn hl hq]; exact e3⟩

/-- What the middle of a round leaves. -/
def Mid (r' : Rd) (a e : Int) (S1 : St) : Ex → Fr → St → Prop := fun ex fr S => ∃ tm, ex = .nrm ∧ fr = ⟨tm, [], some 6, 8⟩ ∧ tm.length = 92 ∧ tget tm 2 = .ptr 0 0 ∧ tget tm 3 = .ptr 1 0 ∧ tget tm 5 = .int .i64 a ∧ tget tm 7 = .int .i64 e ∧ Rdr 2 r' S ∧ Kp 2 S1 S

theorem yield_val {c : Cfg} {l : Nat} {L : Lp} {p : Ex} {args : List AV} {S : St} {v : AV} {Q : St → Prop} (hg : S.get l = some (L.at .ready p)) (hl : args.length = L.ps.length)
    (h : W c L.asg ⟨(L.ps.zip args).foldl (fun t pa => tput t pa.1 pa.2) L.tm, [], some l, L.fn⟩ S (YA c l L fun v' S' => v' = v ∧ Q S')) : ∃ S', yieldS (lim c) l args S = some (v, S') ∧ Q S' := by
  obtain ⟨v', S', h1, rfl, h2⟩ := yield_of hg hl h
  exact ⟨S', h1, h2⟩

theorem Rdr.more {o : Nat} {r : Rd} {S : St} {pv ev : AV} {m : Bool} {l : List UInt8} (hl : r.left = l) (hok : S.ok) (ho : o < S.n) (h1 : S.get o = some (.row [pv, ev, .str l, .bool m] false)) (h2 : PV pv r.p S) (h3 : EV ev r.ends S) (h4 : r.ends.length = r.p.length ∧ (r.p = [] ↔ pv = .nils) ∧ (r.p = [] ↔ ev = .nils)) : Rdr o { r with more := true } (S.set o (.row [pv, ev, .str l, .bool true] false)) := by
  subst hl
  refine ⟨pv, ev, St.get_sete hok ho, ?_, ?_, h4⟩
  · rcases h2 with h | ⟨q, g, e1, e2, e3⟩
    · exact .inl h
    · have hq : q ≠ o := fun e => by subst e; rw [e3] at h1; cases h1
      exact .inr ⟨q, g, e1, by rw [St.setN]; exact e2, by rw [St.get_setn ho hq]; exact e3⟩
  · rcases h3 with h | ⟨q, g, e1, e2, e3⟩
    · exact .inl h
    · have hq : q ≠ o := fun e => by subst e; rw [e3] at h1; cases h1
      exact .inr ⟨q, g, e1, by rw [St.setN]; exact e2, by rw [St.get_setn ho hq]; exact e3⟩

theorem get3 {T : St} (hok : T.ok) (hn : 6 < T.n) (X Y Z : AObj) : (((T.set 0 X).set 1 Y).set 5 Z).get 0 = some X ∧ (((T.set 0 X).set 1 Y).set 5 Z).get 1 = some Y ∧ ((T.set 0 X).set 1 Y).get 5 = T.get 5 ∧ ((T.set 0 X).set 1 Y).base = T.base ∧ (∀ q, q ≠ 0 → q ≠ 1 → q ≠ 5 → (((T.set 0 X).set 1 Y).set 5 Z).get q = T.get q) := by
  have n0 : 0 < T.n := by omega
  have n1 : 1 < (T.set 0 X).n := by rw [St.setN]; omega
  have n5 : 5 < ((T.set 0 X).set 1 Y).n := by simp only [St.setN]; omega
  refine ⟨?_, ?_, ?_, by simp only [St.setB], fun q h0 h1 h5 => ?_⟩
  · rw [St.get_setn n5 (by omega), St.get_setn n1 (by omega)]; exact St.get_sete hok n0
  · rw [St.get_setn n5 (by omega)]; exact St.get_sete (St.ok_set hok) n1
  · rw [St.get_setn n1 (by omega), St.get_setn n0 (by omega)]
  · rw [St.get_setn n5 h5, St.get_setn n1 h1, St.get_setn n0 h0]

/-- Where the first operation stands that goes too far. -/
def badZ (n : Nat) : List Ins → List Int → Option Int
  | i :: p, e :: es => if (n : Int) < i.z then some e else badZ n p es
  | _, _ => none
def parseR (s : List UInt8) (R : (Rd × Option (Int × Int)) × Bool) : List Ins × Int × Int :=
  if R.2 then (if R.1.1.more = true ∨ R.1.1.left ≠ [] then ([], 11, s.length) else (match badZ R.1.1.p.length R.1.1.p R.1.1.ends with | some a => ([], 10, a) | none => (R.1.1.p, 0, 0)))
  else (match R.1.2 with | some e => ([], e.1, e.2) | none => ([], 0, 0))
def parseV (s : List UInt8) : List Ins × Int × Int := parseR s (runW stpP (wl s s.length 0) (⟨[], [], [], true⟩, none))
/-- Result and fault, frozen. -/
def resP (r : List Ins × Int × Int) : AV := .tup [.vec (inRows r.1), .agg [.int .i64 r.2.1, .int .i64 r.2.2]]

/-- Behind the loop over the words. -/
structure AfP (r : Rd) (pv ev : AV) (S : St) : Prop where
  ok : S.ok
  base : S.base = 0
  n : 6 < S.n
  g0 : S.get 0 = some (.row [.nils] false)
  g1 : S.get 1 = some (.row [.int .i64 0, .int .i64 0] false)
  g3 : S.get 3 = some (.row [.ptr 2 0] false)
  g5 : S.get 5 = some .dfr
  g2 : S.get 2 = some (.row [pv, ev, .str r.left, .bool r.more] false)
  hp : PV pv r.p S
  he : EV ev r.ends S
theorem AfP.push {r : Rd} {pv ev : AV} {S : St} (h : AfP r pv ev S) (a : AObj) : AfP r pv ev (S.push a) := by
  have hn := h.n
  have key : ∀ q x, q < S.n → S.get q = some x → (S.push a).get q = some x := fun q x hq hx => by rw [St.get_pushn (by omega)]; exact hx
  exact ⟨St.ok_push h.ok, by rw [St.pushB]; exact h.base, by rw [St.pushN]; omega, key _ _ (by omega) h.g0, key _ _ (by omega) h.g1, key _ _ (by omega) h.g3, key _ _ (by omega) h.g5, key _ _ (by omega) h.g2, h.hp.mono key (by rw [St.pushN]; omega), h.he.mono key (by rw [St.pushN]; omega)⟩

theorem ok_pushE (S : St) (a : AObj) : (S.push a).ok = S.ok := by unfold St.ok St.push; simp
theorem ok_nilE : St.nil.ok = True := by simp [St.ok_nil]
set_option maxHeartbeats 4000000 in
theorem parse8 (hw : Std w) (hops : w.ext 26 = some (.push opsF)) (hat : w.ext 37 = some (.val atoiF)) (hit : w.ext 27 = some (.val itoaF)) (hix : w.ext 36 = some (.val idxF)) {s : List UInt8} (hs : s.length ≤ 281474976710656) (hidx : ∀ k, k ≤ s.length → idxOk (s.drop k) = true) : PC (cfg w) 8 [.str s] (resP (parseV s)) := by
  refine PC_of (args' := [.str s]) hw.e8 hw.m8 (by simp [nrmA, nrm]) ?_
  have hwd := words18 hw s
  refine call_of_W (fn8 w) rfl ?_
  simp only [Tryd.f8, List.length_cons, List.length_nil, ↓reduceIte, Int.reduceLT, Int.reduceLE, Int.reduceAdd, Int.reduceSub, Int.reduceNeg, Int.reduceMul, Int.reduceToNat, Int.reduceEq, Int.reduceNe, Int.reduceGT, Int.reduceGE, Nat.reducePow, IntKind.bits, Nat.reduceAdd, Nat.reduceSub, List.cons_append, List.nil_append]
  repeat with_reducible (first | refine E0 ?_ | refine E1 ?_ | refine E2 ?_ | refine E3 ?_ | refine E4 ?_ | refine E5 (by decide) ?_ | refine E6 ?_ | refine E7 ?_ | refine E8 ?_ | refine E9 ?_ | refine Ea ?_ | refine Eb ?_ | refine Ec ?_ | refine Ed ?_)
  refine W_region fun K hK => ?_
  simp only [KA, KB, KP, KQ, reduceCtorEq, ↓reduceIte, Int.reduceLT, Int.reduceLE, Int.reduceAdd, Int.reduceSub, Int.reduceNeg, Int.reduceMul, Int.reduceToNat, Int.reduceEq, Int.reduceNe, Int.reduceGT, Int.reduceGE, Nat.reducePow, Nat.reduceAdd, Nat.reduceSub, Nat.reduceLT, Nat.reduceMul, Nat.reduceDiv, Nat.reduceEqDiff, Nat.reduceLeDiff, KT w, KI, hw.KF]
  refine hK _ _ ?_
  clear hK
  clear K
  repeat with_reducible (first | refine E0 ?_ | refine E1 ?_ | refine E2 ?_ | refine E3 ?_ | refine E4 ?_ | refine E5 (by decide) ?_ | refine E6 ?_ | refine E7 ?_ | refine E8 ?_ | refine E9 ?_ | refine Ea ?_ | refine Eb ?_ | refine Ec ?_ | refine Ed ?_)
  refine W_region fun K hK => ?_
  simp only [KA, KB, KP, KQ, reduceCtorEq, ↓reduceIte, Int.reduceLT, Int.reduceLE, Int.reduceAdd, Int.reduceSub, Int.reduceNeg, Int.reduceMul, Int.reduceToNat, Int.reduceEq, Int.reduceNe, Int.reduceGT, Int.reduceGE, Nat.reducePow, Nat.reduceAdd, Nat.reduceSub, Nat.reduceLT, Nat.reduceMul, Nat.reduceDiv, Nat.reduceEqDiff, Nat.reduceLeDiff, KT w, KI, hw.KF, splice]
  refine hK _ _ ?_
  clear hK
  clear K
  repeat with_reducible (first | refine E0 ?_ | refine E1 ?_ | refine E2 ?_ | refine E3 ?_ | refine E4 ?_ | refine E5 (by decide) ?_ | refine E6 ?_ | refine E7 ?_ | refine E8 ?_ | refine E9 ?_ | refine Ea ?_ | refine Eb ?_ | refine Ec ?_ | refine Ed ?_)
  refine W_region fun K hK => ?_
  simp only [KA, KB, KP, KQ, reduceCtorEq, ↓reduceIte, Int.reduceLT, Int.reduceLE, Int.reduceAdd, Int.reduceSub, Int.reduceNeg, Int.reduceMul, Int.reduceToNat, Int.reduceEq, Int.reduceNe, Int.reduceGT, Int.reduceGE, Nat.reducePow, Nat.reduceAdd, Nat.reduceSub, Nat.reduceLT, Nat.reduceMul, Nat.reduceDiv, Nat.reduceEqDiff, Nat.reduceLeDiff, KT w, KI, hw.KF, hwd, ok_pushE, ok_nilE]
  refine hK _ _ ?_
  clear hK
  clear K
  repeat with_reducible (first | refine E0 ?_ | refine E1 ?_ | refine E2 ?_ | refine E3 ?_ | refine E4 ?_ | refine E5 (by decide) ?_ | refine E6 ?_ | refine E7 ?_ | refine E8 ?_ | refine E9 ?_ | refine Ea ?_ | refine Eb ?_ | refine Ec ?_ | refine Ed ?_)
  refine W_range (by simp only [KA, KP, KQ, reduceCtorEq, ↓reduceIte, Int.reduceLT, Int.reduceLE, Int.reduceAdd, Int.reduceSub, Int.reduceNeg, Int.reduceMul, Int.reduceToNat, Int.reduceEq, Int.reduceNe, Int.reduceGT, Int.reduceGE, Nat.reducePow, Nat.reduceAdd, Nat.reduceSub, Nat.reduceLT, Nat.reduceMul, Nat.reduceDiv, Nat.reduceEqDiff, Nat.reduceLeDiff, KT w, KI, hw.KF]; rfl) fun L hL => ?_
  have hps := congrArg Lp.ps hL
  have hasg := congrArg Lp.asg hL
  have hbody := congrArg Lp.body hL
  have hfn := congrArg Lp.fn hL
  have hl : L.tm.length = 92 := by rw [hL]; simp only [KA, KP, KQ, reduceCtorEq, ↓reduceIte, Int.reduceLT, Int.reduceLE, Int.reduceAdd, Int.reduceSub, Int.reduceNeg, Int.reduceMul, Int.reduceToNat, Int.reduceEq, Int.reduceNe, Int.reduceGT, Int.reduceGE, Nat.reducePow, Nat.reduceAdd, Nat.reduceSub, Nat.reduceLT, Nat.reduceMul, Nat.reduceDiv, Nat.reduceEqDiff, Nat.reduceLeDiff, KT w, KI, hw.KF]
  have h2 : tget L.tm 2 = .ptr 0 0 := by rw [hL]; simp only [KA, KP, KQ, reduceCtorEq, ↓reduceIte, Int.reduceLT, Int.reduceLE, Int.reduceAdd, Int.reduceSub, Int.reduceNeg, Int.reduceMul, Int.reduceToNat, Int.reduceEq, Int.reduceNe, Int.reduceGT, Int.reduceGE, Nat.reducePow, Nat.reduceAdd, Nat.reduceSub, Nat.reduceLT, Nat.reduceMul, Nat.reduceDiv, Nat.reduceEqDiff, Nat.reduceLeDiff, KT w, KI, hw.KF]
  have h3 : tget L.tm 3 = .ptr 1 0 := by rw [hL]; simp only [KA, KP, KQ, reduceCtorEq, ↓reduceIte, Int.reduceLT, Int.reduceLE, Int.reduceAdd, Int.reduceSub, Int.reduceNeg, Int.reduceMul, Int.reduceToNat, Int.reduceEq, Int.reduceNe, Int.reduceGT, Int.reduceGE, Nat.reducePow, Nat.reduceAdd, Nat.reduceSub, Nat.reduceLT, Nat.reduceMul, Nat.reduceDiv, Nat.reduceEqDiff, Nat.reduceLeDiff, KT w, KI, hw.KF]
  have h4 : tget L.tm 4 = .ptr 3 0 := by rw [hL]; simp only [KA, KP, KQ, reduceCtorEq, ↓reduceIte, Int.reduceLT, Int.reduceLE, Int.reduceAdd, Int.reduceSub, Int.reduceNeg, Int.reduceMul, Int.reduceToNat, Int.reduceEq, Int.reduceNe, Int.reduceGT, Int.reduceGE, Nat.reducePow, Nat.reduceAdd, Nat.reduceSub, Nat.reduceLT, Nat.reduceMul, Nat.reduceDiv, Nat.reduceEqDiff, Nat.reduceLeDiff, KT w, KI, hw.KF]
  simp only at hps hasg hbody hfn
  clear hL
  have T : TakW w 6 4 s stpP (JP L s) := by
    refine ⟨fun b z S h => ⟨h.c4, h.ok, h.base, h.n⟩, ?_⟩
    intro z S a x hJ ha hx
    obtain ⟨hn0, hg1, hg3, hR, hG⟩ := hJ.yes rfl
    have hg := hJ.lp
    simp only [if_true] at hg
    have hok := hJ.ok
    have hb := hJ.base
    have hn := hJ.n
    have g0 := hJ.c0
    have g4 := hJ.c4
    have g5 := hJ.dfr
    refine yield_val hg (by rw [hps]; rfl) ?_
    rw [hasg, hps, hfn]
    simp only [List.zip_cons_cons, List.zip_nil_right, List.foldl]
    repeat with_reducible (first | refine E0 ?_ | refine E1 ?_ | refine E2 ?_ | refine E3 ?_ | refine E4 ?_ | refine E5 (by decide) ?_ | refine E6 ?_ | refine E7 ?_ | refine E8 ?_ | refine E9 ?_ | refine Ea ?_ | refine Eb ?_ | refine Ec ?_ | refine Ed ?_)
    refine W_region fun K hK => ?_
    simp only [KA, KB, KP, KQ, reduceCtorEq, ↓reduceIte, Int.reduceLT, Int.reduceLE, Int.reduceAdd, Int.reduceSub, Int.reduceNeg, Int.reduceMul, Int.reduceToNat, Int.reduceEq, Int.reduceNe, Int.reduceGT, Int.reduceGE, Nat.reducePow, Nat.reduceAdd, Nat.reduceSub, Nat.reduceLT, Nat.reduceMul, Nat.reduceDiv, Nat.reduceEqDiff, Nat.reduceLeDiff, KT w, KI, hw.KF, hl]
    refine hK _ _ ?_
    clear hK
    clear K
    repeat with_reducible (first | refine E0 ?_ | refine E1 ?_ | refine E2 ?_ | refine E3 ?_ | refine E4 ?_ | refine E5 (by decide) ?_ | refine E6 ?_ | refine E7 ?_ | refine E8 ?_ | refine E9 ?_ | refine Ea ?_ | refine Eb ?_ | refine Ec ?_ | refine Ed ?_)
    refine W_region fun K hK => ?_
    simp only [KA, KB, KP, KQ, reduceCtorEq, ↓reduceIte, Int.reduceLT, Int.reduceLE, Int.reduceAdd, Int.reduceSub, Int.reduceNeg, Int.reduceMul, Int.reduceToNat, Int.reduceEq, Int.reduceNe, Int.reduceGT, Int.reduceGE, Nat.reducePow, Nat.reduceAdd, Nat.reduceSub, Nat.reduceLT, Nat.reduceMul, Nat.reduceDiv, Nat.reduceEqDiff, Nat.reduceLeDiff, KT w, KI, hw.KF, hl]
    refine hK _ _ ?_
    clear hK
    clear K
    refine ⟨rfl, .nrm, hg, by omega, ?_⟩
    rw [hbody]
    clear hbody hasg hps hfn hwd
    have hR1 : Rdr 2 z.1 (S.set 6 (L.at .busy .nrm)) := hR.setL hn (by omega) hg (fun _ _ _ _ h => by cases h)
    have k0 : (S.set 6 (L.at .busy .nrm)).get 0 = some (.row [.nils] false) := by rw [St.get_setn hn (by omega)]; exact g0
    have k1 : (S.set 6 (L.at .busy .nrm)).get 1 = some (.row [.int .i64 0, .int .i64 0] false) := by rw [St.get_setn hn (by omega)]; exact hg1
    have k3 : (S.set 6 (L.at .busy .nrm)).get 3 = some (.row [.ptr 2 0] false) := by rw [St.get_setn hn (by omega)]; exact hg3
    have k4 : (S.set 6 (L.at .busy .nrm)).get 4 = some (.row [.str s] false) := by rw [St.get_setn hn (by omega)]; exact g4
    have k5 : (S.set 6 (L.at .busy .nrm)).get 5 = some .dfr := by rw [St.get_setn hn (by omega)]; exact g5
    have k6 : (S.set 6 (L.at .busy .nrm)).get 6 = some (L.at .busy .nrm) := St.get_sete hok hn
    have kok : (S.set 6 (L.at .busy .nrm)).ok := St.ok_set hok
    have kb : (S.set 6 (L.at .busy .nrm)).base = 0 := by rw [St.setB]; exact hb
    have kn : 6 < (S.set 6 (L.at .busy .nrm)).n := by rw [St.setN]; exact hn
    generalize S.set 6 (L.at .busy .nrm) = S1 at *
    clear hg3 hg1 hR hg g0 g4 g5 hn hb hok hJ hn0
    refine W_cut (fun tm => tm.length = 92 ∧ tget tm 2 = .ptr 0 0 ∧ tget tm 3 = .ptr 1 0 ∧ tget tm 4 = .ptr 3 0 ∧ tget tm 5 = .int .i64 (a : Nat) ∧ tget tm 6 = .str x) (by simp only [KA, KP, KQ, reduceCtorEq, ↓reduceIte, Int.reduceLT, Int.reduceLE, Int.reduceAdd, Int.reduceSub, Int.reduceNeg, Int.reduceMul, Int.reduceToNat, Int.reduceEq, Int.reduceNe, Int.reduceGT, Int.reduceGE, Nat.reducePow, Nat.reduceAdd, Nat.reduceSub, Nat.reduceLT, Nat.reduceMul, Nat.reduceDiv, Nat.reduceEqDiff, Nat.reduceLeDiff, KT w, KI, hw.KF, hl, h2, h3, h4]) fun tm ⟨htm, t2, t3, t4, t5, t6⟩ => ?_
    repeat with_reducible (first | refine E0 ?_ | refine E1 ?_ | refine E2 ?_ | refine E3 ?_ | refine E4 ?_ | refine E5 (by decide) ?_ | refine E6 ?_ | refine E7 ?_ | refine E8 ?_ | refine E9 ?_ | refine Ea ?_ | refine Eb ?_ | refine Ec ?_ | refine Ed ?_)
    refine W_region fun K hK => ?_
    simp only [KA, KB, KP, KQ, reduceCtorEq, ↓reduceIte, Int.reduceLT, Int.reduceLE, Int.reduceAdd, Int.reduceSub, Int.reduceNeg, Int.reduceMul, Int.reduceToNat, Int.reduceEq, Int.reduceNe, Int.reduceGT, Int.reduceGE, Nat.reducePow, Nat.reduceAdd, Nat.reduceSub, Nat.reduceLT, Nat.reduceMul, Nat.reduceDiv, Nat.reduceEqDiff, Nat.reduceLeDiff, KT w, KI, hw.KF, htm]
    refine hK _ _ ?_
    clear hK
    clear K
    refine Then_nrm ?_
    refine W_seq ?_
    refine W.mono (Q := Mid (stepP z.1 a x).2 (a : Nat) (stepP z.1 a x).1 S1) ?_ ?_
    · obtain ⟨pv, ev, q2, hpv, hev, hel, hpn, hen⟩ := hR1
      have hR1 : Rdr 2 z.1 S1 := ⟨pv, ev, q2, hpv, hev, hel, hpn, hen⟩
      have ln2 : 2 < S1.n := by omega
      by_cases hleft : z.1.left = []
      · cases hmore : z.1.more
        · have hst : stepP z.1 a x = if x = [59] then (0, { z.1 with more := true }) else (10, z.1) := by simp [stepP, hleft, hmore]
          rw [hst]
          rw [hmore, hleft] at q2
          repeat with_reducible (first | refine E0 ?_ | refine E1 ?_ | refine E2 ?_ | refine E3 ?_ | refine E4 ?_ | refine E5 (by decide) ?_ | refine E6 ?_ | refine E7 ?_ | refine E8 ?_ | refine E9 ?_ | refine Ea ?_ | refine Eb ?_ | refine Ec ?_ | refine Ed ?_)
          refine W_region fun K hK => ?_
          simp only [KA, KB, KP, KQ, reduceCtorEq, ↓reduceIte, Int.reduceLT, Int.reduceLE, Int.reduceAdd, Int.reduceSub, Int.reduceNeg, Int.reduceMul, Int.reduceToNat, Int.reduceEq, Int.reduceNe, Int.reduceGT, Int.reduceGE, Nat.reducePow, Nat.reduceAdd, Nat.reduceSub, Nat.reduceLT, Nat.reduceMul, Nat.reduceDiv, Nat.reduceEqDiff, Nat.reduceLeDiff, KT w, KI, hw.KF, htm, t4, k3, q2]
          refine hK _ _ ?_
          clear hK
          clear K
          repeat with_reducible (first | refine E0 ?_ | refine E1 ?_ | refine E2 ?_ | refine E3 ?_ | refine E4 ?_ | refine E5 (by decide) ?_ | refine E6 ?_ | refine E7 ?_ | refine E8 ?_ | refine E9 ?_ | refine Ea ?_ | refine Eb ?_ | refine Ec ?_ | refine Ed ?_)
          refine W_condF (by simp only [KA, KP, KQ, reduceCtorEq, ↓reduceIte, Int.reduceLT, Int.reduceLE, Int.reduceAdd, Int.reduceSub, Int.reduceNeg, Int.reduceMul, Int.reduceToNat, Int.reduceEq, Int.reduceNe, Int.reduceGT, Int.reduceGE, Nat.reducePow, Nat.reduceAdd, Nat.reduceSub, Nat.reduceLT, Nat.reduceMul, Nat.reduceDiv, Nat.reduceEqDiff, Nat.reduceLeDiff, KT w, KI, hw.KF, htm]) ?_
          repeat with_reducible (first | refine E0 ?_ | refine E1 ?_ | refine E2 ?_ | refine E3 ?_ | refine E4 ?_ | refine E5 (by decide) ?_ | refine E6 ?_ | refine E7 ?_ | refine E8 ?_ | refine E9 ?_ | refine Ea ?_ | refine Eb ?_ | refine Ec ?_ | refine Ed ?_)
          refine W_region fun K hK => ?_
          simp only [KA, KB, KP, KQ, reduceCtorEq, ↓reduceIte, Int.reduceLT, Int.reduceLE, Int.reduceAdd, Int.reduceSub, Int.reduceNeg, Int.reduceMul, Int.reduceToNat, Int.reduceEq, Int.reduceNe, Int.reduceGT, Int.reduceGE, Nat.reducePow, Nat.reduceAdd, Nat.reduceSub, Nat.reduceLT, Nat.reduceMul, Nat.reduceDiv, Nat.reduceEqDiff, Nat.reduceLeDiff, KT w, KI, hw.KF, htm, t4, k3, q2]
          refine hK _ _ ?_
          clear hK
          clear K
          repeat with_reducible (first | refine E0 ?_ | refine E1 ?_ | refine E2 ?_ | refine E3 ?_ | refine E4 ?_ | refine E5 (by decide) ?_ | refine E6 ?_ | refine E7 ?_ | refine E8 ?_ | refine E9 ?_ | refine Ea ?_ | refine Eb ?_ | refine Ec ?_ | refine Ed ?_)
          refine W_condF (by simp only [KA, KP, KQ, reduceCtorEq, ↓reduceIte, Int.reduceLT, Int.reduceLE, Int.reduceAdd, Int.reduceSub, Int.reduceNeg, Int.reduceMul, Int.reduceToNat, Int.reduceEq, Int.reduceNe, Int.reduceGT, Int.reduceGE, Nat.reducePow, Nat.reduceAdd, Nat.reduceSub, Nat.reduceLT, Nat.reduceMul, Nat.reduceDiv, Nat.reduceEqDiff, Nat.reduceLeDiff, KT w, KI, hw.KF, htm]) ?_
          repeat with_reducible (first | refine E0 ?_ | refine E1 ?_ | refine E2 ?_ | refine E3 ?_ | refine E4 ?_ | refine E5 (by decide) ?_ | refine E6 ?_ | refine E7 ?_ | refine E8 ?_ | refine E9 ?_ | refine Ea ?_ | refine Eb ?_ | refine Ec ?_ | refine Ed ?_)
          refine W_region fun K hK => ?_
          simp only [KA, KB, KP, KQ, reduceCtorEq, ↓reduceIte, Int.reduceLT, Int.reduceLE, Int.reduceAdd, Int.reduceSub, Int.reduceNeg, Int.reduceMul, Int.reduceToNat, Int.reduceEq, Int.reduceNe, Int.reduceGT, Int.reduceGE, Nat.reducePow, Nat.reduceAdd, Nat.reduceSub, Nat.reduceLT, Nat.reduceMul, Nat.reduceDiv, Nat.reduceEqDiff, Nat.reduceLeDiff, KT w, KI, hw.KF, htm, t6]
          refine hK _ _ ?_
          clear hK
          clear K
          repeat with_reducible (first | refine E0 ?_ | refine E1 ?_ | refine E2 ?_ | refine E3 ?_ | refine E4 ?_ | refine E5 (by decide) ?_ | refine E6 ?_ | refine E7 ?_ | refine E8 ?_ | refine E9 ?_ | refine Ea ?_ | refine Eb ?_ | refine Ec ?_ | refine Ed ?_)
          by_cases hx : x = [59]
          · rw [if_pos hx]
            refine W_condT (by simp only [KA, KP, KQ, reduceCtorEq, ↓reduceIte, Int.reduceLT, Int.reduceLE, Int.reduceAdd, Int.reduceSub, Int.reduceNeg, Int.reduceMul, Int.reduceToNat, Int.reduceEq, Int.reduceNe, Int.reduceGT, Int.reduceGE, Nat.reducePow, Nat.reduceAdd, Nat.reduceSub, Nat.reduceLT, Nat.reduceMul, Nat.reduceDiv, Nat.reduceEqDiff, Nat.reduceLeDiff, KT w, KI, hw.KF, htm, hx]) ?_
            repeat with_reducible (first | refine E0 ?_ | refine E1 ?_ | refine E2 ?_ | refine E3 ?_ | refine E4 ?_ | refine E5 (by decide) ?_ | refine E6 ?_ | refine E7 ?_ | refine E8 ?_ | refine E9 ?_ | refine Ea ?_ | refine Eb ?_ | refine Ec ?_ | refine Ed ?_)
            refine W_region fun K hK => ?_
            simp only [KA, KB, KP, KQ, reduceCtorEq, ↓reduceIte, Int.reduceLT, Int.reduceLE, Int.reduceAdd, Int.reduceSub, Int.reduceNeg, Int.reduceMul, Int.reduceToNat, Int.reduceEq, Int.reduceNe, Int.reduceGT, Int.reduceGE, Nat.reducePow, Nat.reduceAdd, Nat.reduceSub, Nat.reduceLT, Nat.reduceMul, Nat.reduceDiv, Nat.reduceEqDiff, Nat.reduceLeDiff, KT w, KI, hw.KF, htm, t4, k3, q2, ln2, kb, kok, splice]
            refine hK _ _ ?_
            clear hK
            clear K
            repeat with_reducible (first | refine E0 ?_ | refine E1 ?_ | refine E2 ?_ | refine E3 ?_ | refine E4 ?_ | refine E5 (by decide) ?_ | refine E6 ?_ | refine E7 ?_ | refine E8 ?_ | refine E9 ?_ | refine Ea ?_ | refine Eb ?_ | refine Ec ?_ | refine Ed ?_)
            exact ⟨_, rfl, rfl, by simp only [KA, KP, KQ, reduceCtorEq, ↓reduceIte, Int.reduceLT, Int.reduceLE, Int.reduceAdd, Int.reduceSub, Int.reduceNeg, Int.reduceMul, Int.reduceToNat, Int.reduceEq, Int.reduceNe, Int.reduceGT, Int.reduceGE, Nat.reducePow, Nat.reduceAdd, Nat.reduceSub, Nat.reduceLT, Nat.reduceMul, Nat.reduceDiv, Nat.reduceEqDiff, Nat.reduceLeDiff, KT w, KI, hw.KF, htm], by simp only [KA, KP, KQ, reduceCtorEq, ↓reduceIte, Int.reduceLT, Int.reduceLE, Int.reduceAdd, Int.reduceSub, Int.reduceNeg, Int.reduceMul, Int.reduceToNat, Int.reduceEq, Int.reduceNe, Int.reduceGT, Int.reduceGE, Nat.reducePow, Nat.reduceAdd, Nat.reduceSub, Nat.reduceLT, Nat.reduceMul, Nat.reduceDiv, Nat.reduceEqDiff, Nat.reduceLeDiff, KT w, KI, hw.KF, htm, t2], by simp only [KA, KP, KQ, reduceCtorEq, ↓reduceIte, Int.reduceLT, Int.reduceLE, Int.reduceAdd, Int.reduceSub, Int.reduceNeg, Int.reduceMul, Int.reduceToNat, Int.reduceEq, Int.reduceNe, Int.reduceGT, Int.reduceGE, Nat.reducePow, Nat.reduceAdd, Nat.reduceSub, Nat.reduceLT, Nat.reduceMul, Nat.reduceDiv, Nat.reduceEqDiff, Nat.reduceLeDiff, KT w, KI, hw.KF, htm, t3], by simp only [KA, KP, KQ, reduceCtorEq, ↓reduceIte, Int.reduceLT, Int.reduceLE, Int.reduceAdd, Int.reduceSub, Int.reduceNeg, Int.reduceMul, Int.reduceToNat, Int.reduceEq, Int.reduceNe, Int.reduceGT, Int.reduceGE, Nat.reducePow, Nat.reduceAdd, Nat.reduceSub, Nat.reduceLT, Nat.reduceMul, Nat.reduceDiv, Nat.reduceEqDiff, Nat.reduceLeDiff, KT w, KI, hw.KF, htm, t5], by simp only [KA, KP, KQ, reduceCtorEq, ↓reduceIte, Int.reduceLT, Int.reduceLE, Int.reduceAdd, Int.reduceSub, Int.reduceNeg, Int.reduceMul, Int.reduceToNat, Int.reduceEq, Int.reduceNe, Int.reduceGT, Int.reduceGE, Nat.reducePow, Nat.reduceAdd, Nat.reduceSub, Nat.reduceLT, Nat.reduceMul, Nat.reduceDiv, Nat.reduceEqDiff, Nat.reduceLeDiff, KT w, KI, hw.KF, htm], (by
              have := Rdr.more (r := z.1) hleft kok ln2 q2 hpv hev ⟨hel, hpn, hen⟩
              exact this), Kp.set kok ln2 _⟩
          · rw [if_neg hx]
            refine W_condF (by simp only [KA, KP, KQ, reduceCtorEq, ↓reduceIte, Int.reduceLT, Int.reduceLE, Int.reduceAdd, Int.reduceSub, Int.reduceNeg, Int.reduceMul, Int.reduceToNat, Int.reduceEq, Int.reduceNe, Int.reduceGT, Int.reduceGE, Nat.reducePow, Nat.reduceAdd, Nat.reduceSub, Nat.reduceLT, Nat.reduceMul, Nat.reduceDiv, Nat.reduceEqDiff, Nat.reduceLeDiff, KT w, KI, hw.KF, htm, hx]) ?_
            repeat with_reducible (first | refine E0 ?_ | refine E1 ?_ | refine E2 ?_ | refine E3 ?_ | refine E4 ?_ | refine E5 (by decide) ?_ | refine E6 ?_ | refine E7 ?_ | refine E8 ?_ | refine E9 ?_ | refine Ea ?_ | refine Eb ?_ | refine Ec ?_ | refine Ed ?_)
            refine W_region fun K hK => ?_
            simp only [KA, KB, KP, KQ, reduceCtorEq, ↓reduceIte, Int.reduceLT, Int.reduceLE, Int.reduceAdd, Int.reduceSub, Int.reduceNeg, Int.reduceMul, Int.reduceToNat, Int.reduceEq, Int.reduceNe, Int.reduceGT, Int.reduceGE, Nat.reducePow, Nat.reduceAdd, Nat.reduceSub, Nat.reduceLT, Nat.reduceMul, Nat.reduceDiv, Nat.reduceEqDiff, Nat.reduceLeDiff, KT w, KI, hw.KF, htm]
            refine hK _ _ ?_
            clear hK
            clear K
            repeat with_reducible (first | refine E0 ?_ | refine E1 ?_ | refine E2 ?_ | refine E3 ?_ | refine E4 ?_ | refine E5 (by decide) ?_ | refine E6 ?_ | refine E7 ?_ | refine E8 ?_ | refine E9 ?_ | refine Ea ?_ | refine Eb ?_ | refine Ec ?_ | refine Ed ?_)
            exact ⟨_, rfl, rfl, by simp only [KA, KP, KQ, reduceCtorEq, ↓reduceIte, Int.reduceLT, Int.reduceLE, Int.reduceAdd, Int.reduceSub, Int.reduceNeg, Int.reduceMul, Int.reduceToNat, Int.reduceEq, Int.reduceNe, Int.reduceGT, Int.reduceGE, Nat.reducePow, Nat.reduceAdd, Nat.reduceSub, Nat.reduceLT, Nat.reduceMul, Nat.reduceDiv, Nat.reduceEqDiff, Nat.reduceLeDiff, KT w, KI, hw.KF, htm], by simp only [KA, KP, KQ, reduceCtorEq, ↓reduceIte, Int.reduceLT, Int.reduceLE, Int.reduceAdd, Int.reduceSub, Int.reduceNeg, Int.reduceMul, Int.reduceToNat, Int.reduceEq, Int.reduceNe, Int.reduceGT, Int.reduceGE, Nat.reducePow, Nat.reduceAdd, Nat.reduceSub, Nat.reduceLT, Nat.reduceMul, Nat.reduceDiv, Nat.reduceEqDiff, Nat.reduceLeDiff, KT w, KI, hw.KF, htm, t2], by simp only [KA, KP, KQ, reduceCtorEq, ↓reduceIte, Int.reduceLT, Int.reduceLE, Int.reduceAdd, Int.reduceSub, Int.reduceNeg, Int.reduceMul, Int.reduceToNat, Int.reduceEq, Int.reduceNe, Int.reduceGT, Int.reduceGE, Nat.reducePow, Nat.reduceAdd, Nat.reduceSub, Nat.reduceLT, Nat.reduceMul, Nat.reduceDiv, Nat.reduceEqDiff, Nat.reduceLeDiff, KT w, KI, hw.KF, htm, t3], by simp only [KA, KP, KQ, reduceCtorEq, ↓reduceIte, Int.reduceLT, Int.reduceLE, Int.reduceAdd, Int.reduceSub, Int.reduceNeg, Int.reduceMul, Int.reduceToNat, Int.reduceEq, Int.reduceNe, Int.reduceGT, Int.reduceGE, Nat.reducePow, Nat.reduceAdd, Nat.reduceSub, Nat.reduceLT, Nat.reduceMul, Nat.reduceDiv, Nat.reduceEqDiff, Nat.reduceLeDiff, KT w, KI, hw.KF, htm, t5], by simp only [KA, KP, KQ, reduceCtorEq, ↓reduceIte, Int.reduceLT, Int.reduceLE, Int.reduceAdd, Int.reduceSub, Int.reduceNeg, Int.reduceMul, Int.reduceToNat, Int.reduceEq, Int.reduceNe, Int.reduceGT, Int.reduceGE, Nat.reducePow, Nat.reduceAdd, Nat.reduceSub, Nat.reduceLT, Nat.reduceMul, Nat.reduceDiv, Nat.reduceEqDiff, Nat.reduceLeDiff, KT w, KI, hw.KF, htm], hR1, Kp.refl kok⟩
        · have hst : stepP z.1 a x = beginR z.1 a x := by simp [stepP, hleft, hmore]
          rw [hst]
          obtain ⟨v, S2, hc, rfl, hR2, hK2⟩ := begin20 hw hops (a : Int) x kok kb ln2 hR1 hG.len
          have hcall : callF (cfg w) (lim (cfg w)) 20 [.ptr 2 0, .int .i64 (a : Int), .str x] S1 = some (.int .i64 (beginR z.1 a x).1, S2) := by
            rw [callF_raw (by exact hw.e20) (by exact hw.m20)]; exact hc
          rw [hmore, hleft] at q2
          repeat with_reducible (first | refine E0 ?_ | refine E1 ?_ | refine E2 ?_ | refine E3 ?_ | refine E4 ?_ | refine E5 (by decide) ?_ | refine E6 ?_ | refine E7 ?_ | refine E8 ?_ | refine E9 ?_ | refine Ea ?_ | refine Eb ?_ | refine Ec ?_ | refine Ed ?_)
          refine W_region fun K hK => ?_
          simp only [KA, KB, KP, KQ, reduceCtorEq, ↓reduceIte, Int.reduceLT, Int.reduceLE, Int.reduceAdd, Int.reduceSub, Int.reduceNeg, Int.reduceMul, Int.reduceToNat, Int.reduceEq, Int.reduceNe, Int.reduceGT, Int.reduceGE, Nat.reducePow, Nat.reduceAdd, Nat.reduceSub, Nat.reduceLT, Nat.reduceMul, Nat.reduceDiv, Nat.reduceEqDiff, Nat.reduceLeDiff, KT w, KI, hw.KF, htm, t4, k3, q2]
          refine hK _ _ ?_
          clear hK
          clear K
          repeat with_reducible (first | refine E0 ?_ | refine E1 ?_ | refine E2 ?_ | refine E3 ?_ | refine E4 ?_ | refine E5 (by decide) ?_ | refine E6 ?_ | refine E7 ?_ | refine E8 ?_ | refine E9 ?_ | refine Ea ?_ | refine Eb ?_ | refine Ec ?_ | refine Ed ?_)
          refine W_condF (by simp only [KA, KP, KQ, reduceCtorEq, ↓reduceIte, Int.reduceLT, Int.reduceLE, Int.reduceAdd, Int.reduceSub, Int.reduceNeg, Int.reduceMul, Int.reduceToNat, Int.reduceEq, Int.reduceNe, Int.reduceGT, Int.reduceGE, Nat.reducePow, Nat.reduceAdd, Nat.reduceSub, Nat.reduceLT, Nat.reduceMul, Nat.reduceDiv, Nat.reduceEqDiff, Nat.reduceLeDiff, KT w, KI, hw.KF, htm]) ?_
          repeat with_reducible (first | refine E0 ?_ | refine E1 ?_ | refine E2 ?_ | refine E3 ?_ | refine E4 ?_ | refine E5 (by decide) ?_ | refine E6 ?_ | refine E7 ?_ | refine E8 ?_ | refine E9 ?_ | refine Ea ?_ | refine Eb ?_ | refine Ec ?_ | refine Ed ?_)
          refine W_region fun K hK => ?_
          simp only [KA, KB, KP, KQ, reduceCtorEq, ↓reduceIte, Int.reduceLT, Int.reduceLE, Int.reduceAdd, Int.reduceSub, Int.reduceNeg, Int.reduceMul, Int.reduceToNat, Int.reduceEq, Int.reduceNe, Int.reduceGT, Int.reduceGE, Nat.reducePow, Nat.reduceAdd, Nat.reduceSub, Nat.reduceLT, Nat.reduceMul, Nat.reduceDiv, Nat.reduceEqDiff, Nat.reduceLeDiff, KT w, KI, hw.KF, htm, t4, k3, q2]
          refine hK _ _ ?_
          clear hK
          clear K
          repeat with_reducible (first | refine E0 ?_ | refine E1 ?_ | refine E2 ?_ | refine E3 ?_ | refine E4 ?_ | refine E5 (by decide) ?_ | refine E6 ?_ | refine E7 ?_ | refine E8 ?_ | refine E9 ?_ | refine Ea ?_ | refine Eb ?_ | refine Ec ?_ | refine Ed ?_)
          refine W_condT (by simp only [KA, KP, KQ, reduceCtorEq, ↓reduceIte, Int.reduceLT, Int.reduceLE, Int.reduceAdd, Int.reduceSub, Int.reduceNeg, Int.reduceMul, Int.reduceToNat, Int.reduceEq, Int.reduceNe, Int.reduceGT, Int.reduceGE, Nat.reducePow, Nat.reduceAdd, Nat.reduceSub, Nat.reduceLT, Nat.reduceMul, Nat.reduceDiv, Nat.reduceEqDiff, Nat.reduceLeDiff, KT w, KI, hw.KF, htm]) ?_
          repeat with_reducible (first | refine E0 ?_ | refine E1 ?_ | refine E2 ?_ | refine E3 ?_ | refine E4 ?_ | refine E5 (by decide) ?_ | refine E6 ?_ | refine E7 ?_ | refine E8 ?_ | refine E9 ?_ | refine Ea ?_ | refine Eb ?_ | refine Ec ?_ | refine Ed ?_)
          refine W_region fun K hK => ?_
          simp only [KA, KB, KP, KQ, reduceCtorEq, ↓reduceIte, Int.reduceLT, Int.reduceLE, Int.reduceAdd, Int.reduceSub, Int.reduceNeg, Int.reduceMul, Int.reduceToNat, Int.reduceEq, Int.reduceNe, Int.reduceGT, Int.reduceGE, Nat.reducePow, Nat.reduceAdd, Nat.reduceSub, Nat.reduceLT, Nat.reduceMul, Nat.reduceDiv, Nat.reduceEqDiff, Nat.reduceLeDiff, KT w, KI, hw.KF, htm, t4, k3, q2, t5, t6, hcall]
          refine hK _ _ ?_
          clear hK
          clear K
          repeat with_reducible (first | refine E0 ?_ | refine E1 ?_ | refine E2 ?_ | refine E3 ?_ | refine E4 ?_ | refine E5 (by decide) ?_ | refine E6 ?_ | refine E7 ?_ | refine E8 ?_ | refine E9 ?_ | refine Ea ?_ | refine Eb ?_ | refine Ec ?_ | refine Ed ?_)
          exact ⟨_, rfl, rfl, by simp only [KA, KP, KQ, reduceCtorEq, ↓reduceIte, Int.reduceLT, Int.reduceLE, Int.reduceAdd, Int.reduceSub, Int.reduceNeg, Int.reduceMul, Int.reduceToNat, Int.reduceEq, Int.reduceNe, Int.reduceGT, Int.reduceGE, Nat.reducePow, Nat.reduceAdd, Nat.reduceSub, Nat.reduceLT, Nat.reduceMul, Nat.reduceDiv, Nat.reduceEqDiff, Nat.reduceLeDiff, KT w, KI, hw.KF, htm], by simp only [KA, KP, KQ, reduceCtorEq, ↓reduceIte, Int.reduceLT, Int.reduceLE, Int.reduceAdd, Int.reduceSub, Int.reduceNeg, Int.reduceMul, Int.reduceToNat, Int.reduceEq, Int.reduceNe, Int.reduceGT, Int.reduceGE, Nat.reducePow, Nat.reduceAdd, Nat.reduceSub, Nat.reduceLT, Nat.reduceMul, Nat.reduceDiv, Nat.reduceEqDiff, Nat.reduceLeDiff, KT w, KI, hw.KF, htm, t2], by simp only [KA, KP, KQ, reduceCtorEq, ↓reduceIte, Int.reduceLT, Int.reduceLE, Int.reduceAdd, Int.reduceSub, Int.reduceNeg, Int.reduceMul, Int.reduceToNat, Int.reduceEq, Int.reduceNe, Int.reduceGT, Int.reduceGE, Nat.reducePow, Nat.reduceAdd, Nat.reduceSub, Nat.reduceLT, Nat.reduceMul, Nat.reduceDiv, Nat.reduceEqDiff, Nat.reduceLeDiff, KT w, KI, hw.KF, htm, t3], by simp only [KA, KP, KQ, reduceCtorEq, ↓reduceIte, Int.reduceLT, Int.reduceLE, Int.reduceAdd, Int.reduceSub, Int.reduceNeg, Int.reduceMul, Int.reduceToNat, Int.reduceEq, Int.reduceNe, Int.reduceGT, Int.reduceGE, Nat.reducePow, Nat.reduceAdd, Nat.reduceSub, Nat.reduceLT, Nat.reduceMul, Nat.reduceDiv, Nat.reduceEqDiff, Nat.reduceLeDiff, KT w, KI, hw.KF, htm, t5], by simp only [KA, KP, KQ, reduceCtorEq, ↓reduceIte, Int.reduceLT, Int.reduceLE, Int.reduceAdd, Int.reduceSub, Int.reduceNeg, Int.reduceMul, Int.reduceToNat, Int.reduceEq, Int.reduceNe, Int.reduceGT, Int.reduceGE, Nat.reducePow, Nat.reduceAdd, Nat.reduceSub, Nat.reduceLT, Nat.reduceMul, Nat.reduceDiv, Nat.reduceEqDiff, Nat.reduceLeDiff, KT w, KI, hw.KF, htm], hR2, hK2⟩
      · have hst : stepP z.1 a x = numberR z.1 a x := by simp [stepP, hleft]
        rw [hst]
        obtain ⟨f, fs, hfs⟩ : ∃ f fs, z.1.left = f :: fs := by
          cases h : z.1.left with
          | nil => exact absurd h hleft
          | cons f fs => exact ⟨f, fs, rfl⟩
        obtain ⟨v, S2, hc, rfl, hR2, hK2⟩ := number19 hw hat hit (a : Int) x (by omega) kok kb ln2 hR1 (hG.ne hleft) hG.len ⟨f, fs, hfs, hG.chars f (by rw [hfs]; exact List.mem_cons_self)⟩
        have hcall : callF (cfg w) (lim (cfg w)) 19 [.ptr 2 0, .int .i64 (a : Int), .str x] S1 = some (.int .i64 (numberR z.1 a x).1, S2) := by
          rw [callF_raw (by exact hw.e19) (by exact hw.m19)]; exact hc
        repeat with_reducible (first | refine E0 ?_ | refine E1 ?_ | refine E2 ?_ | refine E3 ?_ | refine E4 ?_ | refine E5 (by decide) ?_ | refine E6 ?_ | refine E7 ?_ | refine E8 ?_ | refine E9 ?_ | refine Ea ?_ | refine Eb ?_ | refine Ec ?_ | refine Ed ?_)
        refine W_region fun K hK => ?_
        simp only [KA, KB, KP, KQ, reduceCtorEq, ↓reduceIte, Int.reduceLT, Int.reduceLE, Int.reduceAdd, Int.reduceSub, Int.reduceNeg, Int.reduceMul, Int.reduceToNat, Int.reduceEq, Int.reduceNe, Int.reduceGT, Int.reduceGE, Nat.reducePow, Nat.reduceAdd, Nat.reduceSub, Nat.reduceLT, Nat.reduceMul, Nat.reduceDiv, Nat.reduceEqDiff, Nat.reduceLeDiff, KT w, KI, hw.KF, htm, t4, k3, q2]
        refine hK _ _ ?_
        clear hK
        clear K
        repeat with_reducible (first | refine E0 ?_ | refine E1 ?_ | refine E2 ?_ | refine E3 ?_ | refine E4 ?_ | refine E5 (by decide) ?_ | refine E6 ?_ | refine E7 ?_ | refine E8 ?_ | refine E9 ?_ | refine Ea ?_ | refine Eb ?_ | refine Ec ?_ | refine Ed ?_)
        refine W_condT (by simp only [KA, KP, KQ, reduceCtorEq, ↓reduceIte, Int.reduceLT, Int.reduceLE, Int.reduceAdd, Int.reduceSub, Int.reduceNeg, Int.reduceMul, Int.reduceToNat, Int.reduceEq, Int.reduceNe, Int.reduceGT, Int.reduceGE, Nat.reducePow, Nat.reduceAdd, Nat.reduceSub, Nat.reduceLT, Nat.reduceMul, Nat.reduceDiv, Nat.reduceEqDiff, Nat.reduceLeDiff, KT w, KI, hw.KF, htm, hleft]) ?_
        repeat with_reducible (first | refine E0 ?_ | refine E1 ?_ | refine E2 ?_ | refine E3 ?_ | refine E4 ?_ | refine E5 (by decide) ?_ | refine E6 ?_ | refine E7 ?_ | refine E8 ?_ | refine E9 ?_ | refine Ea ?_ | refine Eb ?_ | refine Ec ?_ | refine Ed ?_)
        refine W_region fun K hK => ?_
        simp only [KA, KB, KP, KQ, reduceCtorEq, ↓reduceIte, Int.reduceLT, Int.reduceLE, Int.reduceAdd, Int.reduceSub, Int.reduceNeg, Int.reduceMul, Int.reduceToNat, Int.reduceEq, Int.reduceNe, Int.reduceGT, Int.reduceGE, Nat.reducePow, Nat.reduceAdd, Nat.reduceSub, Nat.reduceLT, Nat.reduceMul, Nat.reduceDiv, Nat.reduceEqDiff, Nat.reduceLeDiff, KT w, KI, hw.KF, htm, t4, k3, q2, t5, t6, hcall]
        refine hK _ _ ?_
        clear hK
        clear K
        repeat with_reducible (first | refine E0 ?_ | refine E1 ?_ | refine E2 ?_ | refine E3 ?_ | refine E4 ?_ | refine E5 (by decide) ?_ | refine E6 ?_ | refine E7 ?_ | refine E8 ?_ | refine E9 ?_ | refine Ea ?_ | refine Eb ?_ | refine Ec ?_ | refine Ed ?_)
        exact ⟨_, rfl, rfl, by simp only [KA, KP, KQ, reduceCtorEq, ↓reduceIte, Int.reduceLT, Int.reduceLE, Int.reduceAdd, Int.reduceSub, Int.reduceNeg, Int.reduceMul, Int.reduceToNat, Int.reduceEq, Int.reduceNe, Int.reduceGT, Int.reduceGE, Nat.reducePow, Nat.reduceAdd, Nat.reduceSub, Nat.reduceLT, Nat.reduceMul, Nat.reduceDiv, Nat.reduceEqDiff, Nat.reduceLeDiff, KT w, KI, hw.KF, htm], by simp only [KA, KP, KQ, reduceCtorEq, ↓reduceIte, Int.reduceLT, Int.reduceLE, Int.reduceAdd, Int.reduceSub, Int.reduceNeg, Int.reduceMul, Int.reduceToNat, Int.reduceEq, Int.reduceNe, Int.reduceGT, Int.reduceGE, Nat.reducePow, Nat.reduceAdd, Nat.reduceSub, Nat.reduceLT, Nat.reduceMul, Nat.reduceDiv, Nat.reduceEqDiff, Nat.reduceLeDiff, KT w, KI, hw.KF, htm, t2], by simp only [KA, KP, KQ, reduceCtorEq, ↓reduceIte, Int.reduceLT, Int.reduceLE, Int.reduceAdd, Int.reduceSub, Int.reduceNeg, Int.reduceMul, Int.reduceToNat, Int.reduceEq, Int.reduceNe, Int.reduceGT, Int.reduceGE, Nat.reducePow, Nat.reduceAdd, Nat.reduceSub, Nat.reduceLT, Nat.reduceMul, Nat.reduceDiv, Nat.reduceEqDiff, Nat.reduceLeDiff, KT w, KI, hw.KF, htm, t3], by simp only [KA, KP, KQ, reduceCtorEq, ↓reduceIte, Int.reduceLT, Int.reduceLE, Int.reduceAdd, Int.reduceSub, Int.reduceNeg, Int.reduceMul, Int.reduceToNat, Int.reduceEq, Int.reduceNe, Int.reduceGT, Int.reduceGE, Nat.reducePow, Nat.reduceAdd, Nat.reduceSub, Nat.reduceLT, Nat.reduceMul, Nat.reduceDiv, Nat.reduceEqDiff, Nat.reduceLeDiff, KT w, KI, hw.KF, htm, t5], by simp only [KA, KP, KQ, reduceCtorEq, ↓reduceIte, Int.reduceLT, Int.reduceLE, Int.reduceAdd, Int.reduceSub, Int.reduceNeg, Int.reduceMul, Int.reduceToNat, Int.reduceEq, Int.reduceNe, Int.reduceGT, Int.reduceGE, Nat.reducePow, Nat.reduceAdd, Nat.reduceSub, Nat.reduceLT, Nat.reduceMul, Nat.reduceDiv, Nat.reduceEqDiff, Nat.reduceLeDiff, KT w, KI, hw.KF, htm], hR2, hK2⟩
    clear hl h2 h3 h4 hR1 htm t2 t3 t4 t5 t6
    rintro ex fr S2 ⟨tm, rfl, rfl, htm, t2, t3, t5, t7, hR2, hK2⟩
    have hG2 := hG.step (a : Int) x
    have hsp : stpP z (a, x) = if (stepP z.1 a x).1 = 0 then (((stepP z.1 a x).2, none), true) else (((stepP z.1 a x).2, some ((stepP z.1 a x).1, (a : Int))), false) := rfl
    rw [hsp]
    obtain ⟨E, hE⟩ : ∃ E, (stepP z.1 a x).1 = E := ⟨_, rfl⟩
    obtain ⟨R', hR'⟩ : ∃ R', (stepP z.1 a x).2 = R' := ⟨_, rfl⟩
    rw [hE, hR']
    rw [hE] at t7
    rw [hR'] at hR2 hG2
    clear hsp hE hR'
    have n0 := hK2.get 0 _ (by omega) (by omega) (by intros; simp) k0
    have n1 := hK2.get 1 _ (by omega) (by omega) (by intros; simp) k1
    have n3 := hK2.get 3 _ (by omega) (by omega) (by intros; simp) k3
    have n4 := hK2.get 4 _ (by omega) (by omega) (by intros; simp) k4
    have n5 := hK2.get 5 _ (by omega) (by omega) (by intros; simp) k5
    have n6 := hK2.get 6 _ (by omega) (by omega) (by intros; simp [Lp.at]) k6
    have nok := hK2.ok
    have nb : S2.base = 0 := by rw [hK2.base]; exact kb
    have nn : 6 < S2.n := by have := hK2.n; omega
    clear hK2 k0 k1 k3 k4 k5 k6 kok kb kn
    repeat with_reducible (first | refine E0 ?_ | refine E1 ?_ | refine E2 ?_ | refine E3 ?_ | refine E4 ?_ | refine E5 (by decide) ?_ | refine E6 ?_ | refine E7 ?_ | refine E8 ?_ | refine E9 ?_ | refine Ea ?_ | refine Eb ?_ | refine Ec ?_ | refine Ed ?_)
    refine W_region fun K hK => ?_
    simp only [KA, KB, KP, KQ, reduceCtorEq, ↓reduceIte, Int.reduceLT, Int.reduceLE, Int.reduceAdd, Int.reduceSub, Int.reduceNeg, Int.reduceMul, Int.reduceToNat, Int.reduceEq, Int.reduceNe, Int.reduceGT, Int.reduceGE, Nat.reducePow, Nat.reduceAdd, Nat.reduceSub, Nat.reduceLT, Nat.reduceMul, Nat.reduceDiv, Nat.reduceEqDiff, Nat.reduceLeDiff, KT w, KI, hw.KF, htm, t7]
    refine hK _ _ ?_
    clear hK
    clear K
    repeat with_reducible (first | refine E0 ?_ | refine E1 ?_ | refine E2 ?_ | refine E3 ?_ | refine E4 ?_ | refine E5 (by decide) ?_ | refine E6 ?_ | refine E7 ?_ | refine E8 ?_ | refine E9 ?_ | refine Ea ?_ | refine Eb ?_ | refine Ec ?_ | refine Ed ?_)
    by_cases hE : E = 0
    · rw [if_pos hE]
      refine W_condF (by simp only [KA, KP, KQ, reduceCtorEq, ↓reduceIte, Int.reduceLT, Int.reduceLE, Int.reduceAdd, Int.reduceSub, Int.reduceNeg, Int.reduceMul, Int.reduceToNat, Int.reduceEq, Int.reduceNe, Int.reduceGT, Int.reduceGE, Nat.reducePow, Nat.reduceAdd, Nat.reduceSub, Nat.reduceLT, Nat.reduceMul, Nat.reduceDiv, Nat.reduceEqDiff, Nat.reduceLeDiff, KT w, KI, hw.KF, htm, hE]) ?_
      repeat with_reducible (first | refine E0 ?_ | refine E1 ?_ | refine E2 ?_ | refine E3 ?_ | refine E4 ?_ | refine E5 (by decide) ?_ | refine E6 ?_ | refine E7 ?_ | refine E8 ?_ | refine E9 ?_ | refine Ea ?_ | refine Eb ?_ | refine Ec ?_ | refine Ed ?_)
      refine ⟨⟨_, _, n6⟩, by omega, rfl, ?_⟩
      exact ⟨St.ok_set nok, by rw [St.setB]; exact nb, by rw [St.setN]; exact nn, St.get_sete nok nn, by rw [St.get_setn nn (by omega)]; exact n5, by rw [St.get_setn nn (by omega)]; exact n0, by rw [St.get_setn nn (by omega)]; exact n4,
        fun _ => ⟨rfl, by rw [St.get_setn nn (by omega)]; exact n1, by rw [St.get_setn nn (by omega)]; exact n3, hR2.setL nn (by omega) n6 (fun _ _ _ _ h => by cases h), hG2⟩, fun h => by cases h⟩
    · rw [if_neg hE]
      refine W_condT (by simp only [KA, KP, KQ, reduceCtorEq, ↓reduceIte, Int.reduceLT, Int.reduceLE, Int.reduceAdd, Int.reduceSub, Int.reduceNeg, Int.reduceMul, Int.reduceToNat, Int.reduceEq, Int.reduceNe, Int.reduceGT, Int.reduceGE, Nat.reducePow, Nat.reduceAdd, Nat.reduceSub, Nat.reduceLT, Nat.reduceMul, Nat.reduceDiv, Nat.reduceEqDiff, Nat.reduceLeDiff, KT w, KI, hw.KF, htm, hE]) ?_
      repeat with_reducible (first | refine E0 ?_ | refine E1 ?_ | refine E2 ?_ | refine E3 ?_ | refine E4 ?_ | refine E5 (by decide) ?_ | refine E6 ?_ | refine E7 ?_ | refine E8 ?_ | refine E9 ?_ | refine Ea ?_ | refine Eb ?_ | refine Ec ?_ | refine Ed ?_)
      have ln0 : 0 < S2.n := by omega
      have ln1 : 1 < S2.n := by omega
      refine W_region fun K hK => ?_
      simp only [KA, KB, KP, KQ, reduceCtorEq, ↓reduceIte, Int.reduceLT, Int.reduceLE, Int.reduceAdd, Int.reduceSub, Int.reduceNeg, Int.reduceMul, Int.reduceToNat, Int.reduceEq, Int.reduceNe, Int.reduceGT, Int.reduceGE, Nat.reducePow, Nat.reduceAdd, Nat.reduceSub, Nat.reduceLT, Nat.reduceMul, Nat.reduceDiv, Nat.reduceEqDiff, Nat.reduceLeDiff, KT w, KI, hw.KF, htm, t2, t3, t5, t7, n0, n1, nok, nb, ln0, ln1, splice]
      refine hK _ _ ?_
      clear hK
      clear K
      repeat with_reducible (first | refine E0 ?_ | refine E1 ?_ | refine E2 ?_ | refine E3 ?_ | refine E4 ?_ | refine E5 (by decide) ?_ | refine E6 ?_ | refine E7 ?_ | refine E8 ?_ | refine E9 ?_ | refine Ea ?_ | refine Eb ?_ | refine Ec ?_ | refine Ed ?_)
      have hS : ∀ (X Y Z : AObj) (q : Nat), q ≠ 0 → q ≠ 1 → q ≠ 6 → (((S2.set 0 X).set 1 Y).set 6 Z).get q = S2.get q := fun X Y Z q h0 h1 h6 => by
        rw [St.get_setn (by simp only [St.setN]; exact nn) h6, St.get_setn (by rw [St.setN]; exact ln1) h1, St.get_setn ln0 h0]
      refine ⟨⟨.busy, .nrm, ?_⟩, by simp only [St.setB]; omega, rfl, ?_⟩
      · rw [St.get_setn (by rw [St.setN]; exact ln1) (by omega), St.get_setn ln0 (by omega)]; exact n6
      · refine ⟨St.ok_set (St.ok_set (St.ok_set nok)), by simp only [St.setB]; exact nb, by simp only [St.setN]; exact nn, St.get_sete (St.ok_set (St.ok_set nok)) (by simp only [St.setN]; exact nn), by rw [hS _ _ _ _ (by omega) (by omega) (by omega)]; exact n5, ?_, by rw [hS _ _ _ _ (by omega) (by omega) (by omega)]; exact n4, (fun h => by cases h), fun _ => ⟨E, a, rfl, ?_⟩⟩
        · rw [St.get_setn (by simp only [St.setN]; exact nn) (by omega), St.get_setn (by rw [St.setN]; exact ln1) (by omega)]; exact St.get_sete nok ln0
        · rw [St.get_setn (by simp only [St.setN]; exact nn) (by omega)]; exact St.get_sete (St.ok_set nok) (by rw [St.setN]; exact ln1)
  simp only [List.nil_append, List.cons_append, List.append_nil, St.pushN, St.nil_n, Nat.reduceAdd]
  refine CallQ.mono (words35 hw hix (by omega) hidx T (⟨[], [], [], true⟩, none) _ ?_) ?_
  · clear T
    refine ⟨by simp only [ok_pushE, St.ok_nil], by simp only [St.pushB, St.nil_base], by simp only [St.pushN, St.nil_n]; omega, by simp only [KA, KP, KQ, reduceCtorEq, ↓reduceIte, Int.reduceLT, Int.reduceLE, Int.reduceAdd, Int.reduceSub, Int.reduceNeg, Int.reduceMul, Int.reduceToNat, Int.reduceEq, Int.reduceNe, Int.reduceGT, Int.reduceGE, Nat.reducePow, Nat.reduceAdd, Nat.reduceSub, Nat.reduceLT, Nat.reduceMul, Nat.reduceDiv, Nat.reduceEqDiff, Nat.reduceLeDiff, KT w, KI, hw.KF], by simp only [KA, KP, KQ, reduceCtorEq, ↓reduceIte, Int.reduceLT, Int.reduceLE, Int.reduceAdd, Int.reduceSub, Int.reduceNeg, Int.reduceMul, Int.reduceToNat, Int.reduceEq, Int.reduceNe, Int.reduceGT, Int.reduceGE, Nat.reducePow, Nat.reduceAdd, Nat.reduceSub, Nat.reduceLT, Nat.reduceMul, Nat.reduceDiv, Nat.reduceEqDiff, Nat.reduceLeDiff, KT w, KI, hw.KF], by simp only [KA, KP, KQ, reduceCtorEq, ↓reduceIte, Int.reduceLT, Int.reduceLE, Int.reduceAdd, Int.reduceSub, Int.reduceNeg, Int.reduceMul, Int.reduceToNat, Int.reduceEq, Int.reduceNe, Int.reduceGT, Int.reduceGE, Nat.reducePow, Nat.reduceAdd, Nat.reduceSub, Nat.reduceLT, Nat.reduceMul, Nat.reduceDiv, Nat.reduceEqDiff, Nat.reduceLeDiff, KT w, KI, hw.KF], by simp only [KA, KP, KQ, reduceCtorEq, ↓reduceIte, Int.reduceLT, Int.reduceLE, Int.reduceAdd, Int.reduceSub, Int.reduceNeg, Int.reduceMul, Int.reduceToNat, Int.reduceEq, Int.reduceNe, Int.reduceGT, Int.reduceGE, Nat.reducePow, Nat.reduceAdd, Nat.reduceSub, Nat.reduceLT, Nat.reduceMul, Nat.reduceDiv, Nat.reduceEqDiff, Nat.reduceLeDiff, KT w, KI, hw.KF], fun _ => ⟨rfl, by simp only [KA, KP, KQ, reduceCtorEq, ↓reduceIte, Int.reduceLT, Int.reduceLE, Int.reduceAdd, Int.reduceSub, Int.reduceNeg, Int.reduceMul, Int.reduceToNat, Int.reduceEq, Int.reduceNe, Int.reduceGT, Int.reduceGE, Nat.reducePow, Nat.reduceAdd, Nat.reduceSub, Nat.reduceLT, Nat.reduceMul, Nat.reduceDiv, Nat.reduceEqDiff, Nat.reduceLeDiff, KT w, KI, hw.KF, Int.ofNat_zero], by simp only [KA, KP, KQ, reduceCtorEq, ↓reduceIte, Int.reduceLT, Int.reduceLE, Int.reduceAdd, Int.reduceSub, Int.reduceNeg, Int.reduceMul, Int.reduceToNat, Int.reduceEq, Int.reduceNe, Int.reduceGT, Int.reduceGE, Nat.reducePow, Nat.reduceAdd, Nat.reduceSub, Nat.reduceLT, Nat.reduceMul, Nat.reduceDiv, Nat.reduceEqDiff, Nat.reduceLeDiff, KT w, KI, hw.KF], ⟨.nils, .nils, by simp only [KA, KP, KQ, reduceCtorEq, ↓reduceIte, Int.reduceLT, Int.reduceLE, Int.reduceAdd, Int.reduceSub, Int.reduceNeg, Int.reduceMul, Int.reduceToNat, Int.reduceEq, Int.reduceNe, Int.reduceGT, Int.reduceGE, Nat.reducePow, Nat.reduceAdd, Nat.reduceSub, Nat.reduceLT, Nat.reduceMul, Nat.reduceDiv, Nat.reduceEqDiff, Nat.reduceLeDiff, KT w, KI, hw.KF], .inl ⟨rfl, rfl⟩, .inl ⟨rfl, rfl⟩, rfl, by simp, by simp⟩, ⟨by simp, fun h => absurd rfl h, fun f h => by cases h⟩⟩, fun h => by cases h⟩
  intro v S hJ
  clear T
  have hpar : parseV s = parseR s (runW stpP (wl s s.length 0) (⟨[], [], [], true⟩, none)) := rfl
  rw [hpar]
  clear hpar
  revert hJ
  generalize runW stpP (wl s s.length 0) (⟨[], [], [], true⟩, none) = R
  obtain ⟨zz, b⟩ := R
  intro hJ
  simp only at hJ
  have hn := hJ.n
  have hok := hJ.ok
  have hb := hJ.base
  cases b
  · obtain ⟨e, a, hz, h1⟩ := hJ.no rfl
    have hlp := hJ.lp
    simp only [Bool.false_eq_true, if_false] at hlp
    have hr : parseR s (zz, false) = ([], e, a) := by simp [parseR, hz]
    rw [hr]
    refine ⟨.done, .ret, hlp, by simp, by omega, ?_⟩
    have h0' : (S.set 6 (L.at .exhausted .ret)).get 0 = some (.row [.nils] false) := by rw [St.get_setn hn (by omega)]; exact hJ.c0
    have h1' : (S.set 6 (L.at .exhausted .ret)).get 1 = some (.row [.int .i64 e, .int .i64 a] false) := by rw [St.get_setn hn (by omega)]; exact h1
    have h5' : (S.set 6 (L.at .exhausted .ret)).get 5 = some .dfr := by rw [St.get_setn hn (by omega)]; exact hJ.dfr
    have hn' : 6 < (S.set 6 (L.at .exhausted .ret)).n := by rw [St.setN]; exact hn
    have hok' : (S.set 6 (L.at .exhausted .ret)).ok := St.ok_set hok
    have hb' : (S.set 6 (L.at .exhausted .ret)).base = 0 := by rw [St.setB]; exact hb
    generalize S.set 6 (L.at .exhausted .ret) = T at *
    have ln5 : 5 < T.n := by omega
    repeat with_reducible (first | refine E0 ?_ | refine E1 ?_ | refine E2 ?_ | refine E3 ?_ | refine E4 ?_ | refine E5 (by decide) ?_ | refine E6 ?_ | refine E7 ?_ | refine E8 ?_ | refine E9 ?_ | refine Ea ?_ | refine Eb ?_ | refine Ec ?_ | refine Ed ?_)
    refine AtEnd_one rfl h5' (by omega) ?_
    have h0'' : (T.set 5 .dead).get 0 = some (.row [.nils] false) := by rw [St.get_setn ln5 (by omega)]; exact h0'
    have h1'' : (T.set 5 .dead).get 1 = some (.row [.int .i64 e, .int .i64 a] false) := by rw [St.get_setn ln5 (by omega)]; exact h1'
    simp only [KA, KP, KQ, reduceCtorEq, ↓reduceIte, Int.reduceLT, Int.reduceLE, Int.reduceAdd, Int.reduceSub, Int.reduceNeg, Int.reduceMul, Int.reduceToNat, Int.reduceEq, Int.reduceNe, Int.reduceGT, Int.reduceGE, Nat.reducePow, Nat.reduceAdd, Nat.reduceSub, Nat.reduceLT, Nat.reduceMul, Nat.reduceDiv, Nat.reduceEqDiff, Nat.reduceLeDiff, KT w, KI, hw.KF, h0'', h1'', RS_some, aresults_nil, aresults_tmp, aresults_cell, one]
    exact FZ_tup rfl
  · obtain ⟨hz, h1, h3, ⟨pv, ev, g2, hpv, hev, hel, hpn, hen⟩, hG⟩ := hJ.yes rfl
    have hlp := hJ.lp
    simp only [if_true] at hlp
    refine ⟨.ready, .nrm, hlp, by simp, by omega, ?_⟩
    have hA : AfP zz.1 pv ev (S.set 6 (L.at .exhausted .nrm)) := by
      have hR := Rdr.setL (X := L.at .exhausted .nrm) ⟨pv, ev, g2, hpv, hev, hel, hpn, hen⟩ hn (by omega) hlp (fun _ _ _ _ h => by cases h)
      obtain ⟨pv', ev', g2', hpv', hev', -⟩ := hR
      have hgg : (S.set 6 (L.at .exhausted .nrm)).get 2 = some (.row [pv, ev, .str zz.1.left, .bool zz.1.more] false) := by rw [St.get_setn hn (by omega)]; exact g2
      rw [hgg] at g2'
      simp only [Option.some.injEq, AObj.row.injEq, List.cons.injEq, and_true] at g2'
      obtain ⟨rfl, rfl⟩ := g2'
      exact ⟨St.ok_set hok, by rw [St.setB]; exact hb, by rw [St.setN]; exact hn, by rw [St.get_setn hn (by omega)]; exact hJ.c0, by rw [St.get_setn hn (by omega)]; exact h1, by rw [St.get_setn hn (by omega)]; exact h3, by rw [St.get_setn hn (by omega)]; exact hJ.dfr, hgg, hpv', hev'⟩
    generalize S.set 6 (L.at .exhausted .nrm) = T at *
    clear hJ hlp h1 h3 g2 hpv hev hn hok hb
    refine Out_nrm ?_
    refine Then_nrm ?_
    refine W_cut (fun tm => tm.length = 92 ∧ tget tm 0 = .str s ∧ tget tm 2 = .ptr 0 0 ∧ tget tm 3 = .ptr 1 0 ∧ tget tm 4 = .ptr 3 0) (by simp only [KA, KP, KQ, reduceCtorEq, ↓reduceIte, Int.reduceLT, Int.reduceLE, Int.reduceAdd, Int.reduceSub, Int.reduceNeg, Int.reduceMul, Int.reduceToNat, Int.reduceEq, Int.reduceNe, Int.reduceGT, Int.reduceGE, Nat.reducePow, Nat.reduceAdd, Nat.reduceSub, Nat.reduceLT, Nat.reduceMul, Nat.reduceDiv, Nat.reduceEqDiff, Nat.reduceLeDiff, KT w, KI, hw.KF]) fun tm ⟨htm, t0, t2, t3, t4⟩ => ?_
    have ln0 : 0 < T.n := by have := hA.n; omega
    have ln1 : 1 < T.n := by have := hA.n; omega
    by_cases hmo : zz.1.more = true ∨ zz.1.left ≠ []
    · have hr : parseR s (zz, true) = ([], 11, (s.length : Int)) := by simp only [parseR, if_true, if_pos hmo]
      rw [hr]
      obtain ⟨q0, q1, q5, qb, -⟩ := get3 hA.ok hA.n (.row [.nils] false) (.row [.int .i64 11, .int .i64 (s.length : Int)] false) .dead
      rw [hA.g5] at q5
      rw [hA.base] at qb
      have A0 := hA.g0; have A1 := hA.g1; have A2 := hA.g2; have A3 := hA.g3; have Aok := hA.ok; have Ab := hA.base
      cases hm : zz.1.more
      · have hleft : zz.1.left ≠ [] := by rcases hmo with h | h; (rw [hm] at h; cases h); exact h
        rw [hm] at A2
        repeat with_reducible (first | refine E0 ?_ | refine E1 ?_ | refine E2 ?_ | refine E3 ?_ | refine E4 ?_ | refine E5 (by decide) ?_ | refine E6 ?_ | refine E7 ?_ | refine E8 ?_ | refine E9 ?_ | refine Ea ?_ | refine Eb ?_ | refine Ec ?_ | refine Ed ?_)
        refine W_region fun K hK => ?_
        simp only [KA, KB, KP, KQ, reduceCtorEq, ↓reduceIte, Int.reduceLT, Int.reduceLE, Int.reduceAdd, Int.reduceSub, Int.reduceNeg, Int.reduceMul, Int.reduceToNat, Int.reduceEq, Int.reduceNe, Int.reduceGT, Int.reduceGE, Nat.reducePow, Nat.reduceAdd, Nat.reduceSub, Nat.reduceLT, Nat.reduceMul, Nat.reduceDiv, Nat.reduceEqDiff, Nat.reduceLeDiff, KT w, KI, hw.KF, htm, t0, t2, t3, t4, A3, A2]
        refine hK _ _ ?_
        clear hK
        clear K
        repeat with_reducible (first | refine E0 ?_ | refine E1 ?_ | refine E2 ?_ | refine E3 ?_ | refine E4 ?_ | refine E5 (by decide) ?_ | refine E6 ?_ | refine E7 ?_ | refine E8 ?_ | refine E9 ?_ | refine Ea ?_ | refine Eb ?_ | refine Ec ?_ | refine Ed ?_)
        refine W_condT (by simp only [KA, KP, KQ, reduceCtorEq, ↓reduceIte, Int.reduceLT, Int.reduceLE, Int.reduceAdd, Int.reduceSub, Int.reduceNeg, Int.reduceMul, Int.reduceToNat, Int.reduceEq, Int.reduceNe, Int.reduceGT, Int.reduceGE, Nat.reducePow, Nat.reduceAdd, Nat.reduceSub, Nat.reduceLT, Nat.reduceMul, Nat.reduceDiv, Nat.reduceEqDiff, Nat.reduceLeDiff, KT w, KI, hw.KF, htm, hleft]) ?_
        repeat with_reducible (first | refine E0 ?_ | refine E1 ?_ | refine E2 ?_ | refine E3 ?_ | refine E4 ?_ | refine E5 (by decide) ?_ | refine E6 ?_ | refine E7 ?_ | refine E8 ?_ | refine E9 ?_ | refine Ea ?_ | refine Eb ?_ | refine Ec ?_ | refine Ed ?_)
        refine W_region fun K hK => ?_
        simp only [KA, KB, KP, KQ, reduceCtorEq, ↓reduceIte, Int.reduceLT, Int.reduceLE, Int.reduceAdd, Int.reduceSub, Int.reduceNeg, Int.reduceMul, Int.reduceToNat, Int.reduceEq, Int.reduceNe, Int.reduceGT, Int.reduceGE, Nat.reducePow, Nat.reduceAdd, Nat.reduceSub, Nat.reduceLT, Nat.reduceMul, Nat.reduceDiv, Nat.reduceEqDiff, Nat.reduceLeDiff, KT w, KI, hw.KF, htm, t0, t2, t3, A0, A1, Aok, Ab, ln0, ln1, splice]
        refine hK _ _ ?_
        clear hK
        clear K
        repeat with_reducible (first | refine E0 ?_ | refine E1 ?_ | refine E2 ?_ | refine E3 ?_ | refine E4 ?_ | refine E5 (by decide) ?_ | refine E6 ?_ | refine E7 ?_ | refine E8 ?_ | refine E9 ?_ | refine Ea ?_ | refine Eb ?_ | refine Ec ?_ | refine Ed ?_)
        refine AtEnd_one rfl q5 (by omega) ?_
        simp only [KA, KP, KQ, reduceCtorEq, ↓reduceIte, Int.reduceLT, Int.reduceLE, Int.reduceAdd, Int.reduceSub, Int.reduceNeg, Int.reduceMul, Int.reduceToNat, Int.reduceEq, Int.reduceNe, Int.reduceGT, Int.reduceGE, Nat.reducePow, Nat.reduceAdd, Nat.reduceSub, Nat.reduceLT, Nat.reduceMul, Nat.reduceDiv, Nat.reduceEqDiff, Nat.reduceLeDiff, KT w, KI, hw.KF, htm, t2, t3, q0, q1, RS_some, aresults_nil, aresults_tmp, aresults_cell, one]
        exact FZ_tup rfl
      · rw [hm] at A2
        repeat with_reducible (first | refine E0 ?_ | refine E1 ?_ | refine E2 ?_ | refine E3 ?_ | refine E4 ?_ | refine E5 (by decide) ?_ | refine E6 ?_ | refine E7 ?_ | refine E8 ?_ | refine E9 ?_ | refine Ea ?_ | refine Eb ?_ | refine Ec ?_ | refine Ed ?_)
        refine W_region fun K hK => ?_
        simp only [KA, KB, KP, KQ, reduceCtorEq, ↓reduceIte, Int.reduceLT, Int.reduceLE, Int.reduceAdd, Int.reduceSub, Int.reduceNeg, Int.reduceMul, Int.reduceToNat, Int.reduceEq, Int.reduceNe, Int.reduceGT, Int.reduceGE, Nat.reducePow, Nat.reduceAdd, Nat.reduceSub, Nat.reduceLT, Nat.reduceMul, Nat.reduceDiv, Nat.reduceEqDiff, Nat.reduceLeDiff, KT w, KI, hw.KF, htm, t0, t2, t3, t4, A3, A2]
        refine hK _ _ ?_
        clear hK
        clear K
        repeat with_reducible (first | refine E0 ?_ | refine E1 ?_ | refine E2 ?_ | refine E3 ?_ | refine E4 ?_ | refine E5 (by decide) ?_ | refine E6 ?_ | refine E7 ?_ | refine E8 ?_ | refine E9 ?_ | refine Ea ?_ | refine Eb ?_ | refine Ec ?_ | refine Ed ?_)
        refine W_condT (by simp only [KA, KP, KQ, reduceCtorEq, ↓reduceIte, Int.reduceLT, Int.reduceLE, Int.reduceAdd, Int.reduceSub, Int.reduceNeg, Int.reduceMul, Int.reduceToNat, Int.reduceEq, Int.reduceNe, Int.reduceGT, Int.reduceGE, Nat.reducePow, Nat.reduceAdd, Nat.reduceSub, Nat.reduceLT, Nat.reduceMul, Nat.reduceDiv, Nat.reduceEqDiff, Nat.reduceLeDiff, KT w, KI, hw.KF, htm]) ?_
        repeat with_reducible (first | refine E0 ?_ | refine E1 ?_ | refine E2 ?_ | refine E3 ?_ | refine E4 ?_ | refine E5 (by decide) ?_ | refine E6 ?_ | refine E7 ?_ | refine E8 ?_ | refine E9 ?_ | refine Ea ?_ | refine Eb ?_ | refine Ec ?_ | refine Ed ?_)
        refine W_region fun K hK => ?_
        simp only [KA, KB, KP, KQ, reduceCtorEq, ↓reduceIte, Int.reduceLT, Int.reduceLE, Int.reduceAdd, Int.reduceSub, Int.reduceNeg, Int.reduceMul, Int.reduceToNat, Int.reduceEq, Int.reduceNe, Int.reduceGT, Int.reduceGE, Nat.reducePow, Nat.reduceAdd, Nat.reduceSub, Nat.reduceLT, Nat.reduceMul, Nat.reduceDiv, Nat.reduceEqDiff, Nat.reduceLeDiff, KT w, KI, hw.KF, htm, t0, t2, t3, A0, A1, Aok, Ab, ln0, ln1, splice]
        refine hK _ _ ?_
        clear hK
        clear K
        repeat with_reducible (first | refine E0 ?_ | refine E1 ?_ | refine E2 ?_ | refine E3 ?_ | refine E4 ?_ | refine E5 (by decide) ?_ | refine E6 ?_ | refine E7 ?_ | refine E8 ?_ | refine E9 ?_ | refine Ea ?_ | refine Eb ?_ | refine Ec ?_ | refine Ed ?_)
        refine AtEnd_one rfl q5 (by omega) ?_
        simp only [KA, KP, KQ, reduceCtorEq, ↓reduceIte, Int.reduceLT, Int.reduceLE, Int.reduceAdd, Int.reduceSub, Int.reduceNeg, Int.reduceMul, Int.reduceToNat, Int.reduceEq, Int.reduceNe, Int.reduceGT, Int.reduceGE, Nat.reducePow, Nat.reduceAdd, Nat.reduceSub, Nat.reduceLT, Nat.reduceMul, Nat.reduceDiv, Nat.reduceEqDiff, Nat.reduceLeDiff, KT w, KI, hw.KF, htm, t2, t3, q0, q1, RS_some, aresults_nil, aresults_tmp, aresults_cell, one]
        exact FZ_tup rfl
    have hm : zz.1.more = false := by cases h : zz.1.more; rfl; exact absurd (.inl h) hmo
    have hleft : zz.1.left = [] := Classical.byContradiction fun h => hmo (.inr h)
    have hr : parseR s (zz, true) = (match badZ zz.1.p.length zz.1.p zz.1.ends with | some a => ([], 10, a) | none => (zz.1.p, 0, 0)) := by simp only [parseR, if_true, if_neg hmo]
    rw [hr]
    clear hr hmo
    obtain ⟨⟨p, ends, lf, mo⟩, zo⟩ := zz
    simp only at hm hleft hel hpn hen hG ⊢
    subst hm hleft
    have hlen := hG.len
    simp only at hlen
    generalize hbad : badZ p.length p ends = B
    have A2 := hA.g2; have A3 := hA.g3
    simp only at A2
    repeat with_reducible (first | refine E0 ?_ | refine E1 ?_ | refine E2 ?_ | refine E3 ?_ | refine E4 ?_ | refine E5 (by decide) ?_ | refine E6 ?_ | refine E7 ?_ | refine E8 ?_ | refine E9 ?_ | refine Ea ?_ | refine Eb ?_ | refine Ec ?_ | refine Ed ?_)
    refine W_region fun K hK => ?_
    simp only [KA, KB, KP, KQ, reduceCtorEq, ↓reduceIte, Int.reduceLT, Int.reduceLE, Int.reduceAdd, Int.reduceSub, Int.reduceNeg, Int.reduceMul, Int.reduceToNat, Int.reduceEq, Int.reduceNe, Int.reduceGT, Int.reduceGE, Nat.reducePow, Nat.reduceAdd, Nat.reduceSub, Nat.reduceLT, Nat.reduceMul, Nat.reduceDiv, Nat.reduceEqDiff, Nat.reduceLeDiff, KT w, KI, hw.KF, htm, t0, t2, t3, t4, A3, A2]
    refine hK _ _ ?_
    clear hK
    clear K
    repeat with_reducible (first | refine E0 ?_ | refine E1 ?_ | refine E2 ?_ | refine E3 ?_ | refine E4 ?_ | refine E5 (by decide) ?_ | refine E6 ?_ | refine E7 ?_ | refine E8 ?_ | refine E9 ?_ | refine Ea ?_ | refine Eb ?_ | refine Ec ?_ | refine Ed ?_)
    refine W_condF (by simp only [KA, KP, KQ, reduceCtorEq, ↓reduceIte, Int.reduceLT, Int.reduceLE, Int.reduceAdd, Int.reduceSub, Int.reduceNeg, Int.reduceMul, Int.reduceToNat, Int.reduceEq, Int.reduceNe, Int.reduceGT, Int.reduceGE, Nat.reducePow, Nat.reduceAdd, Nat.reduceSub, Nat.reduceLT, Nat.reduceMul, Nat.reduceDiv, Nat.reduceEqDiff, Nat.reduceLeDiff, KT w, KI, hw.KF, htm]) ?_
    repeat with_reducible (first | refine E0 ?_ | refine E1 ?_ | refine E2 ?_ | refine E3 ?_ | refine E4 ?_ | refine E5 (by decide) ?_ | refine E6 ?_ | refine E7 ?_ | refine E8 ?_ | refine E9 ?_ | refine Ea ?_ | refine Eb ?_ | refine Ec ?_ | refine Ed ?_)
    have hal : alen (cfg w) T 22 pv = some (.int .i64 p.length) := by
      rcases hA.hp with ⟨h1, rfl⟩ | ⟨o, g, rfl, -, -⟩
      · simp only at h1; subst h1; rfl
      · rfl
    refine W_region fun K hK => ?_
    simp only [KA, KB, KP, KQ, reduceCtorEq, ↓reduceIte, Int.reduceLT, Int.reduceLE, Int.reduceAdd, Int.reduceSub, Int.reduceNeg, Int.reduceMul, Int.reduceToNat, Int.reduceEq, Int.reduceNe, Int.reduceGT, Int.reduceGE, Nat.reducePow, Nat.reduceAdd, Nat.reduceSub, Nat.reduceLT, Nat.reduceMul, Nat.reduceDiv, Nat.reduceEqDiff, Nat.reduceLeDiff, KT w, KI, hw.KF, htm, t0, t2, t3, t4, A3, A2, hal]
    refine hK _ _ ?_
    clear hK
    clear K
    repeat with_reducible (first | refine E0 ?_ | refine E1 ?_ | refine E2 ?_ | refine E3 ?_ | refine E4 ?_ | refine E5 (by decide) ?_ | refine E6 ?_ | refine E7 ?_ | refine E8 ?_ | refine E9 ?_ | refine Ea ?_ | refine Eb ?_ | refine Ec ?_ | refine Ed ?_)
    refine W_loop (fun k fr T' => ∃ (tm : List AV) (j : Nat), fr = ⟨tm, [5], none, 8⟩ ∧ k = p.length - j ∧ j ≤ p.length ∧ AfP ⟨p, ends, [], false⟩ pv ev T' ∧ badZ p.length (p.drop j) (ends.drop j) = B ∧
       tm.length = 92 ∧ tget tm 2 = .ptr 0 0 ∧ tget tm 3 = .ptr 1 0 ∧ tget tm 4 = .ptr 3 0 ∧ tget tm 63 = pv ∧ tget tm 64 = .int .i64 (p.length : Nat) ∧ tget tm 65 = .int .i64 (j : Nat)) p.length
      ⟨_, 0, rfl, rfl, Nat.zero_le _, hA, hbad, ?_⟩ ?_
    · simp only [KA, KP, KQ, reduceCtorEq, ↓reduceIte, Int.reduceLT, Int.reduceLE, Int.reduceAdd, Int.reduceSub, Int.reduceNeg, Int.reduceMul, Int.reduceToNat, Int.reduceEq, Int.reduceNe, Int.reduceGT, Int.reduceGE, Nat.reducePow, Nat.reduceAdd, Nat.reduceSub, Nat.reduceLT, Nat.reduceMul, Nat.reduceDiv, Nat.reduceEqDiff, Nat.reduceLeDiff, KT w, KI, hw.KF, htm, t2, t3, t4, Int.ofNat_zero]
    clear hbad hA hal htm t0 t2 t3 t4 A2 A3 ln0 ln1
    clear hasg hbody hps hfn hl h2 h3 h4 hwd
    rintro k fr T ⟨tm, j, rfl, rfl, hj, hA, hB, htm, t2, t3, t4, t63, t64, t65⟩
    have ln0 : 0 < T.n := by have := hA.n; omega
    have ln1 : 1 < T.n := by have := hA.n; omega
    have ln2 : 2 < T.n := by have := hA.n; omega
    have Aok := hA.ok; have Ab := hA.base
    repeat with_reducible (first | refine E0 ?_ | refine E1 ?_ | refine E2 ?_ | refine E3 ?_ | refine E4 ?_ | refine E5 (by decide) ?_ | refine E6 ?_ | refine E7 ?_ | refine E8 ?_ | refine E9 ?_ | refine Ea ?_ | refine Eb ?_ | refine Ec ?_ | refine Ed ?_)
    by_cases hjl : (j : Int) < (p.length : Int)
    case neg =>
      have hjp : j = p.length := by omega
      have hd : p.drop j = [] := by rw [hjp]; simp
      rw [hd] at hB
      simp only [badZ] at hB
      subst hB
      refine W_region fun K hK => ?_
      simp only [KA, KB, KP, KQ, reduceCtorEq, ↓reduceIte, Int.reduceLT, Int.reduceLE, Int.reduceAdd, Int.reduceSub, Int.reduceNeg, Int.reduceMul, Int.reduceToNat, Int.reduceEq, Int.reduceNe, Int.reduceGT, Int.reduceGE, Nat.reducePow, Nat.reduceAdd, Nat.reduceSub, Nat.reduceLT, Nat.reduceMul, Nat.reduceDiv, Nat.reduceEqDiff, Nat.reduceLeDiff, KT w, KI, hw.KF, htm, t64, t65, hjl]
      refine hK _ _ ?_
      clear hK
      clear K
      repeat with_reducible (first | refine E0 ?_ | refine E1 ?_ | refine E2 ?_ | refine E3 ?_ | refine E4 ?_ | refine E5 (by decide) ?_ | refine E6 ?_ | refine E7 ?_ | refine E8 ?_ | refine E9 ?_ | refine Ea ?_ | refine Eb ?_ | refine Ec ?_ | refine Ed ?_)
      refine W_condF (by simp only [KA, KP, KQ, reduceCtorEq, ↓reduceIte, Int.reduceLT, Int.reduceLE, Int.reduceAdd, Int.reduceSub, Int.reduceNeg, Int.reduceMul, Int.reduceToNat, Int.reduceEq, Int.reduceNe, Int.reduceGT, Int.reduceGE, Nat.reducePow, Nat.reduceAdd, Nat.reduceSub, Nat.reduceLT, Nat.reduceMul, Nat.reduceDiv, Nat.reduceEqDiff, Nat.reduceLeDiff, KT w, KI, hw.KF, htm]) ?_
      repeat with_reducible (first | refine E0 ?_ | refine E1 ?_ | refine E2 ?_ | refine E3 ?_ | refine E4 ?_ | refine E5 (by decide) ?_ | refine E6 ?_ | refine E7 ?_ | refine E8 ?_ | refine E9 ?_ | refine Ea ?_ | refine Eb ?_ | refine Ec ?_ | refine Ed ?_)
      have A0 := hA.g0; have A1 := hA.g1; have A2 := hA.g2; have A3 := hA.g3
      simp only at A2
      obtain ⟨q0, q1, q5, qb, qq⟩ := get3 hA.ok hA.n (.row [pv] false) (.row [.int .i64 0, .int .i64 0] false) .dead
      rw [hA.g5] at q5
      rw [hA.base] at qb
      have hPV : PV pv p T := hA.hp
      rcases hPV with ⟨h1, rfl⟩ | ⟨o, g, rfl, ho, hg⟩
      · subst h1
        refine W_region fun K hK => ?_
        simp only [KA, KB, KP, KQ, reduceCtorEq, ↓reduceIte, Int.reduceLT, Int.reduceLE, Int.reduceAdd, Int.reduceSub, Int.reduceNeg, Int.reduceMul, Int.reduceToNat, Int.reduceEq, Int.reduceNe, Int.reduceGT, Int.reduceGE, Nat.reducePow, Nat.reduceAdd, Nat.reduceSub, Nat.reduceLT, Nat.reduceMul, Nat.reduceDiv, Nat.reduceEqDiff, Nat.reduceLeDiff, KT w, KI, hw.KF, htm, t2, t3, t4, A0, A1, A2, A3, Aok, Ab, ln0, ln1, splice]
        refine hK _ _ ?_
        clear hK
        clear K
        repeat with_reducible (first | refine E0 ?_ | refine E1 ?_ | refine E2 ?_ | refine E3 ?_ | refine E4 ?_ | refine E5 (by decide) ?_ | refine E6 ?_ | refine E7 ?_ | refine E8 ?_ | refine E9 ?_ | refine Ea ?_ | refine Eb ?_ | refine Ec ?_ | refine Ed ?_)
        refine AtEnd_one rfl q5 (by omega) ?_
        simp only [KA, KP, KQ, reduceCtorEq, ↓reduceIte, Int.reduceLT, Int.reduceLE, Int.reduceAdd, Int.reduceSub, Int.reduceNeg, Int.reduceMul, Int.reduceToNat, Int.reduceEq, Int.reduceNe, Int.reduceGT, Int.reduceGE, Nat.reducePow, Nat.reduceAdd, Nat.reduceSub, Nat.reduceLT, Nat.reduceMul, Nat.reduceDiv, Nat.reduceEqDiff, Nat.reduceLeDiff, KT w, KI, hw.KF, htm, t2, t3, q0, q1, RS_some, aresults_nil, aresults_tmp, aresults_cell, one]
        exact FZ_tup rfl
      · refine W_region fun K hK => ?_
        simp only [KA, KB, KP, KQ, reduceCtorEq, ↓reduceIte, Int.reduceLT, Int.reduceLE, Int.reduceAdd, Int.reduceSub, Int.reduceNeg, Int.reduceMul, Int.reduceToNat, Int.reduceEq, Int.reduceNe, Int.reduceGT, Int.reduceGE, Nat.reducePow, Nat.reduceAdd, Nat.reduceSub, Nat.reduceLT, Nat.reduceMul, Nat.reduceDiv, Nat.reduceEqDiff, Nat.reduceLeDiff, KT w, KI, hw.KF, htm, t2, t3, t4, A0, A1, A2, A3, Aok, Ab, ln0, ln1, splice]
        refine hK _ _ ?_
        clear hK
        clear K
        repeat with_reducible (first | refine E0 ?_ | refine E1 ?_ | refine E2 ?_ | refine E3 ?_ | refine E4 ?_ | refine E5 (by decide) ?_ | refine E6 ?_ | refine E7 ?_ | refine E8 ?_ | refine E9 ?_ | refine Ea ?_ | refine Eb ?_ | refine Ec ?_ | refine Ed ?_)
        refine AtEnd_one rfl q5 (by omega) ?_
        simp only [KA, KP, KQ, reduceCtorEq, ↓reduceIte, Int.reduceLT, Int.reduceLE, Int.reduceAdd, Int.reduceSub, Int.reduceNeg, Int.reduceMul, Int.reduceToNat, Int.reduceEq, Int.reduceNe, Int.reduceGT, Int.reduceGE, Nat.reducePow, Nat.reduceAdd, Nat.reduceSub, Nat.reduceLT, Nat.reduceMul, Nat.reduceDiv, Nat.reduceEqDiff, Nat.reduceLeDiff, KT w, KI, hw.KF, htm, t2, t3, q0, q1, RS_some, aresults_nil, aresults_tmp, aresults_cell, one]
        have ho0 : o ≠ 0 := fun e => by subst e; rw [A0] at hg; cases hg
        have ho1 : o ≠ 1 := fun e => by subst e; rw [A1] at hg; cases hg
        have ho5 : o ≠ 5 := fun e => by subst e; rw [hA.g5] at hg; cases hg
        have hgo := qq o ho0 ho1 ho5
        rw [hg] at hgo
        refine FZ_tupF (l := [(o, 0 + p.length)]) ?_
        have hrw : (((T.set 0 (.row [.sref o g 0 p.length] false)).set 1 (.row [.int .i64 0, .int .i64 0] false)).set 5 .dead).rows o g 0 p.length = some (inRows p) := by
          simp only [St.rows, hgo, inRows_len]
          rw [if_pos (by constructor; trivial; omega), List.drop_zero, List.take_of_length_le (by rw [inRows_len]; omega)]
        simp only [frzLA, frzA, frz1, frzL, hrw, nrmR_inRows, Option.bind_some, Option.map_some, nrm, List.append_nil, List.cons_append, List.nil_append]
    have hjn : j < p.length := by omega
    obtain ⟨i, hi⟩ : ∃ i, p[j]? = some i := ⟨_, List.getElem?_eq_getElem hjn⟩
    obtain ⟨e, he⟩ : ∃ e, ends[j]? = some e := ⟨_, List.getElem?_eq_getElem (by omega)⟩
    have hd1 : p.drop j = i :: p.drop (j + 1) := by
      rw [List.drop_eq_getElem_cons hjn]
      rw [List.getElem?_eq_getElem hjn] at hi
      simp only [Option.some.injEq] at hi; rw [hi]
    have hd2 : ends.drop j = e :: ends.drop (j + 1) := by
      rw [List.drop_eq_getElem_cons (by omega)]
      rw [List.getElem?_eq_getElem (by omega)] at he
      simp only [Option.some.injEq] at he; rw [he]
    rw [hd1, hd2, badZ] at hB
    have hrow : (inRows p)[j]? = some (inRow i) := by rw [inRows_get, hi]; rfl
    have hre : (ints ends)[j]? = some [.int .i64 e] := by rw [ints_get, he]; rfl
    have hpne : p ≠ [] := fun h => by subst h; simp at hjn
    have hPV : PV pv p T := hA.hp
    have hEV : EV ev ends T := hA.he
    rcases hPV with ⟨h1, -⟩ | ⟨o, g, hpv, ho, hg⟩
    · exact absurd h1 hpne
    rcases hEV with ⟨h1, -⟩ | ⟨oe, ge, hev, hoe, hge⟩
    · subst h1; simp at he
    subst hpv hev
    have hj0 : (0 : Int) ≤ (j : Int) := by omega
    refine W_region fun K hK => ?_
    simp only [KA, KB, KP, KQ, reduceCtorEq, ↓reduceIte, Int.reduceLT, Int.reduceLE, Int.reduceAdd, Int.reduceSub, Int.reduceNeg, Int.reduceMul, Int.reduceToNat, Int.reduceEq, Int.reduceNe, Int.reduceGT, Int.reduceGE, Nat.reducePow, Nat.reduceAdd, Nat.reduceSub, Nat.reduceLT, Nat.reduceMul, Nat.reduceDiv, Nat.reduceEqDiff, Nat.reduceLeDiff, KT w, KI, hw.KF, htm, t64, t65, hjl]
    refine hK _ _ ?_
    clear hK
    clear K
    repeat with_reducible (first | refine E0 ?_ | refine E1 ?_ | refine E2 ?_ | refine E3 ?_ | refine E4 ?_ | refine E5 (by decide) ?_ | refine E6 ?_ | refine E7 ?_ | refine E8 ?_ | refine E9 ?_ | refine Ea ?_ | refine Eb ?_ | refine Ec ?_ | refine Ed ?_)
    refine W_condT (by simp only [KA, KP, KQ, reduceCtorEq, ↓reduceIte, Int.reduceLT, Int.reduceLE, Int.reduceAdd, Int.reduceSub, Int.reduceNeg, Int.reduceMul, Int.reduceToNat, Int.reduceEq, Int.reduceNe, Int.reduceGT, Int.reduceGE, Nat.reducePow, Nat.reduceAdd, Nat.reduceSub, Nat.reduceLT, Nat.reduceMul, Nat.reduceDiv, Nat.reduceEqDiff, Nat.reduceLeDiff, KT w, KI, hw.KF, htm]) ?_
    repeat with_reducible (first | refine E0 ?_ | refine E1 ?_ | refine E2 ?_ | refine E3 ?_ | refine E4 ?_ | refine E5 (by decide) ?_ | refine E6 ?_ | refine E7 ?_ | refine E8 ?_ | refine E9 ?_ | refine Ea ?_ | refine Eb ?_ | refine Ec ?_ | refine Ed ?_)
    refine W_region fun K hK => ?_
    simp only [KA, KB, KP, KQ, reduceCtorEq, ↓reduceIte, Int.reduceLT, Int.reduceLE, Int.reduceAdd, Int.reduceSub, Int.reduceNeg, Int.reduceMul, Int.reduceToNat, Int.reduceEq, Int.reduceNe, Int.reduceGT, Int.reduceGE, Nat.reducePow, Nat.reduceAdd, Nat.reduceSub, Nat.reduceLT, Nat.reduceMul, Nat.reduceDiv, Nat.reduceEqDiff, Nat.reduceLeDiff, KT w, KI, hw.KF, htm, t63, t65, hg, hjl, hj0, hrow, Aok, Ab, splice]
    refine hK _ _ ?_
    clear hK
    clear K
    repeat with_reducible (first | refine E0 ?_ | refine E1 ?_ | refine E2 ?_ | refine E3 ?_ | refine E4 ?_ | refine E5 (by decide) ?_ | refine E6 ?_ | refine E7 ?_ | refine E8 ?_ | refine E9 ?_ | refine Ea ?_ | refine Eb ?_ | refine Ec ?_ | refine Ed ?_)
    obtain ⟨T9, hT9⟩ : ∃ T9, T9 = T.push (.row (inRow i) false) := ⟨_, rfl⟩
    have hA9 := hA.push (.row (inRow i) false)
    have h9 : (T.push (.row (inRow i) false)).get T.n = some (.row (inRow i) false) := St.get_pushe
    have hn9 : (T.push (.row (inRow i) false)).n = T.n + 1 := St.pushN _ _
    have hg9 : (T.push (.row (inRow i) false)).get o = some (.seq g 4 (inRows p) 0) := by rw [St.get_pushn (by omega)]; exact hg
    have hge9 : (T.push (.row (inRow i) false)).get oe = some (.seq ge 1 (ints ends) 0) := by rw [St.get_pushn (by omega)]; exact hge
    rw [← hT9] at hA9 h9 hn9 hg9 hge9
    try rw [← hT9]
    clear hT9
    have B0 := hA9.g0; have B1 := hA9.g1; have B2 := hA9.g2; have B3 := hA9.g3
    have Bok := hA9.ok; have Bb := hA9.base
    simp only at B2
    obtain ⟨M, hM⟩ : ∃ M, T.n = M := ⟨_, rfl⟩
    rw [hM] at h9 hn9 ln0 ln1 ln2
    try rw [hM]
    have i3 : (inRow i)[3]? = some (.int .i64 i.z) := rfl
    refine W_regionD [[], [0], [], [2], [3, 2], [4, 3, 2], [5, 4, 3, 2], [1, 0, 6, 5, 4, 3, 2]] (by decide +kernel) (by decide +kernel) (by decide +kernel) fun K hK => ?_
    simp only [KA, KB, KP, KQ, reduceCtorEq, ↓reduceIte, Int.reduceLT, Int.reduceLE, Int.reduceAdd, Int.reduceSub, Int.reduceNeg, Int.reduceMul, Int.reduceToNat, Int.reduceEq, Int.reduceNe, Int.reduceGT, Int.reduceGE, Nat.reducePow, Nat.reduceAdd, Nat.reduceSub, Nat.reduceLT, Nat.reduceMul, Nat.reduceDiv, Nat.reduceEqDiff, Nat.reduceLeDiff, KT w, KI, hw.KF, A58, A59, A5a, A5b, A5c, A5d, A5e, A5f, A5g, A5h, A5i, opP, rfoot, refsO, refs, wfoot, A5j, A5k, noisyOk, pairOk, Foot.isQuiet, Foot.apart, Ft.apart, Foot.none, A5l, A5m, A48, A49, A5n, A5o, A5p, A5q, Nat.reduceBEq, htm, t4, h9, B2, B3, i3, inRow]
    refine hK _ _ ?_
    clear hK
    clear K
    repeat with_reducible (first | refine E0 ?_ | refine E1 ?_ | refine E2 ?_ | refine E3 ?_ | refine E4 ?_ | refine E5 (by decide) ?_ | refine E6 ?_ | refine E7 ?_ | refine E8 ?_ | refine E9 ?_ | refine Ea ?_ | refine Eb ?_ | refine Ec ?_ | refine Ed ?_)
    have C0 : 0 < T9.n := by omega
    have C1 : 1 < T9.n := by omega
    by_cases hz9 : (p.length : Int) < i.z
    · rw [if_pos hz9] at hB
      subst hB
      refine W_condT (by simp only [KA, KP, KQ, reduceCtorEq, ↓reduceIte, Int.reduceLT, Int.reduceLE, Int.reduceAdd, Int.reduceSub, Int.reduceNeg, Int.reduceMul, Int.reduceToNat, Int.reduceEq, Int.reduceNe, Int.reduceGT, Int.reduceGE, Nat.reducePow, Nat.reduceAdd, Nat.reduceSub, Nat.reduceLT, Nat.reduceMul, Nat.reduceDiv, Nat.reduceEqDiff, Nat.reduceLeDiff, KT w, KI, hw.KF, htm, hz9]) ?_
      repeat with_reducible (first | refine E0 ?_ | refine E1 ?_ | refine E2 ?_ | refine E3 ?_ | refine E4 ?_ | refine E5 (by decide) ?_ | refine E6 ?_ | refine E7 ?_ | refine E8 ?_ | refine E9 ?_ | refine Ea ?_ | refine Eb ?_ | refine Ec ?_ | refine Ed ?_)
      have hjl2 : (j : Int) < (ends.length : Int) := by omega
      have x0 : oe ≠ 0 := fun h => by subst h; rw [B0] at hge9; cases hge9
      have x1 : oe ≠ 1 := fun h => by subst h; rw [B1] at hge9; cases hge9
      have d0 : (0 == oe) = false := by simp; omega
      have d1 : (1 == oe) = false := by simp; omega
      have d2 : (oe == 0) = false := by simp; omega
      have d3 : (oe == 1) = false := by simp; omega
      refine W_regionD [[], [0], [1, 0], [2, 1, 0], [], [3, 2, 1, 0, 4], [5, 3, 2, 1, 0, 4], [6, 5, 3, 2, 1, 0, 4], [], [7, 6, 5, 3, 2, 1, 0, 4, 8]] (by decide +kernel) (by decide +kernel) (by decide +kernel) fun K hK => ?_
      simp only [KA, KB, KP, KQ, reduceCtorEq, ↓reduceIte, Int.reduceLT, Int.reduceLE, Int.reduceAdd, Int.reduceSub, Int.reduceNeg, Int.reduceMul, Int.reduceToNat, Int.reduceEq, Int.reduceNe, Int.reduceGT, Int.reduceGE, Nat.reducePow, Nat.reduceAdd, Nat.reduceSub, Nat.reduceLT, Nat.reduceMul, Nat.reduceDiv, Nat.reduceEqDiff, Nat.reduceLeDiff, KT w, KI, hw.KF, A58, A59, A5a, A5b, A5c, A5d, A5e, A5f, A5g, A5h, A5i, opP, rfoot, refsO, refs, wfoot, A5j, A5k, noisyOk, pairOk, Foot.isQuiet, Foot.apart, Ft.apart, Foot.none, A5l, A5m, A48, A49, A5n, A5o, A5p, A5q, Nat.reduceBEq, htm, d0, d1, d2, d3, A38, Bool.and_self, A2f, t2, t3, t4, B0, B1, B2, B3, hge9, hre, hjl2, hj0, Bok, Bb, C0, C1, splice]
      refine hK _ _ ?_
      clear hK
      clear K
      repeat with_reducible (first | refine E0 ?_ | refine E1 ?_ | refine E2 ?_ | refine E3 ?_ | refine E4 ?_ | refine E5 (by decide) ?_ | refine E6 ?_ | refine E7 ?_ | refine E8 ?_ | refine E9 ?_ | refine Ea ?_ | refine Eb ?_ | refine Ec ?_ | refine Ed ?_)
      obtain ⟨q0, q1, q5, qb, -⟩ := get3 hA9.ok hA9.n (.row [.nils] false) (.row [.int .i64 10, .int .i64 e] false) .dead
      rw [hA9.g5] at q5
      rw [hA9.base] at qb
      refine AtEnd_one rfl q5 (by omega) ?_
      simp only [KA, KP, KQ, reduceCtorEq, ↓reduceIte, Int.reduceLT, Int.reduceLE, Int.reduceAdd, Int.reduceSub, Int.reduceNeg, Int.reduceMul, Int.reduceToNat, Int.reduceEq, Int.reduceNe, Int.reduceGT, Int.reduceGE, Nat.reducePow, Nat.reduceAdd, Nat.reduceSub, Nat.reduceLT, Nat.reduceMul, Nat.reduceDiv, Nat.reduceEqDiff, Nat.reduceLeDiff, KT w, KI, hw.KF, htm, t2, t3, q0, q1, RS_some, aresults_nil, aresults_tmp, aresults_cell, one]
      exact FZ_tup rfl
    · rw [if_neg hz9] at hB
      have ej : IntKind.i64.wrap ((j : Int) + 1) = ((j + 1 : Nat) : Int) := by rw [i64_in _ (by omega)]; omega
      refine W_condF (by simp only [KA, KP, KQ, reduceCtorEq, ↓reduceIte, Int.reduceLT, Int.reduceLE, Int.reduceAdd, Int.reduceSub, Int.reduceNeg, Int.reduceMul, Int.reduceToNat, Int.reduceEq, Int.reduceNe, Int.reduceGT, Int.reduceGE, Nat.reducePow, Nat.reduceAdd, Nat.reduceSub, Nat.reduceLT, Nat.reduceMul, Nat.reduceDiv, Nat.reduceEqDiff, Nat.reduceLeDiff, KT w, KI, hw.KF, htm, hz9]) ?_
      repeat with_reducible (first | refine E0 ?_ | refine E1 ?_ | refine E2 ?_ | refine E3 ?_ | refine E4 ?_ | refine E5 (by decide) ?_ | refine E6 ?_ | refine E7 ?_ | refine E8 ?_ | refine E9 ?_ | refine Ea ?_ | refine Eb ?_ | refine Ec ?_ | refine Ed ?_)
      refine W_region fun K hK => ?_
      simp only [KA, KB, KP, KQ, reduceCtorEq, ↓reduceIte, Int.reduceLT, Int.reduceLE, Int.reduceAdd, Int.reduceSub, Int.reduceNeg, Int.reduceMul, Int.reduceToNat, Int.reduceEq, Int.reduceNe, Int.reduceGT, Int.reduceGE, Nat.reducePow, Nat.reduceAdd, Nat.reduceSub, Nat.reduceLT, Nat.reduceMul, Nat.reduceDiv, Nat.reduceEqDiff, Nat.reduceLeDiff, KT w, KI, hw.KF, htm, t65, ej]
      refine hK _ _ ?_
      clear hK
      clear K
      refine ⟨p.length - (j + 1), by omega, _, j + 1, rfl, rfl, by omega, hA9, hB, ?_⟩
      simp only [KA, KP, KQ, reduceCtorEq, ↓reduceIte, Int.reduceLT, Int.reduceLE, Int.reduceAdd, Int.reduceSub, Int.reduceNeg, Int.reduceMul, Int.reduceToNat, Int.reduceEq, Int.reduceNe, Int.reduceGT, Int.reduceGE, Nat.reducePow, Nat.reduceAdd, Nat.reduceSub, Nat.reduceLT, Nat.reduceMul, Nat.reduceDiv, Nat.reduceEqDiff, Nat.reduceLeDiff, KT w, KI, hw.KF, htm, t2, t3, t4, t63, t64]
end Go.Am.V
