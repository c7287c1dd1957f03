/- WHETHER A TREE CAN BE ONE OF A TEXT, BY THE PROGRAM. -/
import Derived.Test.YtghpjjhdbankhaaE12
set_option linter.unusedSimpArgs false
set_option linter.unusedVariables false
set_option maxRecDepth 20000
namespace Go.Am.B
open Go.Proofs Go.IntWalk

variable {w : Ways}

def fitS (c : Nat) (x : Nat × Node) : Nat × Bool := (c + 1, !(decide ((((c + 1 : Nat) : Int)) > 5000) || decide (((x.1 : Nat) : Int) > 32) || !(oneN x.2)))
def fitP (n : Node) (size : Int) : Bool := (runT fitS (preN n 1) 0).2 && (decide (n.frm ≥ 0) && decide (n.to ≤ size))

def FitJ (L : Lp) (n0 : Node) (b : Bool) (c : Nat) (S : St) : Prop := 5 < S.n ∧ S.get 4 = some .dfr ∧ S.get 5 = some (L.at (if b then .ready else .done) (if b then .nrm else .ret)) ∧ S.get 1 = some (.row [.bool false] false) ∧ S.get 2 = some (.row [.int .i64 c] false) ∧ S.get 0 = some (.row n0.cells false)
theorem FitJ.push {L : Lp} {n0 : Node} (b : Bool) (s : Nat) (S : St) (o : AObj) (h : FitJ L n0 b s S) : FitJ L n0 b s (S.push o) := by
  obtain ⟨h1, h2, h3, h4, h5, h6⟩ := h
  exact ⟨by rw [St.pushN]; omega, by rw [St.get_pushn (by omega)]; exact h2, by rw [St.get_pushn (by omega)]; exact h3, by rw [St.get_pushn (by omega)]; exact h4, by rw [St.get_pushn (by omega)]; exact h5, by rw [St.get_pushn (by omega)]; exact h6⟩

theorem fit55_ok (hw : Std w) (n : Node) (hn : n.ok) (hc : cnt n ≤ 900000) (size : Int) : PC (cfg w) 55 [n.av, .int .i64 size] (.bool (fitP n size)) := by
  refine PC_of (args' := [n.av, .int .i64 size]) hw.e55 hw.m55 (by simp [nrmA, nrm, Node.nrm_all]) ?_
  have hwalk := walkN_ok hw n
  refine call_of_W (fn55 w) rfl ?_
  simp only [Try.f55, List.length_cons, List.length_nil, ↓reduceIte, Int.reduceLT, Int.reduceLE, Int.reduceAdd, Int.reduceSub, Int.reduceNeg, Int.reduceMul, Int.reduceToNat, Int.reduceEq, Int.reduceNe, Int.reduceGT, Int.reduceGE, Nat.reducePow, IntKind.bits, Nat.reduceAdd, Nat.reduceSub, List.cons_append, List.nil_append]
  repeat with_reducible (first | refine E0 ?_ | refine E1 ?_ | refine E2 ?_ | refine E3 ?_ | refine E4 ?_ | refine E5 (by decide) ?_ | refine E6 ?_ | refine E7 ?_ | refine E8 ?_ | refine E9 ?_ | refine Ea ?_ | refine Eb ?_ | refine Ec ?_ | refine Ed ?_)
  refine W_region fun K hK => ?_
  simp only [KA, KB, KP, KQ, reduceCtorEq, ↓reduceIte, Int.reduceLT, Int.reduceLE, Int.reduceAdd, Int.reduceSub, Int.reduceNeg, Int.reduceMul, Int.reduceToNat, Int.reduceEq, Int.reduceNe, Int.reduceGT, Int.reduceGE, Nat.reducePow, Nat.reduceAdd, Nat.reduceSub, Nat.reduceLT, Nat.reduceMul, Nat.reduceDiv, Nat.reduceEqDiff, Nat.reduceLeDiff, KT w, hw.KF]
  refine hK _ _ ?_
  clear hK
  clear K
  repeat with_reducible (first | refine E0 ?_ | refine E1 ?_ | refine E2 ?_ | refine E3 ?_ | refine E4 ?_ | refine E5 (by decide) ?_ | refine E6 ?_ | refine E7 ?_ | refine E8 ?_ | refine E9 ?_ | refine Ea ?_ | refine Eb ?_ | refine Ec ?_ | refine Ed ?_)
  refine W_region fun K hK => ?_
  simp only [KA, KB, KP, KQ, reduceCtorEq, ↓reduceIte, Int.reduceLT, Int.reduceLE, Int.reduceAdd, Int.reduceSub, Int.reduceNeg, Int.reduceMul, Int.reduceToNat, Int.reduceEq, Int.reduceNe, Int.reduceGT, Int.reduceGE, Nat.reducePow, Nat.reduceAdd, Nat.reduceSub, Nat.reduceLT, Nat.reduceMul, Nat.reduceDiv, Nat.reduceEqDiff, Nat.reduceLeDiff, KT w, hw.KF, splice, List.length_append]
  refine hK _ _ ?_
  clear hK
  clear K
  repeat with_reducible (first | refine E0 ?_ | refine E1 ?_ | refine E2 ?_ | refine E3 ?_ | refine E4 ?_ | refine E5 (by decide) ?_ | refine E6 ?_ | refine E7 ?_ | refine E8 ?_ | refine E9 ?_ | refine Ea ?_ | refine Eb ?_ | refine Ec ?_ | refine Ed ?_)
  refine W_region fun K hK => ?_
  simp only [KA, KB, KP, KQ, reduceCtorEq, ↓reduceIte, Int.reduceLT, Int.reduceLE, Int.reduceAdd, Int.reduceSub, Int.reduceNeg, Int.reduceMul, Int.reduceToNat, Int.reduceEq, Int.reduceNe, Int.reduceGT, Int.reduceGE, Nat.reducePow, Nat.reduceAdd, Nat.reduceSub, Nat.reduceLT, Nat.reduceMul, Nat.reduceDiv, Nat.reduceEqDiff, Nat.reduceLeDiff, KT w, hw.KF, hwalk]
  refine hK _ _ ?_
  clear hK
  clear K
  repeat with_reducible (first | refine E0 ?_ | refine E1 ?_ | refine E2 ?_ | refine E3 ?_ | refine E4 ?_ | refine E5 (by decide) ?_ | refine E6 ?_ | refine E7 ?_ | refine E8 ?_ | refine E9 ?_ | refine Ea ?_ | refine Eb ?_ | refine Ec ?_ | refine Ed ?_)
  refine W_range (by simp only [KA, KP, KQ, reduceCtorEq, ↓reduceIte, Int.reduceLT, Int.reduceLE, Int.reduceAdd, Int.reduceSub, Int.reduceNeg, Int.reduceMul, Int.reduceToNat, Int.reduceEq, Int.reduceNe, Int.reduceGT, Int.reduceGE, Nat.reducePow, Nat.reduceAdd, Nat.reduceSub, Nat.reduceLT, Nat.reduceMul, Nat.reduceDiv, Nat.reduceEqDiff, Nat.reduceLeDiff, KT w, hw.KF]; rfl) fun L hL => ?_
  have hps := congrArg Lp.ps hL
  have hasg := congrArg Lp.asg hL
  have hbody := congrArg Lp.body hL
  have hfn := congrArg Lp.fn hL
  have hl : L.tm.length = 34 := by rw [hL]; simp only [KA, KP, KQ, reduceCtorEq, ↓reduceIte, Int.reduceLT, Int.reduceLE, Int.reduceAdd, Int.reduceSub, Int.reduceNeg, Int.reduceMul, Int.reduceToNat, Int.reduceEq, Int.reduceNe, Int.reduceGT, Int.reduceGE, Nat.reducePow, Nat.reduceAdd, Nat.reduceSub, Nat.reduceLT, Nat.reduceMul, Nat.reduceDiv, Nat.reduceEqDiff, Nat.reduceLeDiff, KT w, hw.KF]
  have h4 : tget L.tm 4 = .ptr 1 0 := by rw [hL]; simp only [KA, KP, KQ, reduceCtorEq, ↓reduceIte, Int.reduceLT, Int.reduceLE, Int.reduceAdd, Int.reduceSub, Int.reduceNeg, Int.reduceMul, Int.reduceToNat, Int.reduceEq, Int.reduceNe, Int.reduceGT, Int.reduceGE, Nat.reducePow, Nat.reduceAdd, Nat.reduceSub, Nat.reduceLT, Nat.reduceMul, Nat.reduceDiv, Nat.reduceEqDiff, Nat.reduceLeDiff, KT w, hw.KF]
  have h5 : tget L.tm 5 = .ptr 2 0 := by rw [hL]; simp only [KA, KP, KQ, reduceCtorEq, ↓reduceIte, Int.reduceLT, Int.reduceLE, Int.reduceAdd, Int.reduceSub, Int.reduceNeg, Int.reduceMul, Int.reduceToNat, Int.reduceEq, Int.reduceNe, Int.reduceGT, Int.reduceGE, Nat.reducePow, Nat.reduceAdd, Nat.reduceSub, Nat.reduceLT, Nat.reduceMul, Nat.reduceDiv, Nat.reduceEqDiff, Nat.reduceLeDiff, KT w, hw.KF]
  simp only at hps hasg hbody hfn
  clear hL
  have T : Tak w 5 1000000 fitS (fun c => c) (FitJ L n) := by
    refine ⟨fun s x => Nat.le_refl _, FitJ.push, ?_⟩
    obtain ⟨n0, hn0⟩ : ∃ n0, n0 = n := ⟨_, rfl⟩
    rw [← hn0]
    clear hwalk hn hc hn0
    rintro c S d n ⟨hn5, hdf, hg, g1, g2, g0⟩ hn hls hd hok hbs -
    simp only [if_true] at hg
    have hone := one85_ok hw n hn
    have hok2 : (S.push (.row n.cells false)).ok := St.ok_push hok
    have hgp : (S.push (.row n.cells false)).get 5 = some (L.at .ready .nrm) := by rw [St.get_pushn (by omega)]; exact hg
    have hnp : 5 < (S.push (.row n.cells false)).n := by rw [St.pushN]; omega
    have e1 : IntKind.i64.wrap ((c : Int) + 1) = ((c + 1 : Nat) : Int) := by rw [i64_in _ (by omega)]; omega
    refine yield_val hg (by rw [hps]; rfl) ?_
    rw [hasg, hps, hfn]
    simp only [List.zip_cons_cons, List.zip_nil_right, List.foldl]
    repeat with_reducible (first | refine E0 ?_ | refine E1 ?_ | refine E2 ?_ | refine E3 ?_ | refine E4 ?_ | refine E5 (by decide) ?_ | refine E6 ?_ | refine E7 ?_ | refine E8 ?_ | refine E9 ?_ | refine Ea ?_ | refine Eb ?_ | refine Ec ?_ | refine Ed ?_)
    refine W_region fun K hK => ?_
    simp only [KA, KB, KP, KQ, reduceCtorEq, ↓reduceIte, Int.reduceLT, Int.reduceLE, Int.reduceAdd, Int.reduceSub, Int.reduceNeg, Int.reduceMul, Int.reduceToNat, Int.reduceEq, Int.reduceNe, Int.reduceGT, Int.reduceGE, Nat.reducePow, Nat.reduceAdd, Nat.reduceSub, Nat.reduceLT, Nat.reduceMul, Nat.reduceDiv, Nat.reduceEqDiff, Nat.reduceLeDiff, KT w, hw.KF, hl]
    refine hK _ _ ?_
    clear hK
    clear K
    repeat with_reducible (first | refine E0 ?_ | refine E1 ?_ | refine E2 ?_ | refine E3 ?_ | refine E4 ?_ | refine E5 (by decide) ?_ | refine E6 ?_ | refine E7 ?_ | refine E8 ?_ | refine E9 ?_ | refine Ea ?_ | refine Eb ?_ | refine Ec ?_ | refine Ed ?_)
    refine W_region fun K hK => ?_
    simp only [KA, KB, KP, KQ, reduceCtorEq, ↓reduceIte, Int.reduceLT, Int.reduceLE, Int.reduceAdd, Int.reduceSub, Int.reduceNeg, Int.reduceMul, Int.reduceToNat, Int.reduceEq, Int.reduceNe, Int.reduceGT, Int.reduceGE, Nat.reducePow, Nat.reduceAdd, Nat.reduceSub, Nat.reduceLT, Nat.reduceMul, Nat.reduceDiv, Nat.reduceEqDiff, Nat.reduceLeDiff, KT w, hw.KF, hl, hok, hbs, splice, List.length_append]
    refine hK _ _ ?_
    clear hK
    clear K
    refine ⟨rfl, .nrm, hgp, by show S.base ≤ 5; omega, ?_⟩
    rw [hbody]
    have hb1 : ((S.push (.row n.cells false)).set 5 (L.at .busy .nrm)).base = 0 := hbs
    have k1 : ((S.push (.row n.cells false)).set 5 (L.at .busy .nrm)).ok := St.ok_set hok2
    have gN : ((S.push (.row n.cells false)).set 5 (L.at .busy .nrm)).get S.n = some (.row n.cells false) := by rw [St.get_setn hnp (by omega)]; exact St.get_pushe
    have g5 : ((S.push (.row n.cells false)).set 5 (L.at .busy .nrm)).get 5 = some (L.at .busy .nrm) := St.get_sete hok2 hnp
    have gd : ((S.push (.row n.cells false)).set 5 (L.at .busy .nrm)).get 4 = some .dfr := by rw [St.get_setn hnp (by omega), St.get_pushn (by omega)]; exact hdf
    have gx : ∀ o, o ≠ 5 → o < S.n → ((S.push (.row n.cells false)).set 5 (L.at .busy .nrm)).get o = S.get o := fun o ho ho' => by rw [St.get_setn hnp ho, St.get_pushn (by omega)]
    have hn1 : ((S.push (.row n.cells false)).set 5 (L.at .busy .nrm)).n = S.n + 1 := rfl
    generalize (S.push (.row n.cells false)).set 5 (L.at .busy .nrm) = S1 at *
    have q1 : S1.get 1 = some (.row [.bool false] false) := by rw [gx 1 (by omega) (by omega)]; exact g1
    have q0 : S1.get 0 = some (.row n0.cells false) := by rw [gx 0 (by omega) (by omega)]; exact g0
    have q2 : S1.get 2 = some (.row [.int .i64 c] false) := by rw [gx 2 (by omega) (by omega)]; exact g2
    have hlt1 : 1 < S.n + 1 := by omega
    have hlt2 : 2 < S.n + 1 := by omega
    repeat with_reducible (first | refine E0 ?_ | refine E1 ?_ | refine E2 ?_ | refine E3 ?_ | refine E4 ?_ | refine E5 (by decide) ?_ | refine E6 ?_ | refine E7 ?_ | refine E8 ?_ | refine E9 ?_ | refine Ea ?_ | refine Eb ?_ | refine Ec ?_ | refine Ed ?_)
    refine W_region fun K hK => ?_
    simp only [KA, KB, KP, KQ, reduceCtorEq, ↓reduceIte, Int.reduceLT, Int.reduceLE, Int.reduceAdd, Int.reduceSub, Int.reduceNeg, Int.reduceMul, Int.reduceToNat, Int.reduceEq, Int.reduceNe, Int.reduceGT, Int.reduceGE, Nat.reducePow, Nat.reduceAdd, Nat.reduceSub, Nat.reduceLT, Nat.reduceMul, Nat.reduceDiv, Nat.reduceEqDiff, Nat.reduceLeDiff, KT w, hw.KF, hl, h5, q2, e1, k1, hb1, hn1, hlt2, splice, List.length_append]
    refine hK _ _ ?_
    clear hK
    clear K
    repeat with_reducible (first | refine E0 ?_ | refine E1 ?_ | refine E2 ?_ | refine E3 ?_ | refine E4 ?_ | refine E5 (by decide) ?_ | refine E6 ?_ | refine E7 ?_ | refine E8 ?_ | refine E9 ?_ | refine Ea ?_ | refine Eb ?_ | refine Ec ?_ | refine Ed ?_)
    have t2 : 2 < S1.n := by omega
    have q2' : (S1.set 2 (.row [.int .i64 ((c + 1 : Nat) : Int)] false)).get 2 = some (.row [.int .i64 ((c + 1 : Nat) : Int)] false) := St.get_sete k1 t2
    have q1' : (S1.set 2 (.row [.int .i64 ((c + 1 : Nat) : Int)] false)).get 1 = some (.row [.bool false] false) := by rw [St.get_setn t2 (by omega)]; exact q1
    have gN' : (S1.set 2 (.row [.int .i64 ((c + 1 : Nat) : Int)] false)).get S.n = some (.row n.cells false) := by rw [St.get_setn t2 (by omega)]; exact gN
    have g5' : (S1.set 2 (.row [.int .i64 ((c + 1 : Nat) : Int)] false)).get 5 = some (L.at .busy .nrm) := by rw [St.get_setn t2 (by omega)]; exact g5
    have gd' : (S1.set 2 (.row [.int .i64 ((c + 1 : Nat) : Int)] false)).get 4 = some .dfr := by rw [St.get_setn t2 (by omega)]; exact gd
    have gx' : ∀ o, 5 < o → o < S.n → (S1.set 2 (.row [.int .i64 ((c + 1 : Nat) : Int)] false)).get o = S.get o := fun o ho ho' => by rw [St.get_setn t2 (by omega), gx o (by omega) ho']
    have q0' : (S1.set 2 (.row [.int .i64 ((c + 1 : Nat) : Int)] false)).get 0 = some (.row n0.cells false) := by rw [St.get_setn t2 (by omega)]; exact q0
    have k2 : (S1.set 2 (.row [.int .i64 ((c + 1 : Nat) : Int)] false)).ok := St.ok_set k1
    have hb2 : (S1.set 2 (.row [.int .i64 ((c + 1 : Nat) : Int)] false)).base = 0 := hb1
    have hn2 : (S1.set 2 (.row [.int .i64 ((c + 1 : Nat) : Int)] false)).n = S.n + 1 := hn1
    generalize S1.set 2 (.row [.int .i64 ((c + 1 : Nat) : Int)] false) = S2 at *
    clear q0 q1 q2 gN g5 gd gx k1 hb1 hn1 t2 S1
    have t5 : 5 < S2.n := by omega
    simp only [fitS]
    refine W.mono (Q := fun e fr T => e = .nrm ∧ T = S2 ∧ ∃ tm : List AV, fr = ⟨tm, [], some 5, 55⟩ ∧ tm.length = 34 ∧ tget tm 4 = .ptr 1 0 ∧ tget tm 24 = .bool (decide ((((c + 1 : Nat) : Int)) > 5000) || decide (((d : Nat) : Int) > 32) || !(oneN n))) ?_ ?_
    · by_cases c1 : (((c + 1 : Nat) : Int)) > 5000
      · refine W_region fun K hK => ?_
        simp only [KA, KB, KP, KQ, reduceCtorEq, ↓reduceIte, Int.reduceLT, Int.reduceLE, Int.reduceAdd, Int.reduceSub, Int.reduceNeg, Int.reduceMul, Int.reduceToNat, Int.reduceEq, Int.reduceNe, Int.reduceGT, Int.reduceGE, Nat.reducePow, Nat.reduceAdd, Nat.reduceSub, Nat.reduceLT, Nat.reduceMul, Nat.reduceDiv, Nat.reduceEqDiff, Nat.reduceLeDiff, KT w, hw.KF, hl, h5, q2', c1]
        refine hK _ _ ?_
        clear hK
        clear K
        refine ⟨rfl, rfl, _, rfl, ?_⟩
        simp only [KA, KP, KQ, reduceCtorEq, ↓reduceIte, Int.reduceLT, Int.reduceLE, Int.reduceAdd, Int.reduceSub, Int.reduceNeg, Int.reduceMul, Int.reduceToNat, Int.reduceEq, Int.reduceNe, Int.reduceGT, Int.reduceGE, Nat.reducePow, Nat.reduceAdd, Nat.reduceSub, Nat.reduceLT, Nat.reduceMul, Nat.reduceDiv, Nat.reduceEqDiff, Nat.reduceLeDiff, KT w, hw.KF, hl, h4, c1]
      · by_cases c2 : ((d : Nat) : Int) > 32
        · refine W_region fun K hK => ?_
          simp only [KA, KB, KP, KQ, reduceCtorEq, ↓reduceIte, Int.reduceLT, Int.reduceLE, Int.reduceAdd, Int.reduceSub, Int.reduceNeg, Int.reduceMul, Int.reduceToNat, Int.reduceEq, Int.reduceNe, Int.reduceGT, Int.reduceGE, Nat.reducePow, Nat.reduceAdd, Nat.reduceSub, Nat.reduceLT, Nat.reduceMul, Nat.reduceDiv, Nat.reduceEqDiff, Nat.reduceLeDiff, KT w, hw.KF, hl, h5, q2', c1, c2]
          refine hK _ _ ?_
          clear hK
          clear K
          refine ⟨rfl, rfl, _, rfl, ?_⟩
          simp only [KA, KP, KQ, reduceCtorEq, ↓reduceIte, Int.reduceLT, Int.reduceLE, Int.reduceAdd, Int.reduceSub, Int.reduceNeg, Int.reduceMul, Int.reduceToNat, Int.reduceEq, Int.reduceNe, Int.reduceGT, Int.reduceGE, Nat.reducePow, Nat.reduceAdd, Nat.reduceSub, Nat.reduceLT, Nat.reduceMul, Nat.reduceDiv, Nat.reduceEqDiff, Nat.reduceLeDiff, KT w, hw.KF, hl, h4, c1, c2]
        · refine W_region fun K hK => ?_
          simp only [KA, KB, KP, KQ, reduceCtorEq, ↓reduceIte, Int.reduceLT, Int.reduceLE, Int.reduceAdd, Int.reduceSub, Int.reduceNeg, Int.reduceMul, Int.reduceToNat, Int.reduceEq, Int.reduceNe, Int.reduceGT, Int.reduceGE, Nat.reducePow, Nat.reduceAdd, Nat.reduceSub, Nat.reduceLT, Nat.reduceMul, Nat.reduceDiv, Nat.reduceEqDiff, Nat.reduceLeDiff, KT w, hw.KF, hl, h5, q2', c1, c2, gN', hone]
          refine hK _ _ ?_
          clear hK
          clear K
          refine ⟨rfl, rfl, _, rfl, ?_⟩
          simp only [KA, KP, KQ, reduceCtorEq, ↓reduceIte, Int.reduceLT, Int.reduceLE, Int.reduceAdd, Int.reduceSub, Int.reduceNeg, Int.reduceMul, Int.reduceToNat, Int.reduceEq, Int.reduceNe, Int.reduceGT, Int.reduceGE, Nat.reducePow, Nat.reduceAdd, Nat.reduceSub, Nat.reduceLT, Nat.reduceMul, Nat.reduceDiv, Nat.reduceEqDiff, Nat.reduceLeDiff, KT w, hw.KF, hl, h4, c1, c2]
    clear hl h4 h5
    rintro e fr T ⟨rfl, rfl, tm, rfl, hl, h4, h24⟩
    generalize hB : (decide ((((c + 1 : Nat) : Int)) > 5000) || decide (((d : Nat) : Int) > 32) || !(oneN n)) = B at *
    repeat with_reducible (first | refine E0 ?_ | refine E1 ?_ | refine E2 ?_ | refine E3 ?_ | refine E4 ?_ | refine E5 (by decide) ?_ | refine E6 ?_ | refine E7 ?_ | refine E8 ?_ | refine E9 ?_ | refine Ea ?_ | refine Eb ?_ | refine Ec ?_ | refine Ed ?_)
    cases B with
    | true =>
      refine W_condT (by simp only [KA, KP, KQ, reduceCtorEq, ↓reduceIte, Int.reduceLT, Int.reduceLE, Int.reduceAdd, Int.reduceSub, Int.reduceNeg, Int.reduceMul, Int.reduceToNat, Int.reduceEq, Int.reduceNe, Int.reduceGT, Int.reduceGE, Nat.reducePow, Nat.reduceAdd, Nat.reduceSub, Nat.reduceLT, Nat.reduceMul, Nat.reduceDiv, Nat.reduceEqDiff, Nat.reduceLeDiff, KT w, hw.KF, h24]) ?_
      repeat with_reducible (first | refine E0 ?_ | refine E1 ?_ | refine E2 ?_ | refine E3 ?_ | refine E4 ?_ | refine E5 (by decide) ?_ | refine E6 ?_ | refine E7 ?_ | refine E8 ?_ | refine E9 ?_ | refine Ea ?_ | refine Eb ?_ | refine Ec ?_ | refine Ed ?_)
      refine W_region fun K hK => ?_
      simp only [KA, KB, KP, KQ, reduceCtorEq, ↓reduceIte, Int.reduceLT, Int.reduceLE, Int.reduceAdd, Int.reduceSub, Int.reduceNeg, Int.reduceMul, Int.reduceToNat, Int.reduceEq, Int.reduceNe, Int.reduceGT, Int.reduceGE, Nat.reducePow, Nat.reduceAdd, Nat.reduceSub, Nat.reduceLT, Nat.reduceMul, Nat.reduceDiv, Nat.reduceEqDiff, Nat.reduceLeDiff, KT w, hw.KF, hl, h4, q1', k2, hb2, hn2, hlt1, splice, List.length_append]
      refine hK _ _ ?_
      clear hK
      clear K
      repeat with_reducible (first | refine E0 ?_ | refine E1 ?_ | refine E2 ?_ | refine E3 ?_ | refine E4 ?_ | refine E5 (by decide) ?_ | refine E6 ?_ | refine E7 ?_ | refine E8 ?_ | refine E9 ?_ | refine Ea ?_ | refine Eb ?_ | refine Ec ?_ | refine Ed ?_)
      have t1 : 1 < T.n := by omega
      refine ⟨⟨.busy, .nrm, by rw [St.get_setn t1 (by omega)]; exact g5'⟩, by show T.base ≤ 5; omega, ?_⟩
      have t6 : 5 < (T.set 1 (.row [.bool false] false)).n := by rw [St.setN]; exact t5
      simp only [reduceCtorEq, decide_false, if_false, Bool.not_true]
      refine ⟨trivial, ⟨by simp only [St.setN]; omega, by rw [St.get_setn t6 (by omega), St.get_setn t1 (by omega)]; exact gd', St.get_sete (St.ok_set k2) t6, by rw [St.get_setn t6 (by omega), St.get_sete k2 t1], by rw [St.get_setn t6 (by omega), St.get_setn t1 (by omega)]; exact q2', by rw [St.get_setn t6 (by omega), St.get_setn t1 (by omega)]; exact q0'⟩, ⟨St.ok_set (St.ok_set k2), by simp only [St.setB]; omega, by simp only [St.setN]; omega, fun o x ho hn' hx => by rw [St.get_setn t6 (by omega), St.get_setn t1 (by omega), gx' o ho hn']; exact hx⟩⟩
    | false =>
      refine W_condF (by simp only [KA, KP, KQ, reduceCtorEq, ↓reduceIte, Int.reduceLT, Int.reduceLE, Int.reduceAdd, Int.reduceSub, Int.reduceNeg, Int.reduceMul, Int.reduceToNat, Int.reduceEq, Int.reduceNe, Int.reduceGT, Int.reduceGE, Nat.reducePow, Nat.reduceAdd, Nat.reduceSub, Nat.reduceLT, Nat.reduceMul, Nat.reduceDiv, Nat.reduceEqDiff, Nat.reduceLeDiff, KT w, hw.KF, h24]) ?_
      repeat with_reducible (first | refine E0 ?_ | refine E1 ?_ | refine E2 ?_ | refine E3 ?_ | refine E4 ?_ | refine E5 (by decide) ?_ | refine E6 ?_ | refine E7 ?_ | refine E8 ?_ | refine E9 ?_ | refine Ea ?_ | refine Eb ?_ | refine Ec ?_ | refine Ed ?_)
      refine ⟨⟨.busy, .nrm, g5'⟩, by omega, ?_⟩
      simp only [decide_true, if_true, Bool.not_false]
      refine ⟨trivial, ⟨by simp only [St.setN]; omega, by rw [St.get_setn t5 (by omega)]; exact gd', St.get_sete k2 t5, by rw [St.get_setn t5 (by omega)]; exact q1', by rw [St.get_setn t5 (by omega)]; exact q2', by rw [St.get_setn t5 (by omega)]; exact q0'⟩, ⟨St.ok_set k2, by simp only [St.setB]; omega, by simp only [St.setN]; omega, fun o x ho hn' hx => by rw [St.get_setn t5 (by omega), gx' o ho hn']; exact hx⟩⟩
  have hp : 1 + (preN n 1).length ≤ 1000000 := by rw [preN_len]; omega
  obtain ⟨S', r, hr, hJ, hA⟩ := walkN_call hw (b := 3) T n hn 0 hp (by simp only [preN_len]; omega) ((((((St.nil.push (AObj.row n.cells false)).push (AObj.row [.bool false] false)).push (AObj.row [.int .i64 0] false)).push (AObj.row n.cells false)).push AObj.dfr).push (L.at LoopState.ready Ex.nrm)) (by
      refine ⟨by simp only [KA, KP, KQ, reduceCtorEq, ↓reduceIte, Int.reduceLT, Int.reduceLE, Int.reduceAdd, Int.reduceSub, Int.reduceNeg, Int.reduceMul, Int.reduceToNat, Int.reduceEq, Int.reduceNe, Int.reduceGT, Int.reduceGE, Nat.reducePow, Nat.reduceAdd, Nat.reduceSub, Nat.reduceLT, Nat.reduceMul, Nat.reduceDiv, Nat.reduceEqDiff, Nat.reduceLeDiff, KT w, hw.KF], by simp only [KA, KP, KQ, reduceCtorEq, ↓reduceIte, Int.reduceLT, Int.reduceLE, Int.reduceAdd, Int.reduceSub, Int.reduceNeg, Int.reduceMul, Int.reduceToNat, Int.reduceEq, Int.reduceNe, Int.reduceGT, Int.reduceGE, Nat.reducePow, Nat.reduceAdd, Nat.reduceSub, Nat.reduceLT, Nat.reduceMul, Nat.reduceDiv, Nat.reduceEqDiff, Nat.reduceLeDiff, KT w, hw.KF], by simp only [KA, KP, KQ, reduceCtorEq, ↓reduceIte, Int.reduceLT, Int.reduceLE, Int.reduceAdd, Int.reduceSub, Int.reduceNeg, Int.reduceMul, Int.reduceToNat, Int.reduceEq, Int.reduceNe, Int.reduceGT, Int.reduceGE, Nat.reducePow, Nat.reduceAdd, Nat.reduceSub, Nat.reduceLT, Nat.reduceMul, Nat.reduceDiv, Nat.reduceEqDiff, Nat.reduceLeDiff, KT w, hw.KF], by simp only [KA, KP, KQ, reduceCtorEq, ↓reduceIte, Int.reduceLT, Int.reduceLE, Int.reduceAdd, Int.reduceSub, Int.reduceNeg, Int.reduceMul, Int.reduceToNat, Int.reduceEq, Int.reduceNe, Int.reduceGT, Int.reduceGE, Nat.reducePow, Nat.reduceAdd, Nat.reduceSub, Nat.reduceLT, Nat.reduceMul, Nat.reduceDiv, Nat.reduceEqDiff, Nat.reduceLeDiff, KT w, hw.KF], by simp only [KA, KP, KQ, reduceCtorEq, ↓reduceIte, Int.reduceLT, Int.reduceLE, Int.reduceAdd, Int.reduceSub, Int.reduceNeg, Int.reduceMul, Int.reduceToNat, Int.reduceEq, Int.reduceNe, Int.reduceGT, Int.reduceGE, Nat.reducePow, Nat.reduceAdd, Nat.reduceSub, Nat.reduceLT, Nat.reduceMul, Nat.reduceDiv, Nat.reduceEqDiff, Nat.reduceLeDiff, KT w, hw.KF, Int.ofNat_zero], by simp only [KA, KP, KQ, reduceCtorEq, ↓reduceIte, Int.reduceLT, Int.reduceLE, Int.reduceAdd, Int.reduceSub, Int.reduceNeg, Int.reduceMul, Int.reduceToNat, Int.reduceEq, Int.reduceNe, Int.reduceGT, Int.reduceGE, Nat.reducePow, Nat.reduceAdd, Nat.reduceSub, Nat.reduceLT, Nat.reduceMul, Nat.reduceDiv, Nat.reduceEqDiff, Nat.reduceLeDiff, KT w, hw.KF]⟩) (St.ok_push (St.ok_push (St.ok_push (St.ok_push (St.ok_push (St.ok_push St.ok_nil)))))) rfl (by simp only [KA, KP, KQ, reduceCtorEq, ↓reduceIte, Int.reduceLT, Int.reduceLE, Int.reduceAdd, Int.reduceSub, Int.reduceNeg, Int.reduceMul, Int.reduceToNat, Int.reduceEq, Int.reduceNe, Int.reduceGT, Int.reduceGE, Nat.reducePow, Nat.reduceAdd, Nat.reduceSub, Nat.reduceLT, Nat.reduceMul, Nat.reduceDiv, Nat.reduceEqDiff, Nat.reduceLeDiff, KT w, hw.KF]) (by simp only [KA, KP, KQ, reduceCtorEq, ↓reduceIte, Int.reduceLT, Int.reduceLE, Int.reduceAdd, Int.reduceSub, Int.reduceNeg, Int.reduceMul, Int.reduceToNat, Int.reduceEq, Int.reduceNe, Int.reduceGT, Int.reduceGE, Nat.reducePow, Nat.reduceAdd, Nat.reduceSub, Nat.reduceLT, Nat.reduceMul, Nat.reduceDiv, Nat.reduceEqDiff, Nat.reduceLeDiff, KT w, hw.KF]) (by simp only [KA, KP, KQ, reduceCtorEq, ↓reduceIte, Int.reduceLT, Int.reduceLE, Int.reduceAdd, Int.reduceSub, Int.reduceNeg, Int.reduceMul, Int.reduceToNat, Int.reduceEq, Int.reduceNe, Int.reduceGT, Int.reduceGE, Nat.reducePow, Nat.reduceAdd, Nat.reduceSub, Nat.reduceLT, Nat.reduceMul, Nat.reduceDiv, Nat.reduceEqDiff, Nat.reduceLeDiff, KT w, hw.KF])
  have hb' := hA.base
  have hn' := hA.n
  have hok' := hA.ok
  simp only [St.pushB, St.pushN, St.nil_base, St.nil_n] at hb' hn'
  unfold fitP
  generalize (runT fitS (preN n 1) 0).1 = c1 at *
  generalize (runT fitS (preN n 1) 0).2 = b1 at *
  obtain ⟨k0, k1, k2, k3, k4, hg0⟩ := hJ
  have hs0 : 0 < S'.n := by omega
  have hs1 : 1 < S'.n := by omega
  cases b1 with
  | false =>
    simp only [Bool.false_eq_true, if_false] at k2
    refine ⟨r, S', hr, .done, .ret, k2, by simp, by omega, ?_⟩
    have h4' : (S'.set 5 (L.at LoopState.exhausted Ex.ret)).get 4 = some .dfr := by rw [St.get_setn (by omega) (by omega)]; exact k1
    have h1' : ∀ Y, ((S'.set 5 (L.at LoopState.exhausted Ex.ret)).set 4 Y).get 1 = some (.row [.bool false] false) := fun Y => by rw [St.get_setn (by simp only [St.setN]; omega) (by omega), St.get_setn (by omega) (by omega)]; exact k3
    repeat with_reducible (first | refine E0 ?_ | refine E1 ?_ | refine E2 ?_ | refine E3 ?_ | refine E4 ?_ | refine E5 (by decide) ?_ | refine E6 ?_ | refine E7 ?_ | refine E8 ?_ | refine E9 ?_ | refine Ea ?_ | refine Eb ?_ | refine Ec ?_ | refine Ed ?_)
    simp only [St.pushN, St.nil_n]
    refine AtEnd_one rfl h4' (by show S'.base ≤ 4; omega) ?_
    simp only [KA, KP, KQ, reduceCtorEq, ↓reduceIte, Int.reduceLT, Int.reduceLE, Int.reduceAdd, Int.reduceSub, Int.reduceNeg, Int.reduceMul, Int.reduceToNat, Int.reduceEq, Int.reduceNe, Int.reduceGT, Int.reduceGE, Nat.reducePow, Nat.reduceAdd, Nat.reduceSub, Nat.reduceLT, Nat.reduceMul, Nat.reduceDiv, Nat.reduceEqDiff, Nat.reduceLeDiff, KT w, hw.KF, RS_some, aresults_nil, aresults_tmp, aresults_cell, one, h1']
    try simp only [Bool.false_and]
    exact FZ_bool
  | true =>
    simp only [if_true] at k2
    refine ⟨r, S', hr, .ready, .nrm, k2, by simp, by omega, ?_⟩
    have hok2 : (S'.set 5 (L.at LoopState.exhausted Ex.nrm)).ok := St.ok_set hok'
    have g0' : (S'.set 5 (L.at LoopState.exhausted Ex.nrm)).get 0 = some (.row n.cells false) := by rw [St.get_setn (by omega) (by omega)]; exact hg0
    have g1' : (S'.set 5 (L.at LoopState.exhausted Ex.nrm)).get 1 = some (.row [.bool false] false) := by rw [St.get_setn (by omega) (by omega)]; exact k3
    have g4' : (S'.set 5 (L.at LoopState.exhausted Ex.nrm)).get 4 = some .dfr := by rw [St.get_setn (by omega) (by omega)]; exact k1
    have hb2 : (S'.set 5 (L.at LoopState.exhausted Ex.nrm)).base = 0 := by rw [St.setB]; omega
    have hn2 : 5 < (S'.set 5 (L.at LoopState.exhausted Ex.nrm)).n := by rw [St.setN]; omega
    try simp only [Bool.true_and]
    simp only [St.pushN, St.nil_n]
    generalize S'.set 5 (L.at LoopState.exhausted Ex.nrm) = S2 at *
    have hl0 : 0 < S2.n := by omega
    have hl1 : 1 < S2.n := by omega
    have hl4 : 4 < S2.n := by omega
    have fin : ∀ (v : AV), ∃ S3, S2.set 1 (.row [v] false) = S3 ∧ S3.get 4 = some .dfr ∧ S3.base = 0 ∧ ∀ Y, (S3.set 4 Y).get 1 = some (.row [v] false) := fun v => ⟨_, rfl, by rw [St.get_setn hl1 (by omega)]; exact g4', hb2, fun Y => by rw [St.get_setn (by rw [St.setN]; exact hl4) (by omega), St.get_sete hok2 hl1]⟩
    by_cases c1 : n.frm ≥ 0
    · obtain ⟨S3, he, h4', h5', h6'⟩ := fin (.bool (decide (n.to ≤ size)))
      repeat with_reducible (first | refine E0 ?_ | refine E1 ?_ | refine E2 ?_ | refine E3 ?_ | refine E4 ?_ | refine E5 (by decide) ?_ | refine E6 ?_ | refine E7 ?_ | refine E8 ?_ | refine E9 ?_ | refine Ea ?_ | refine Eb ?_ | refine Ec ?_ | refine Ed ?_)
      refine W_region fun K hK => ?_
      simp only [KA, KB, KP, KQ, reduceCtorEq, ↓reduceIte, Int.reduceLT, Int.reduceLE, Int.reduceAdd, Int.reduceSub, Int.reduceNeg, Int.reduceMul, Int.reduceToNat, Int.reduceEq, Int.reduceNe, Int.reduceGT, Int.reduceGE, Nat.reducePow, Nat.reduceAdd, Nat.reduceSub, Nat.reduceLT, Nat.reduceMul, Nat.reduceDiv, Nat.reduceEqDiff, Nat.reduceLeDiff, KT w, hw.KF, g0', g1', c1, hok2, hb2, hl1, splice, List.length_append]
      refine hK _ _ ?_
      clear hK
      clear K
      repeat with_reducible (first | refine E0 ?_ | refine E1 ?_ | refine E2 ?_ | refine E3 ?_ | refine E4 ?_ | refine E5 (by decide) ?_ | refine E6 ?_ | refine E7 ?_ | refine E8 ?_ | refine E9 ?_ | refine Ea ?_ | refine Eb ?_ | refine Ec ?_ | refine Ed ?_)
      rw [he]
      refine AtEnd_one rfl h4' (by omega) ?_
      simp only [KA, KP, KQ, reduceCtorEq, ↓reduceIte, Int.reduceLT, Int.reduceLE, Int.reduceAdd, Int.reduceSub, Int.reduceNeg, Int.reduceMul, Int.reduceToNat, Int.reduceEq, Int.reduceNe, Int.reduceGT, Int.reduceGE, Nat.reducePow, Nat.reduceAdd, Nat.reduceSub, Nat.reduceLT, Nat.reduceMul, Nat.reduceDiv, Nat.reduceEqDiff, Nat.reduceLeDiff, KT w, hw.KF, RS_some, aresults_nil, aresults_tmp, aresults_cell, one, h6']
      rw [decide_eq_true c1, Bool.true_and]
      exact FZ_bool
    · obtain ⟨S3, he, h4', h5', h6'⟩ := fin (.bool false)
      repeat with_reducible (first | refine E0 ?_ | refine E1 ?_ | refine E2 ?_ | refine E3 ?_ | refine E4 ?_ | refine E5 (by decide) ?_ | refine E6 ?_ | refine E7 ?_ | refine E8 ?_ | refine E9 ?_ | refine Ea ?_ | refine Eb ?_ | refine Ec ?_ | refine Ed ?_)
      refine W_region fun K hK => ?_
      simp only [KA, KB, KP, KQ, reduceCtorEq, ↓reduceIte, Int.reduceLT, Int.reduceLE, Int.reduceAdd, Int.reduceSub, Int.reduceNeg, Int.reduceMul, Int.reduceToNat, Int.reduceEq, Int.reduceNe, Int.reduceGT, Int.reduceGE, Nat.reducePow, Nat.reduceAdd, Nat.reduceSub, Nat.reduceLT, Nat.reduceMul, Nat.reduceDiv, Nat.reduceEqDiff, Nat.reduceLeDiff, KT w, hw.KF, g0', g1', c1, hok2, hb2, hl1, splice, List.length_append]
      refine hK _ _ ?_
      clear hK
      clear K
      repeat with_reducible (first | refine E0 ?_ | refine E1 ?_ | refine E2 ?_ | refine E3 ?_ | refine E4 ?_ | refine E5 (by decide) ?_ | refine E6 ?_ | refine E7 ?_ | refine E8 ?_ | refine E9 ?_ | refine Ea ?_ | refine Eb ?_ | refine Ec ?_ | refine Ed ?_)
      rw [he]
      refine AtEnd_one rfl h4' (by omega) ?_
      simp only [KA, KP, KQ, reduceCtorEq, ↓reduceIte, Int.reduceLT, Int.reduceLE, Int.reduceAdd, Int.reduceSub, Int.reduceNeg, Int.reduceMul, Int.reduceToNat, Int.reduceEq, Int.reduceNe, Int.reduceGT, Int.reduceGE, Nat.reducePow, Nat.reduceAdd, Nat.reduceSub, Nat.reduceLT, Nat.reduceMul, Nat.reduceDiv, Nat.reduceEqDiff, Nat.reduceLeDiff, KT w, hw.KF, RS_some, aresults_nil, aresults_tmp, aresults_cell, one, h6']
      rw [decide_eq_false c1, Bool.false_and]
      exact FZ_bool
end Go.Am.B
