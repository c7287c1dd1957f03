/- THE LAW CursorBack ON THE MACHINE. -/
import Derived.Test.YtghpjjhdbankhaaD4
set_option linter.unusedSimpArgs false
set_option linter.unusedVariables false
set_option maxRecDepth 20000
namespace Go.Am.B
open Go.Proofs Go.IntWalk

variable {w : Ways}

theorem down_up {n : Node} {p d : List Int} (h : down n p = some d) : d = p ++ [0] ∧ up n d = some p := by
  unfold down thereP at h
  split at h
  · rename_i hf
    simp only [Option.some.injEq] at h
    subst h
    exact ⟨rfl, up_snoc hf⟩
  · simp at h
theorem right_left {n : Node} (hn : n.ok) {p x : List Int} (h : asideP n p 1 = some x) : x ≠ [] ∧ x.length = p.length ∧ asideP n x (-1) = some p := by
  unfold asideP at h
  cases hu : up n p with
  | none => rw [hu] at h; simp at h
  | some q =>
    rw [hu] at h
    dsimp only at h
    obtain ⟨k, rfl⟩ := up_last hu
    rw [List.getLastD_concat] at h
    unfold thereP at h
    split at h
    · rename_i hf
      simp only [Option.some.injEq] at h
      subst h
      have hfp : (find n (q ++ [k])).isSome := by
        unfold up at hu
        split at hu
        · assumption
        · simp at hu
      rw [find_app] at hf hfp
      cases hm : find n q with
      | none => rw [hm] at hfp; simp at hfp
      | some m =>
        rw [hm] at hf hfp
        dsimp only at hf hfp
        have hmk := Node.ok_kids (find_ok hn hm)
        have hk : 0 ≤ k ∧ k < m.kids.length := by
          by_cases h : k < 0 ∨ k ≥ m.kids.length
          · rw [if_pos h] at hfp; simp at hfp
          · omega
        have e1 : IntKind.i64.wrap (k + 1) = k + 1 := i64_in _ (by omega)
        refine ⟨by simp, by simp, ?_⟩
        have hs : (find n (q ++ [k + 1])).isSome := by
          rw [find_app, hm]
          dsimp only
          rw [e1] at hf
          exact hf
        have hs0 : (find n (q ++ [k])).isSome := by
          rw [find_app, hm]
          dsimp only
          exact hfp
        rw [e1]
        unfold asideP
        rw [up_snoc hs]
        dsimp only
        rw [List.getLastD_concat, show k + 1 + -1 = k by omega, i64_in _ (by omega)]
        unfold thereP
        rw [if_pos hs0]
    · simp at h

/-- The same, of a row in an object of one's own: it is locked by that. -/
theorem ints2_ok (hw : Two w) (q : List Int) (hq : q.length ≤ 35184372088832) (S : St) (hS : S.ok) (hb : S.base = 0) (lo : Nat) (u : AV) (hown : Own S lo u q) :
    ∃ S', callF (cfg w) (lim (cfg w)) 30 [u, .vec (ints q)] S = some (.bool true, S') ∧ S'.ok ∧ S'.base = 0 ∧ S'.n = S.n ∧ ∀ o, o < lo → S'.get o = S.get o := by
  have hs := ints30_okB hw.B q q hq hq
  simp only [decide_true] at hs
  rcases hown with ⟨rfl, rfl⟩ | ⟨h1, o, g, rfl, h3, h4, h5⟩
  · exact ⟨S, PC_nrm (args := [.lit [], .vec (ints [])]) hw.B.e30 hw.B.m30 rfl rfl hs S, hS, hb, rfl, fun _ _ => rfl⟩
  · have hrow : S.rows o g 0 q.length = some (ints q) := by
      unfold St.rows
      rw [h5]
      simp [ints_len, List.take_of_length_le]
    have hfz : frzLA S [.sref o g 0 q.length, .vec (ints q)] = some ([.vec (ints q), .vec (ints q)], [(o, 0 + q.length)]) := by
      simp [frzLA, frzA, frz1, hrow, nrmR_ints, nrm]
    have hlk : S.lockAll [(o, 0 + q.length)] = some (S.set o (.seq g 1 (ints q) (max 0 (0 + q.length)))) := by
      simp [St.lockAll, h5, St.putO, hb]
    have h0 := hs St.nil
    have he : (cfg w).ext 30 = none := by rw [cfgP_ext]; exact hw.B.e30
    have hm : (cfg w).mode 30 = .pure := by rw [cfgP_mode]; exact hw.B.m30
    have hfz0 : frzLA St.nil [.vec (ints q), .vec (ints q)] = some ([.vec (ints q), .vec (ints q)], []) := by simp [frzLA, frzA, frz1, nrmR_ints, nrm]
    simp only [callF, callM, he, hm, hfz0, Option.bind_some, St.lockAll, Option.bind_eq_some_iff, Option.map_eq_some_iff, Option.some.injEq, Prod.mk.injEq] at h0
    obtain ⟨r, h6, v, h7, _, _, h8, _⟩ := h0
    refine ⟨S.set o (.seq g 1 (ints q) (max 0 (0 + q.length))), ?_, St.ok_set hS, hb, St.setN _ _ _, fun i hi => St.get_setn h4 (by omega)⟩
    simp only [callF, callM, he, hm, hfz, Option.bind_some, h6, h7, hlk, Option.map_some, h8]

theorem cursorBack_gen (hw : Two w) (n : Node) (hn : n.ok) (p : List Int) (hp : p.length ≤ 17592186043904) : PC (cfg w) 9 [n.av, .vec (ints p)] (.bool true) := by
  have haw := awake27_ok2 hw
  have hsm := small_okB hw.B n hn 800 (by omega) (by omega)
  have hs := ints30_okB hw.B p p (by omega) (by omega)
  simp only [decide_true] at hs
  refine PC_of (args' := [n.av, .vec (ints p)]) hw.e9 hw.m9 (by simp [nrmA, nrm, nrmR_ints, Node.nrm_all]) ?_
  generalize small n 800 = sm at hsm
  refine call_of_W (fn9 w) rfl ?_
  simp only [Try.f9, List.length_cons, List.length_nil, ↓reduceIte, Int.reduceLT, Int.reduceLE, Int.reduceAdd, Int.reduceSub, Int.reduceNeg, Int.reduceMul, Int.reduceToNat, Int.reduceEq, Int.reduceNe, Int.reduceGT, Int.reduceGE, Nat.reducePow, IntKind.bits, Nat.reduceAdd, Nat.reduceSub, List.cons_append, List.nil_append]
  repeat with_reducible (first | refine E0 ?_ | refine E1 ?_ | refine E2 ?_ | refine E3 ?_ | refine E4 ?_ | refine E5 (by decide) ?_ | refine E6 ?_ | refine E7 ?_ | refine E8 ?_ | refine E9 ?_ | refine Ea ?_ | refine Eb ?_ | refine Ec ?_ | refine Ed ?_)
  refine W_region fun K hK => ?_
  simp only [KA, KB, KP, KQ, reduceCtorEq, ↓reduceIte, Int.reduceLT, Int.reduceLE, Int.reduceAdd, Int.reduceSub, Int.reduceNeg, Int.reduceMul, Int.reduceToNat, Int.reduceEq, Int.reduceNe, Int.reduceGT, Int.reduceGE, Nat.reducePow, Nat.reduceAdd, Nat.reduceSub, Nat.reduceLT, Nat.reduceMul, Nat.reduceDiv, Nat.reduceEqDiff, Nat.reduceLeDiff, KT w, hw.KF]
  refine hK _ _ ?_
  clear hK
  clear K
  repeat with_reducible (first | refine E0 ?_ | refine E1 ?_ | refine E2 ?_ | refine E3 ?_ | refine E4 ?_ | refine E5 (by decide) ?_ | refine E6 ?_ | refine E7 ?_ | refine E8 ?_ | refine E9 ?_ | refine Ea ?_ | refine Eb ?_ | refine Ec ?_ | refine Ed ?_)
  refine W_region fun K hK => ?_
  simp only [KA, KB, KP, KQ, reduceCtorEq, ↓reduceIte, Int.reduceLT, Int.reduceLE, Int.reduceAdd, Int.reduceSub, Int.reduceNeg, Int.reduceMul, Int.reduceToNat, Int.reduceEq, Int.reduceNe, Int.reduceGT, Int.reduceGE, Nat.reducePow, Nat.reduceAdd, Nat.reduceSub, Nat.reduceLT, Nat.reduceMul, Nat.reduceDiv, Nat.reduceEqDiff, Nat.reduceLeDiff, KT w, hw.KF, hsm]
  refine hK _ _ ?_
  clear hK
  clear K
  repeat with_reducible (first | refine E0 ?_ | refine E1 ?_ | refine E2 ?_ | refine E3 ?_ | refine E4 ?_ | refine E5 (by decide) ?_ | refine E6 ?_ | refine E7 ?_ | refine E8 ?_ | refine E9 ?_ | refine Ea ?_ | refine Eb ?_ | refine Ec ?_ | refine Ed ?_)
  refine W_condP (p := _) (by simp only [KA, KP, KQ, reduceCtorEq, ↓reduceIte, Int.reduceLT, Int.reduceLE, Int.reduceAdd, Int.reduceSub, Int.reduceNeg, Int.reduceMul, Int.reduceToNat, Int.reduceEq, Int.reduceNe, Int.reduceGT, Int.reduceGE, Nat.reducePow, Nat.reduceAdd, Nat.reduceSub, Nat.reduceLT, Nat.reduceMul, Nat.reduceDiv, Nat.reduceEqDiff, Nat.reduceLeDiff, KT w, hw.KF]; rfl) (fun hb => ?_) (fun hb => ?_)
  · repeat with_reducible (first | refine E0 ?_ | refine E1 ?_ | refine E2 ?_ | refine E3 ?_ | refine E4 ?_ | refine E5 (by decide) ?_ | refine E6 ?_ | refine E7 ?_ | refine E8 ?_ | refine E9 ?_ | refine Ea ?_ | refine Eb ?_ | refine Ec ?_ | refine Ed ?_)
    refine W_region fun K hK => ?_
    simp only [KA, KB, KP, KQ, reduceCtorEq, ↓reduceIte, Int.reduceLT, Int.reduceLE, Int.reduceAdd, Int.reduceSub, Int.reduceNeg, Int.reduceMul, Int.reduceToNat, Int.reduceEq, Int.reduceNe, Int.reduceGT, Int.reduceGE, Nat.reducePow, Nat.reduceAdd, Nat.reduceSub, Nat.reduceLT, Nat.reduceMul, Nat.reduceDiv, Nat.reduceEqDiff, Nat.reduceLeDiff, KT w, hw.KF, haw]
    refine hK _ _ ?_
    clear hK
    clear K
    repeat with_reducible (first | refine E0 ?_ | refine E1 ?_ | refine E2 ?_ | refine E3 ?_ | refine E4 ?_ | refine E5 (by decide) ?_ | refine E6 ?_ | refine E7 ?_ | refine E8 ?_ | refine E9 ?_ | refine Ea ?_ | refine Eb ?_ | refine Ec ?_ | refine Ed ?_)
    refine AtEnd_of rfl ?_
    simp only [KA, KP, KQ, reduceCtorEq, ↓reduceIte, Int.reduceLT, Int.reduceLE, Int.reduceAdd, Int.reduceSub, Int.reduceNeg, Int.reduceMul, Int.reduceToNat, Int.reduceEq, Int.reduceNe, Int.reduceGT, Int.reduceGE, Nat.reducePow, Nat.reduceAdd, Nat.reduceSub, Nat.reduceLT, Nat.reduceMul, Nat.reduceDiv, Nat.reduceEqDiff, Nat.reduceLeDiff, KT w, hw.KF, RS_some, aresults_nil, aresults_tmp, aresults_cell, one]
    exact FZ_bool
  repeat with_reducible (first | refine E0 ?_ | refine E1 ?_ | refine E2 ?_ | refine E3 ?_ | refine E4 ?_ | refine E5 (by decide) ?_ | refine E6 ?_ | refine E7 ?_ | refine E8 ?_ | refine E9 ?_ | refine Ea ?_ | refine Eb ?_ | refine Ec ?_ | refine Ed ?_)
  obtain ⟨S1, hS1⟩ : ∃ S1, S1 = St.nil.push (.row n.cells false) := ⟨_, rfl⟩
  have hg1 : S1.get 0 = some (.row n.cells false) := by subst hS1; rfl
  have hok1 : S1.ok := by subst hS1; exact St.ok_push St.ok_nil
  have hb1 : S1.base = 0 := by subst hS1; rfl
  have hn1 : S1.n = 1 := by subst hS1; rfl
  have hcap : (p.length + p.length / 4 + 1000) * 8 ≤ 281474976710656 := by omega
  refine W.mono (Q := fun e fr S2 => e = .nrm ∧ S1.Ext S2 ∧ ∃ (tm : List AV) (wv : AV), fr = ⟨tm, [], none, 9⟩ ∧ tm.length = 76 ∧ tget tm 1 = .vec (ints p) ∧ tget tm 2 = .ptr 0 0 ∧ tget tm 5 = wv ∧ nrm wv = some (.vec (ints p))) ?_ ?_
  · rw [← hS1]
    cases p with
    | nil =>
      rw [show ints [] = [] from rfl]
      refine W_region fun K hK => ?_
      simp only [KA, KB, KP, KQ, reduceCtorEq, ↓reduceIte, Int.reduceLT, Int.reduceLE, Int.reduceAdd, Int.reduceSub, Int.reduceNeg, Int.reduceMul, Int.reduceToNat, Int.reduceEq, Int.reduceNe, Int.reduceGT, Int.reduceGE, Nat.reducePow, Nat.reduceAdd, Nat.reduceSub, Nat.reduceLT, Nat.reduceMul, Nat.reduceDiv, Nat.reduceEqDiff, Nat.reduceLeDiff, KT w, hw.KF]
      refine hK _ _ ?_
      clear hK
      clear K
      refine ⟨rfl, .refl _, _, .lit [], rfl, ?_⟩
      simp only [KA, KP, KQ, reduceCtorEq, ↓reduceIte, Int.reduceLT, Int.reduceLE, Int.reduceAdd, Int.reduceSub, Int.reduceNeg, Int.reduceMul, Int.reduceToNat, Int.reduceEq, Int.reduceNe, Int.reduceGT, Int.reduceGE, Nat.reducePow, Nat.reduceAdd, Nat.reduceSub, Nat.reduceLT, Nat.reduceMul, Nat.reduceDiv, Nat.reduceEqDiff, Nat.reduceLeDiff, KT w, hw.KF]
      rfl
    | cons y l =>
      have hlr : (ints l).length = l.length := ints_len _
      have hhd : headOk 1 (ints (y :: l)) = true := rfl
      have hnr := nrm_own (y :: l) S1.n 0
      simp only [List.length_cons] at hcap
      rw [show ints (y :: l) = [.int .i64 y] :: ints l from rfl] at *
      generalize ints l = rl at *
      have hm9 : w.muts 9 3 = false := by rw [hw.e]; rfl
      refine W_region fun K hK => ?_
      simp only [KA, KB, KP, KQ, reduceCtorEq, ↓reduceIte, Int.reduceLT, Int.reduceLE, Int.reduceAdd, Int.reduceSub, Int.reduceNeg, Int.reduceMul, Int.reduceToNat, Int.reduceEq, Int.reduceNe, Int.reduceGT, Int.reduceGE, Nat.reducePow, Nat.reduceAdd, Nat.reduceSub, Nat.reduceLT, Nat.reduceMul, Nat.reduceDiv, Nat.reduceEqDiff, Nat.reduceLeDiff, KT w, hw.KF, hlr, hcap, hhd, hm9]
      refine hK _ _ ?_
      clear hK
      clear K
      refine ⟨rfl, .push (.refl _) _, _, .own ([.int .i64 y] :: rl) S1.n 0, rfl, ?_⟩
      simp only [KA, KP, KQ, reduceCtorEq, ↓reduceIte, Int.reduceLT, Int.reduceLE, Int.reduceAdd, Int.reduceSub, Int.reduceNeg, Int.reduceMul, Int.reduceToNat, Int.reduceEq, Int.reduceNe, Int.reduceGT, Int.reduceGE, Nat.reducePow, Nat.reduceAdd, Nat.reduceSub, Nat.reduceLT, Nat.reduceMul, Nat.reduceDiv, Nat.reduceEqDiff, Nat.reduceLeDiff, KT w, hw.KF]
      exact hnr
  clear hcap
  rintro e fr S2 ⟨rfl, hx2, tm, wv, rfl, htm, h1, h2, h5, hwv⟩
  have hg2 : S2.get 0 = some (.row n.cells false) := by rw [hx2.get 0 (by omega)]; exact hg1
  have hn2 : 1 ≤ S2.n := by have := hx2.n; omega
  have hok2 := hx2.ok hok1
  have hb2 : S2.base = 0 := hx2.base.trans hb1
  clear hx2 hg1 hok1 hb1 hn1 hS1 S1
  obtain ⟨dv, S3, hdc, hx3, hdown⟩ := down2_ok hw n p (by omega) S2 hok2 (by omega)
  repeat with_reducible (first | refine E0 ?_ | refine E1 ?_ | refine E2 ?_ | refine E3 ?_ | refine E4 ?_ | refine E5 (by decide) ?_ | refine E6 ?_ | refine E7 ?_ | refine E8 ?_ | refine E9 ?_ | refine Ea ?_ | refine Eb ?_ | refine Ec ?_ | refine Ed ?_)
  refine W_region fun K hK => ?_
  simp only [KA, KB, KP, KQ, reduceCtorEq, ↓reduceIte, Int.reduceLT, Int.reduceLE, Int.reduceAdd, Int.reduceSub, Int.reduceNeg, Int.reduceMul, Int.reduceToNat, Int.reduceEq, Int.reduceNe, Int.reduceGT, Int.reduceGE, Nat.reducePow, Nat.reduceAdd, Nat.reduceSub, Nat.reduceLT, Nat.reduceMul, Nat.reduceDiv, Nat.reduceEqDiff, Nat.reduceLeDiff, KT w, hw.KF, htm, h1, h2, hg2, hdc]
  refine hK _ _ ?_
  clear hK
  clear K
  repeat with_reducible (first | refine E0 ?_ | refine E1 ?_ | refine E2 ?_ | refine E3 ?_ | refine E4 ?_ | refine E5 (by decide) ?_ | refine E6 ?_ | refine E7 ?_ | refine E8 ?_ | refine E9 ?_ | refine Ea ?_ | refine Eb ?_ | refine Ec ?_ | refine Ed ?_)
  refine W_region fun K hK => ?_
  simp only [KA, KB, KP, KQ, reduceCtorEq, ↓reduceIte, Int.reduceLT, Int.reduceLE, Int.reduceAdd, Int.reduceSub, Int.reduceNeg, Int.reduceMul, Int.reduceToNat, Int.reduceEq, Int.reduceNe, Int.reduceGT, Int.reduceGE, Nat.reducePow, Nat.reduceAdd, Nat.reduceSub, Nat.reduceLT, Nat.reduceMul, Nat.reduceDiv, Nat.reduceEqDiff, Nat.reduceLeDiff, KT w, hw.KF, htm]
  refine hK _ _ ?_
  clear hK
  clear K
  repeat with_reducible (first | refine E0 ?_ | refine E1 ?_ | refine E2 ?_ | refine E3 ?_ | refine E4 ?_ | refine E5 (by decide) ?_ | refine E6 ?_ | refine E7 ?_ | refine E8 ?_ | refine E9 ?_ | refine Ea ?_ | refine Eb ?_ | refine Ec ?_ | refine Ed ?_)
  refine W.mono (Q := fun e fr S4 => e = .nrm ∧ S2.Ext S4 ∧ ∃ tm : List AV, fr = ⟨tm, [], none, 9⟩ ∧ tm.length = 76 ∧ tget tm 1 = .vec (ints p) ∧ tget tm 2 = .ptr 0 0 ∧ tget tm 5 = wv) ?_ ?_
  · cases hdn : down n p with
    | none =>
      refine W_condF (by simp only [KA, KP, KQ, reduceCtorEq, ↓reduceIte, Int.reduceLT, Int.reduceLE, Int.reduceAdd, Int.reduceSub, Int.reduceNeg, Int.reduceMul, Int.reduceToNat, Int.reduceEq, Int.reduceNe, Int.reduceGT, Int.reduceGE, Nat.reducePow, Nat.reduceAdd, Nat.reduceSub, Nat.reduceLT, Nat.reduceMul, Nat.reduceDiv, Nat.reduceEqDiff, Nat.reduceLeDiff, KT w, hw.KF, htm, hdn, A2d]) ?_
      repeat with_reducible (first | refine E0 ?_ | refine E1 ?_ | refine E2 ?_ | refine E3 ?_ | refine E4 ?_ | refine E5 (by decide) ?_ | refine E6 ?_ | refine E7 ?_ | refine E8 ?_ | refine E9 ?_ | refine Ea ?_ | refine Eb ?_ | refine Ec ?_ | refine Ed ?_)
      refine ⟨rfl, hx3, _, rfl, ?_⟩
      simp only [KA, KP, KQ, reduceCtorEq, ↓reduceIte, Int.reduceLT, Int.reduceLE, Int.reduceAdd, Int.reduceSub, Int.reduceNeg, Int.reduceMul, Int.reduceToNat, Int.reduceEq, Int.reduceNe, Int.reduceGT, Int.reduceGE, Nat.reducePow, Nat.reduceAdd, Nat.reduceSub, Nat.reduceLT, Nat.reduceMul, Nat.reduceDiv, Nat.reduceEqDiff, Nat.reduceLeDiff, KT w, hw.KF, htm, h1, h2, h5]
    | some d =>
      obtain ⟨rfl, hupd⟩ := down_up hdn
      rcases hdown _ hdn with ⟨_, h⟩ | ⟨-, o, g, rfl, ho1, ho2, hgo⟩
      · simp at h
      have hok3 := hx3.ok hok2
      have hb3 := hx3.base.trans hb2
      have hn3 := hx3.n
      have hg3 : S3.get 0 = some (.row n.cells false) := by rw [hx3.get 0 (by omega)]; exact hg2
      obtain ⟨u, S4, huc, hx4, hown4⟩ := up2_ok hw n (p ++ [0]) (by simp; omega) S3 hok3 (by omega) (.sref o g 0 (p ++ [0]).length) (.inr ⟨o, g, _, 0, rfl, hgo, List.take_of_length_le (by rw [ints_len]; omega), ho2⟩)
      obtain ⟨S5, hin, hok5, hb5, hn5, hg5⟩ := ints2_ok hw p (by omega) S4 (hx4.ok hok3) (hx4.base.trans hb3) S3.n u (hown4 p hupd)
      rw [hupd] at huc
      simp only [Option.isSome_some] at huc
      have hgo5 : S5.get o = some (.seq g 1 (ints (p ++ [0])) 0) := by rw [hg5 o (by omega), hx4.get o ho2]; exact hgo
      have hn4 := hx4.n
      have hpl0 : (p ++ [(0 : Int)]).length = p.length + 1 := by simp
      have e1 : IntKind.i64.wrap (((p ++ [(0 : Int)]).length : Int) - 1) = p.length := by rw [i64_in _ (by omega)]; omega
      have hlt : ((p.length : Int) < ((p ++ [(0 : Int)]).length : Nat)) = True := by simp only [eq_iff_iff, iff_true]; omega
      have hrow : (ints (p ++ [0]))[p.length]? = some [.int .i64 0] := by simp [ints_get]
      have hon5 : o < S5.n := by omega
      clear hdown hown4 hupd hpl0
      generalize hpl : (p ++ [(0 : Int)]).length = pl at *
      generalize ints (p ++ [0]) = rp at *
      refine W_condT (by simp only [KA, KP, KQ, reduceCtorEq, ↓reduceIte, Int.reduceLT, Int.reduceLE, Int.reduceAdd, Int.reduceSub, Int.reduceNeg, Int.reduceMul, Int.reduceToNat, Int.reduceEq, Int.reduceNe, Int.reduceGT, Int.reduceGE, Nat.reducePow, Nat.reduceAdd, Nat.reduceSub, Nat.reduceLT, Nat.reduceMul, Nat.reduceDiv, Nat.reduceEqDiff, Nat.reduceLeDiff, KT w, hw.KF, htm, hdn, A2c]) ?_
      repeat with_reducible (first | refine E0 ?_ | refine E1 ?_ | refine E2 ?_ | refine E3 ?_ | refine E4 ?_ | refine E5 (by decide) ?_ | refine E6 ?_ | refine E7 ?_ | refine E8 ?_ | refine E9 ?_ | refine Ea ?_ | refine Eb ?_ | refine Ec ?_ | refine Ed ?_)
      refine W_region fun K hK => ?_
      simp only [KA, KB, KP, KQ, reduceCtorEq, ↓reduceIte, Int.reduceLT, Int.reduceLE, Int.reduceAdd, Int.reduceSub, Int.reduceNeg, Int.reduceMul, Int.reduceToNat, Int.reduceEq, Int.reduceNe, Int.reduceGT, Int.reduceGE, Nat.reducePow, Nat.reduceAdd, Nat.reduceSub, Nat.reduceLT, Nat.reduceMul, Nat.reduceDiv, Nat.reduceEqDiff, Nat.reduceLeDiff, KT w, hw.KF, htm, h2, hg3, huc]
      refine hK _ _ ?_
      clear hK
      clear K
      repeat with_reducible (first | refine E0 ?_ | refine E1 ?_ | refine E2 ?_ | refine E3 ?_ | refine E4 ?_ | refine E5 (by decide) ?_ | refine E6 ?_ | refine E7 ?_ | refine E8 ?_ | refine E9 ?_ | refine Ea ?_ | refine Eb ?_ | refine Ec ?_ | refine Ed ?_)
      refine W_region fun K hK => ?_
      simp only [KA, KB, KP, KQ, reduceCtorEq, ↓reduceIte, Int.reduceLT, Int.reduceLE, Int.reduceAdd, Int.reduceSub, Int.reduceNeg, Int.reduceMul, Int.reduceToNat, Int.reduceEq, Int.reduceNe, Int.reduceGT, Int.reduceGE, Nat.reducePow, Nat.reduceAdd, Nat.reduceSub, Nat.reduceLT, Nat.reduceMul, Nat.reduceDiv, Nat.reduceEqDiff, Nat.reduceLeDiff, KT w, hw.KF, htm, h1, hin]
      refine hK _ _ ?_
      clear hK
      clear K
      repeat with_reducible (first | refine E0 ?_ | refine E1 ?_ | refine E2 ?_ | refine E3 ?_ | refine E4 ?_ | refine E5 (by decide) ?_ | refine E6 ?_ | refine E7 ?_ | refine E8 ?_ | refine E9 ?_ | refine Ea ?_ | refine Eb ?_ | refine Ec ?_ | refine Ed ?_)
      refine W_condF (by simp only [KA, KP, KQ, reduceCtorEq, ↓reduceIte, Int.reduceLT, Int.reduceLE, Int.reduceAdd, Int.reduceSub, Int.reduceNeg, Int.reduceMul, Int.reduceToNat, Int.reduceEq, Int.reduceNe, Int.reduceGT, Int.reduceGE, Nat.reducePow, Nat.reduceAdd, Nat.reduceSub, Nat.reduceLT, Nat.reduceMul, Nat.reduceDiv, Nat.reduceEqDiff, Nat.reduceLeDiff, KT w, hw.KF, htm]) ?_
      repeat with_reducible (first | refine E0 ?_ | refine E1 ?_ | refine E2 ?_ | refine E3 ?_ | refine E4 ?_ | refine E5 (by decide) ?_ | refine E6 ?_ | refine E7 ?_ | refine E8 ?_ | refine E9 ?_ | refine Ea ?_ | refine Eb ?_ | refine Ec ?_ | refine Ed ?_)
      refine W_region fun K hK => ?_
      simp only [KA, KB, KP, KQ, reduceCtorEq, ↓reduceIte, Int.reduceLT, Int.reduceLE, Int.reduceAdd, Int.reduceSub, Int.reduceNeg, Int.reduceMul, Int.reduceToNat, Int.reduceEq, Int.reduceNe, Int.reduceGT, Int.reduceGE, Nat.reducePow, Nat.reduceAdd, Nat.reduceSub, Nat.reduceLT, Nat.reduceMul, Nat.reduceDiv, Nat.reduceEqDiff, Nat.reduceLeDiff, KT w, hw.KF, htm, e1, hgo5, hlt, hrow, hok5, hb5, hon5, splice]
      refine hK _ _ ?_
      clear hK
      clear K
      refine ⟨rfl, ⟨fun _ => St.ok_set hok5, by simp only [St.setB]; omega, by simp only [St.setN]; omega, fun i hi => ?_⟩, _, rfl, ?_⟩
      · rw [St.get_setn hon5 (by omega), hg5 i (by omega), hx4.get i (by omega), hx3.get i hi]
      · simp only [KA, KP, KQ, reduceCtorEq, ↓reduceIte, Int.reduceLT, Int.reduceLE, Int.reduceAdd, Int.reduceSub, Int.reduceNeg, Int.reduceMul, Int.reduceToNat, Int.reduceEq, Int.reduceNe, Int.reduceGT, Int.reduceGE, Nat.reducePow, Nat.reduceAdd, Nat.reduceSub, Nat.reduceLT, Nat.reduceMul, Nat.reduceDiv, Nat.reduceEqDiff, Nat.reduceLeDiff, KT w, hw.KF, htm, h1, h2, h5]
  clear hdc hdown hx3 htm h1 h2 h5
  rintro e fr S4 ⟨rfl, hx4, tm, rfl, htm, h1, h2, h5⟩
  have hg4 : S4.get 0 = some (.row n.cells false) := by rw [hx4.get 0 (by omega)]; exact hg2
  have hn4 : 1 ≤ S4.n := by have := hx4.n; omega
  have hok4 := hx4.ok hok2
  have hb4 : S4.base = 0 := hx4.base.trans hb2
  clear hx4 hg2 hok2 hb2 hn2
  obtain ⟨xv, S5, hxc, hx5, hxo⟩ := right2_ok hw n p (by omega) S4 hok4 (by omega)
  have hsw := PC_nrm (args := [.vec (ints p), wv]) hw.B.e30 hw.B.m30 (by simp [nrmA, hwv, nrm, nrmR_ints]) (by simp [nrmA, nrm, nrmR_ints]) hs
  repeat with_reducible (first | refine E0 ?_ | refine E1 ?_ | refine E2 ?_ | refine E3 ?_ | refine E4 ?_ | refine E5 (by decide) ?_ | refine E6 ?_ | refine E7 ?_ | refine E8 ?_ | refine E9 ?_ | refine Ea ?_ | refine Eb ?_ | refine Ec ?_ | refine Ed ?_)
  refine W_region fun K hK => ?_
  simp only [KA, KB, KP, KQ, reduceCtorEq, ↓reduceIte, Int.reduceLT, Int.reduceLE, Int.reduceAdd, Int.reduceSub, Int.reduceNeg, Int.reduceMul, Int.reduceToNat, Int.reduceEq, Int.reduceNe, Int.reduceGT, Int.reduceGE, Nat.reducePow, Nat.reduceAdd, Nat.reduceSub, Nat.reduceLT, Nat.reduceMul, Nat.reduceDiv, Nat.reduceEqDiff, Nat.reduceLeDiff, KT w, hw.KF, htm, h1, h2, hg4, hxc]
  refine hK _ _ ?_
  clear hK
  clear K
  repeat with_reducible (first | refine E0 ?_ | refine E1 ?_ | refine E2 ?_ | refine E3 ?_ | refine E4 ?_ | refine E5 (by decide) ?_ | refine E6 ?_ | refine E7 ?_ | refine E8 ?_ | refine E9 ?_ | refine Ea ?_ | refine Eb ?_ | refine Ec ?_ | refine Ed ?_)
  refine W_region fun K hK => ?_
  simp only [KA, KB, KP, KQ, reduceCtorEq, ↓reduceIte, Int.reduceLT, Int.reduceLE, Int.reduceAdd, Int.reduceSub, Int.reduceNeg, Int.reduceMul, Int.reduceToNat, Int.reduceEq, Int.reduceNe, Int.reduceGT, Int.reduceGE, Nat.reducePow, Nat.reduceAdd, Nat.reduceSub, Nat.reduceLT, Nat.reduceMul, Nat.reduceDiv, Nat.reduceEqDiff, Nat.reduceLeDiff, KT w, hw.KF, htm]
  refine hK _ _ ?_
  clear hK
  clear K
  repeat with_reducible (first | refine E0 ?_ | refine E1 ?_ | refine E2 ?_ | refine E3 ?_ | refine E4 ?_ | refine E5 (by decide) ?_ | refine E6 ?_ | refine E7 ?_ | refine E8 ?_ | refine E9 ?_ | refine Ea ?_ | refine Eb ?_ | refine Ec ?_ | refine Ed ?_)
  refine W.mono (Q := fun e fr S6 => e = .nrm ∧ ∃ tm : List AV, fr = ⟨tm, [], none, 9⟩ ∧ tm.length = 76 ∧ tget tm 1 = .vec (ints p) ∧ tget tm 5 = wv) ?_ ?_
  · cases has : asideP n p 1 with
    | none =>
      refine W_condF (by simp only [KA, KP, KQ, reduceCtorEq, ↓reduceIte, Int.reduceLT, Int.reduceLE, Int.reduceAdd, Int.reduceSub, Int.reduceNeg, Int.reduceMul, Int.reduceToNat, Int.reduceEq, Int.reduceNe, Int.reduceGT, Int.reduceGE, Nat.reducePow, Nat.reduceAdd, Nat.reduceSub, Nat.reduceLT, Nat.reduceMul, Nat.reduceDiv, Nat.reduceEqDiff, Nat.reduceLeDiff, KT w, hw.KF, htm, has, A2d]) ?_
      repeat with_reducible (first | refine E0 ?_ | refine E1 ?_ | refine E2 ?_ | refine E3 ?_ | refine E4 ?_ | refine E5 (by decide) ?_ | refine E6 ?_ | refine E7 ?_ | refine E8 ?_ | refine E9 ?_ | refine Ea ?_ | refine Eb ?_ | refine Ec ?_ | refine Ed ?_)
      refine ⟨rfl, _, rfl, ?_⟩
      simp only [KA, KP, KQ, reduceCtorEq, ↓reduceIte, Int.reduceLT, Int.reduceLE, Int.reduceAdd, Int.reduceSub, Int.reduceNeg, Int.reduceMul, Int.reduceToNat, Int.reduceEq, Int.reduceNe, Int.reduceGT, Int.reduceGE, Nat.reducePow, Nat.reduceAdd, Nat.reduceSub, Nat.reduceLT, Nat.reduceMul, Nat.reduceDiv, Nat.reduceEqDiff, Nat.reduceLeDiff, KT w, hw.KF, htm, h1, h2, h5]
    | some x =>
      obtain ⟨hx0, hxl, hxa⟩ := right_left hn has
      rcases hxo _ has with ⟨_, h⟩ | ⟨-, o, g, rfl, ho1, ho2, hgo⟩
      · exact absurd h hx0
      have hok5 := hx5.ok hok4
      have hb5 := hx5.base.trans hb4
      have hg5 : S5.get 0 = some (.row n.cells false) := by rw [hx5.get 0 (by omega)]; exact hg4
      have hlc := left2_ok hw n x (by omega) S5 hok5 (.sref o g 0 x.length) (.inr ⟨o, g, _, 0, rfl, hgo, List.take_of_length_le (by rw [ints_len]; omega), ho2⟩)
      rw [hxa] at hlc
      simp only [resT, Option.getD_some, Option.isSome_some] at hlc
      obtain ⟨y, l, rfl⟩ : ∃ y l, x = y :: l := by cases x with | nil => exact absurd rfl hx0 | cons y l => exact ⟨y, l, rfl⟩
      have hlt : ((0 : Int) < ((y :: l).length : Nat)) = True := by simp
      have hrow : (ints (y :: l))[0]? = some [.int .i64 y] := rfl
      clear hxo hxa
      generalize (y :: l).length = xl at *
      generalize ints (y :: l) = rx at *
      refine W_condT (by simp only [KA, KP, KQ, reduceCtorEq, ↓reduceIte, Int.reduceLT, Int.reduceLE, Int.reduceAdd, Int.reduceSub, Int.reduceNeg, Int.reduceMul, Int.reduceToNat, Int.reduceEq, Int.reduceNe, Int.reduceGT, Int.reduceGE, Nat.reducePow, Nat.reduceAdd, Nat.reduceSub, Nat.reduceLT, Nat.reduceMul, Nat.reduceDiv, Nat.reduceEqDiff, Nat.reduceLeDiff, KT w, hw.KF, htm, has, A2c]) ?_
      repeat with_reducible (first | refine E0 ?_ | refine E1 ?_ | refine E2 ?_ | refine E3 ?_ | refine E4 ?_ | refine E5 (by decide) ?_ | refine E6 ?_ | refine E7 ?_ | refine E8 ?_ | refine E9 ?_ | refine Ea ?_ | refine Eb ?_ | refine Ec ?_ | refine Ed ?_)
      refine W_region fun K hK => ?_
      simp only [KA, KB, KP, KQ, reduceCtorEq, ↓reduceIte, Int.reduceLT, Int.reduceLE, Int.reduceAdd, Int.reduceSub, Int.reduceNeg, Int.reduceMul, Int.reduceToNat, Int.reduceEq, Int.reduceNe, Int.reduceGT, Int.reduceGE, Nat.reducePow, Nat.reduceAdd, Nat.reduceSub, Nat.reduceLT, Nat.reduceMul, Nat.reduceDiv, Nat.reduceEqDiff, Nat.reduceLeDiff, KT w, hw.KF, htm, h2, hg5, hlc]
      refine hK _ _ ?_
      clear hK
      clear K
      repeat with_reducible (first | refine E0 ?_ | refine E1 ?_ | refine E2 ?_ | refine E3 ?_ | refine E4 ?_ | refine E5 (by decide) ?_ | refine E6 ?_ | refine E7 ?_ | refine E8 ?_ | refine E9 ?_ | refine Ea ?_ | refine Eb ?_ | refine Ec ?_ | refine Ed ?_)
      refine W_region fun K hK => ?_
      simp only [KA, KB, KP, KQ, reduceCtorEq, ↓reduceIte, Int.reduceLT, Int.reduceLE, Int.reduceAdd, Int.reduceSub, Int.reduceNeg, Int.reduceMul, Int.reduceToNat, Int.reduceEq, Int.reduceNe, Int.reduceGT, Int.reduceGE, Nat.reducePow, Nat.reduceAdd, Nat.reduceSub, Nat.reduceLT, Nat.reduceMul, Nat.reduceDiv, Nat.reduceEqDiff, Nat.reduceLeDiff, KT w, hw.KF, htm, h1, hs]
      refine hK _ _ ?_
      clear hK
      clear K
      repeat with_reducible (first | refine E0 ?_ | refine E1 ?_ | refine E2 ?_ | refine E3 ?_ | refine E4 ?_ | refine E5 (by decide) ?_ | refine E6 ?_ | refine E7 ?_ | refine E8 ?_ | refine E9 ?_ | refine Ea ?_ | refine Eb ?_ | refine Ec ?_ | refine Ed ?_)
      refine W_condF (by simp only [KA, KP, KQ, reduceCtorEq, ↓reduceIte, Int.reduceLT, Int.reduceLE, Int.reduceAdd, Int.reduceSub, Int.reduceNeg, Int.reduceMul, Int.reduceToNat, Int.reduceEq, Int.reduceNe, Int.reduceGT, Int.reduceGE, Nat.reducePow, Nat.reduceAdd, Nat.reduceSub, Nat.reduceLT, Nat.reduceMul, Nat.reduceDiv, Nat.reduceEqDiff, Nat.reduceLeDiff, KT w, hw.KF, htm]) ?_
      repeat with_reducible (first | refine E0 ?_ | refine E1 ?_ | refine E2 ?_ | refine E3 ?_ | refine E4 ?_ | refine E5 (by decide) ?_ | refine E6 ?_ | refine E7 ?_ | refine E8 ?_ | refine E9 ?_ | refine Ea ?_ | refine Eb ?_ | refine Ec ?_ | refine Ed ?_)
      refine W_region fun K hK => ?_
      simp only [KA, KB, KP, KQ, reduceCtorEq, ↓reduceIte, Int.reduceLT, Int.reduceLE, Int.reduceAdd, Int.reduceSub, Int.reduceNeg, Int.reduceMul, Int.reduceToNat, Int.reduceEq, Int.reduceNe, Int.reduceGT, Int.reduceGE, Nat.reducePow, Nat.reduceAdd, Nat.reduceSub, Nat.reduceLT, Nat.reduceMul, Nat.reduceDiv, Nat.reduceEqDiff, Nat.reduceLeDiff, KT w, hw.KF, htm, hgo, hlt, hrow, hok5, hb5, ho2, splice]
      refine hK _ _ ?_
      clear hK
      clear K
      refine ⟨rfl, _, rfl, ?_⟩
      simp only [KA, KP, KQ, reduceCtorEq, ↓reduceIte, Int.reduceLT, Int.reduceLE, Int.reduceAdd, Int.reduceSub, Int.reduceNeg, Int.reduceMul, Int.reduceToNat, Int.reduceEq, Int.reduceNe, Int.reduceGT, Int.reduceGE, Nat.reducePow, Nat.reduceAdd, Nat.reduceSub, Nat.reduceLT, Nat.reduceMul, Nat.reduceDiv, Nat.reduceEqDiff, Nat.reduceLeDiff, KT w, hw.KF, htm, h1, h2, h5]
  clear hxc hxo hx5 htm h1 h2 h5 hg4 hok4 hb4 hn4
  rintro e fr S6 ⟨rfl, tm, rfl, htm, h1, h5⟩
  repeat with_reducible (first | refine E0 ?_ | refine E1 ?_ | refine E2 ?_ | refine E3 ?_ | refine E4 ?_ | refine E5 (by decide) ?_ | refine E6 ?_ | refine E7 ?_ | refine E8 ?_ | refine E9 ?_ | refine Ea ?_ | refine Eb ?_ | refine Ec ?_ | refine Ed ?_)
  refine W_region fun K hK => ?_
  simp only [KA, KB, KP, KQ, reduceCtorEq, ↓reduceIte, Int.reduceLT, Int.reduceLE, Int.reduceAdd, Int.reduceSub, Int.reduceNeg, Int.reduceMul, Int.reduceToNat, Int.reduceEq, Int.reduceNe, Int.reduceGT, Int.reduceGE, Nat.reducePow, Nat.reduceAdd, Nat.reduceSub, Nat.reduceLT, Nat.reduceMul, Nat.reduceDiv, Nat.reduceEqDiff, Nat.reduceLeDiff, KT w, hw.KF, htm, h1, h5, hsw, haw]
  refine hK _ _ ?_
  clear hK
  clear K
  repeat with_reducible (first | refine E0 ?_ | refine E1 ?_ | refine E2 ?_ | refine E3 ?_ | refine E4 ?_ | refine E5 (by decide) ?_ | refine E6 ?_ | refine E7 ?_ | refine E8 ?_ | refine E9 ?_ | refine Ea ?_ | refine Eb ?_ | refine Ec ?_ | refine Ed ?_)
  refine AtEnd_of rfl ?_
  simp only [KA, KP, KQ, reduceCtorEq, ↓reduceIte, Int.reduceLT, Int.reduceLE, Int.reduceAdd, Int.reduceSub, Int.reduceNeg, Int.reduceMul, Int.reduceToNat, Int.reduceEq, Int.reduceNe, Int.reduceGT, Int.reduceGE, Nat.reducePow, Nat.reduceAdd, Nat.reduceSub, Nat.reduceLT, Nat.reduceMul, Nat.reduceDiv, Nat.reduceEqDiff, Nat.reduceLeDiff, KT w, hw.KF, htm, RS_some, aresults_nil, aresults_tmp, aresults_cell, one]
  exact FZ_bool
theorem std2 : Two w2 := ⟨rfl⟩
end Go.Am.B
