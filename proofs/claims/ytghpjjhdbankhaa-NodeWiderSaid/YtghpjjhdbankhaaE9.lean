/- THE LEAVES, BY THE PROGRAM. -/
import Derived.Test.YtghpjjhdbankhaaE8
set_option linter.unusedSimpArgs false
set_option linter.unusedVariables false
set_option maxRecDepth 20000
namespace Go.Am.B
open Go.Proofs Go.IntWalk

variable {w : Ways}

mutual
def lvN : Node → List Node
  | .mk k nm fl a b dd ks => if ks.isEmpty then [.mk k nm fl a b dd ks] else lvL ks
def lvL : List Node → List Node
  | [] => []
  | k :: ks => lvN k ++ lvL ks
end
theorem lvN_eq (n : Node) : lvN n = if n.kids.isEmpty then [n] else lvL n.kids := by cases n; rw [lvN]; rfl
def lvS (s : List Node) (x : Nat × Node) : List Node × Bool := (if x.2.kids.isEmpty then s ++ [x.2] else s, true)
theorem runLv (n : Node) : ∀ d s, runT lvS (preN n d) s = (s ++ lvN n, true) := by
  induction n using Node.ind with
  | h n ih =>
    have hL : ∀ ks : List Node, (∀ k ∈ ks, ∀ d s, runT lvS (preN k d) s = (s ++ lvN k, true)) → ∀ d s, runT lvS (preL ks d) s = (s ++ lvL ks, true) := by
      intro ks
      induction ks with
      | nil => intro _ d s; simp [preL, lvL, runT]
      | cons x xs ihx =>
        intro h d s
        rw [preL, runT_app, h x List.mem_cons_self]
        simp only [if_true]
        rw [ihx (fun k hk => h k (List.mem_cons_of_mem _ hk)), lvL, List.append_assoc]
    intro d s
    rw [preN_eq, runT_t (by rfl), hL _ ih, lvN_eq n]
    simp only [lvS]
    split
    · rename_i h
      have : n.kids = [] := by simpa using h
      rw [this]; simp [lvL]
    · rfl
theorem lvS_len (s : List Node) (x : Nat × Node) : (lvS s x).1.length ≤ s.length + 1 := by
  simp only [lvS]; split <;> simp
theorem lvN_ok (n : Node) : n.ok → ∀ x ∈ lvN n, x.ok := by
  induction n using Node.ind with
  | h n ih =>
  intro hn x hx
  rw [lvN_eq] at hx
  split at hx
  · simp at hx; subst hx; exact hn
  · have hL : ∀ ks : List Node, (∀ k ∈ ks, k.ok → ∀ x ∈ lvN k, x.ok) → (∀ k ∈ ks, k.ok) → ∀ x ∈ lvL ks, x.ok := by
      intro ks
      induction ks with
      | nil => intro _ _ x h; simp [lvL] at h
      | cons y ys ihy =>
        intro h h' x hx
        simp only [lvL, List.mem_append] at hx
        rcases hx with hx | hx
        · exact h y List.mem_cons_self (h' y List.mem_cons_self) x hx
        · exact ihy (fun k hk => h k (List.mem_cons_of_mem _ hk)) (fun k hk => h' k (List.mem_cons_of_mem _ hk)) x hx
    exact hL _ ih (Node.ok_kid hn) x hx

def LvJ (L : Lp) (b : Bool) (s : List Node) (S : St) : Prop := b = true ∧ 4 < S.n ∧ S.get 3 = some .dfr ∧ S.get 4 = some (L.at .ready .nrm) ∧
  ((s = [] ∧ S.get 1 = some (.row [.nils] false)) ∨ (s ≠ [] ∧ ∃ o g, S.get 1 = some (.row [.sref o g 0 s.length] false) ∧ 4 < o ∧ o < S.n ∧ S.get o = some (.seq g 7 (Node.rows s) 0)))
theorem LvJ.push {L : Lp} (b : Bool) (s : List Node) (S : St) (o : AObj) (h : LvJ L b s S) : LvJ L b s (S.push o) := by
  obtain ⟨h0, h1, h2, h3, h4⟩ := h
  refine ⟨h0, by rw [St.pushN]; omega, by rw [St.get_pushn (by omega)]; exact h2, by rw [St.get_pushn (by omega)]; exact h3, ?_⟩
  rcases h4 with ⟨h4, h5⟩ | ⟨h4, q, g, h5, h6, h7, h8⟩
  · exact .inl ⟨h4, by rw [St.get_pushn (by omega)]; exact h5⟩
  · exact .inr ⟨h4, q, g, by rw [St.get_pushn (by omega)]; exact h5, h6, by rw [St.pushN]; omega, by rw [St.get_pushn (by omega)]; exact h8⟩

theorem leaves50_ok (hw : Std w) (hm50 : w.muts 50 5 = true) (n : Node) (hn : n.ok) (hc : cnt n ≤ 900000) : PC (cfg w) 50 [n.av] (.vec (Node.rows (lvN n))) := by
  refine PC_of (args' := [n.av]) hw.e50 hw.m50 (by simp [nrmA, nrm, Node.nrm_all]) ?_
  have hwalk := walkN_ok hw n
  refine call_of_W (fn50 w) rfl ?_
  simp only [Try.f50, List.length_cons, List.length_nil, ↓reduceIte, Int.reduceLT, Int.reduceLE, Int.reduceAdd, Int.reduceSub, Int.reduceNeg, Int.reduceMul, Int.reduceToNat, Int.reduceEq, Int.reduceNe, Int.reduceGT, Int.reduceGE, Nat.reducePow, IntKind.bits, Nat.reduceAdd, Nat.reduceSub, List.cons_append, List.nil_append]
  repeat with_reducible (first | refine E0 ?_ | refine E1 ?_ | refine E2 ?_ | refine E3 ?_ | refine E4 ?_ | refine E5 (by decide) ?_ | refine E6 ?_ | refine E7 ?_ | refine E8 ?_ | refine E9 ?_ | refine Ea ?_ | refine Eb ?_ | refine Ec ?_ | refine Ed ?_)
  refine W_region fun K hK => ?_
  simp only [KA, KB, KP, KQ, reduceCtorEq, ↓reduceIte, Int.reduceLT, Int.reduceLE, Int.reduceAdd, Int.reduceSub, Int.reduceNeg, Int.reduceMul, Int.reduceToNat, Int.reduceEq, Int.reduceNe, Int.reduceGT, Int.reduceGE, Nat.reducePow, Nat.reduceAdd, Nat.reduceSub, Nat.reduceLT, Nat.reduceMul, Nat.reduceDiv, Nat.reduceEqDiff, Nat.reduceLeDiff, KT w, hw.KF]
  refine hK _ _ ?_
  clear hK
  clear K
  repeat with_reducible (first | refine E0 ?_ | refine E1 ?_ | refine E2 ?_ | refine E3 ?_ | refine E4 ?_ | refine E5 (by decide) ?_ | refine E6 ?_ | refine E7 ?_ | refine E8 ?_ | refine E9 ?_ | refine Ea ?_ | refine Eb ?_ | refine Ec ?_ | refine Ed ?_)
  refine W_region fun K hK => ?_
  simp only [KA, KB, KP, KQ, reduceCtorEq, ↓reduceIte, Int.reduceLT, Int.reduceLE, Int.reduceAdd, Int.reduceSub, Int.reduceNeg, Int.reduceMul, Int.reduceToNat, Int.reduceEq, Int.reduceNe, Int.reduceGT, Int.reduceGE, Nat.reducePow, Nat.reduceAdd, Nat.reduceSub, Nat.reduceLT, Nat.reduceMul, Nat.reduceDiv, Nat.reduceEqDiff, Nat.reduceLeDiff, KT w, hw.KF]
  refine hK _ _ ?_
  clear hK
  clear K
  repeat with_reducible (first | refine E0 ?_ | refine E1 ?_ | refine E2 ?_ | refine E3 ?_ | refine E4 ?_ | refine E5 (by decide) ?_ | refine E6 ?_ | refine E7 ?_ | refine E8 ?_ | refine E9 ?_ | refine Ea ?_ | refine Eb ?_ | refine Ec ?_ | refine Ed ?_)
  refine W_region fun K hK => ?_
  simp only [KA, KB, KP, KQ, reduceCtorEq, ↓reduceIte, Int.reduceLT, Int.reduceLE, Int.reduceAdd, Int.reduceSub, Int.reduceNeg, Int.reduceMul, Int.reduceToNat, Int.reduceEq, Int.reduceNe, Int.reduceGT, Int.reduceGE, Nat.reducePow, Nat.reduceAdd, Nat.reduceSub, Nat.reduceLT, Nat.reduceMul, Nat.reduceDiv, Nat.reduceEqDiff, Nat.reduceLeDiff, KT w, hw.KF, hwalk]
  refine hK _ _ ?_
  clear hK
  clear K
  repeat with_reducible (first | refine E0 ?_ | refine E1 ?_ | refine E2 ?_ | refine E3 ?_ | refine E4 ?_ | refine E5 (by decide) ?_ | refine E6 ?_ | refine E7 ?_ | refine E8 ?_ | refine E9 ?_ | refine Ea ?_ | refine Eb ?_ | refine Ec ?_ | refine Ed ?_)
  refine W_range (by simp only [KA, KP, KQ, reduceCtorEq, ↓reduceIte, Int.reduceLT, Int.reduceLE, Int.reduceAdd, Int.reduceSub, Int.reduceNeg, Int.reduceMul, Int.reduceToNat, Int.reduceEq, Int.reduceNe, Int.reduceGT, Int.reduceGE, Nat.reducePow, Nat.reduceAdd, Nat.reduceSub, Nat.reduceLT, Nat.reduceMul, Nat.reduceDiv, Nat.reduceEqDiff, Nat.reduceLeDiff, KT w, hw.KF]; rfl) fun L hL => ?_
  have hps := congrArg Lp.ps hL
  have hasg := congrArg Lp.asg hL
  have hbody := congrArg Lp.body hL
  have hfn := congrArg Lp.fn hL
  have hl : L.tm.length = 21 := by rw [hL]; simp only [KA, KP, KQ, reduceCtorEq, ↓reduceIte, Int.reduceLT, Int.reduceLE, Int.reduceAdd, Int.reduceSub, Int.reduceNeg, Int.reduceMul, Int.reduceToNat, Int.reduceEq, Int.reduceNe, Int.reduceGT, Int.reduceGE, Nat.reducePow, Nat.reduceAdd, Nat.reduceSub, Nat.reduceLT, Nat.reduceMul, Nat.reduceDiv, Nat.reduceEqDiff, Nat.reduceLeDiff, KT w, hw.KF]
  have h3 : tget L.tm 3 = .ptr 1 0 := by rw [hL]; simp only [KA, KP, KQ, reduceCtorEq, ↓reduceIte, Int.reduceLT, Int.reduceLE, Int.reduceAdd, Int.reduceSub, Int.reduceNeg, Int.reduceMul, Int.reduceToNat, Int.reduceEq, Int.reduceNe, Int.reduceGT, Int.reduceGE, Nat.reducePow, Nat.reduceAdd, Nat.reduceSub, Nat.reduceLT, Nat.reduceMul, Nat.reduceDiv, Nat.reduceEqDiff, Nat.reduceLeDiff, KT w, hw.KF]
  simp only at hps hasg hbody hfn
  clear hL
  have T : Tak w 4 1000000 lvS List.length (LvJ L) := by
    refine ⟨lvS_len, LvJ.push, ?_⟩
    rintro s S d n ⟨-, hn4, hdf, hg, hh⟩ hn hls hd hok hbs -
    have hok2 : (S.push (.row n.cells false)).ok := St.ok_push hok
    have hgp : (S.push (.row n.cells false)).get 4 = some (L.at .ready .nrm) := by rw [St.get_pushn (by omega)]; exact hg
    have hnp : 4 < (S.push (.row n.cells false)).n := by rw [St.pushN]; omega
    refine yield_val hg (by rw [hps]; rfl) ?_
    rw [hasg, hps, hfn]
    simp only [List.zip_cons_cons, List.zip_nil_right, List.foldl]
    repeat with_reducible (first | refine E0 ?_ | refine E1 ?_ | refine E2 ?_ | refine E3 ?_ | refine E4 ?_ | refine E5 (by decide) ?_ | refine E6 ?_ | refine E7 ?_ | refine E8 ?_ | refine E9 ?_ | refine Ea ?_ | refine Eb ?_ | refine Ec ?_ | refine Ed ?_)
    refine W_region fun K hK => ?_
    simp only [KA, KB, KP, KQ, reduceCtorEq, ↓reduceIte, Int.reduceLT, Int.reduceLE, Int.reduceAdd, Int.reduceSub, Int.reduceNeg, Int.reduceMul, Int.reduceToNat, Int.reduceEq, Int.reduceNe, Int.reduceGT, Int.reduceGE, Nat.reducePow, Nat.reduceAdd, Nat.reduceSub, Nat.reduceLT, Nat.reduceMul, Nat.reduceDiv, Nat.reduceEqDiff, Nat.reduceLeDiff, KT w, hw.KF, hl, hok, hbs, splice, List.length_append]
    refine hK _ _ ?_
    clear hK
    clear K
    refine ⟨rfl, .nrm, hgp, by show S.base ≤ 4; omega, ?_⟩
    rw [hbody]
    have hb1 : ((S.push (.row n.cells false)).set 4 (L.at .busy .nrm)).base = 0 := hbs
    have k1 : ((S.push (.row n.cells false)).set 4 (L.at .busy .nrm)).ok := St.ok_set hok2
    have gN : ((S.push (.row n.cells false)).set 4 (L.at .busy .nrm)).get S.n = some (.row n.cells false) := by rw [St.get_setn hnp (by omega)]; exact St.get_pushe
    have g5 : ((S.push (.row n.cells false)).set 4 (L.at .busy .nrm)).get 4 = some (L.at .busy .nrm) := St.get_sete hok2 hnp
    have gd : ((S.push (.row n.cells false)).set 4 (L.at .busy .nrm)).get 3 = some .dfr := by rw [St.get_setn hnp (by omega), St.get_pushn (by omega)]; exact hdf
    have gx : ∀ o, o ≠ 4 → o < S.n → ((S.push (.row n.cells false)).set 4 (L.at .busy .nrm)).get o = S.get o := fun o ho ho' => by rw [St.get_setn hnp ho, St.get_pushn (by omega)]
    have hn1 : ((S.push (.row n.cells false)).set 4 (L.at .busy .nrm)).n = S.n + 1 := rfl
    generalize (S.push (.row n.cells false)).set 4 (L.at .busy .nrm) = S1 at *
    have hkl := Node.ok_kids hn
    cases hke : n.kids.isEmpty with
    | false =>
      have hk0 : ((n.kids.length : Int) = 0) = False := by
        simp only [eq_iff_iff, iff_false]
        intro h
        have : n.kids = [] := List.eq_nil_of_length_eq_zero (by omega)
        rw [this] at hke; cases hke
      repeat with_reducible (first | refine E0 ?_ | refine E1 ?_ | refine E2 ?_ | refine E3 ?_ | refine E4 ?_ | refine E5 (by decide) ?_ | refine E6 ?_ | refine E7 ?_ | refine E8 ?_ | refine E9 ?_ | refine Ea ?_ | refine Eb ?_ | refine Ec ?_ | refine Ed ?_)
      refine W_region fun K hK => ?_
      simp only [KA, KB, KP, KQ, reduceCtorEq, ↓reduceIte, Int.reduceLT, Int.reduceLE, Int.reduceAdd, Int.reduceSub, Int.reduceNeg, Int.reduceMul, Int.reduceToNat, Int.reduceEq, Int.reduceNe, Int.reduceGT, Int.reduceGE, Nat.reducePow, Nat.reduceAdd, Nat.reduceSub, Nat.reduceLT, Nat.reduceMul, Nat.reduceDiv, Nat.reduceEqDiff, Nat.reduceLeDiff, KT w, hw.KF, hl, gN, hk0]
      refine hK _ _ ?_
      clear hK
      clear K
      repeat with_reducible (first | refine E0 ?_ | refine E1 ?_ | refine E2 ?_ | refine E3 ?_ | refine E4 ?_ | refine E5 (by decide) ?_ | refine E6 ?_ | refine E7 ?_ | refine E8 ?_ | refine E9 ?_ | refine Ea ?_ | refine Eb ?_ | refine Ec ?_ | refine Ed ?_)
      refine W_condF (by simp only [KA, KP, KQ, reduceCtorEq, ↓reduceIte, Int.reduceLT, Int.reduceLE, Int.reduceAdd, Int.reduceSub, Int.reduceNeg, Int.reduceMul, Int.reduceToNat, Int.reduceEq, Int.reduceNe, Int.reduceGT, Int.reduceGE, Nat.reducePow, Nat.reduceAdd, Nat.reduceSub, Nat.reduceLT, Nat.reduceMul, Nat.reduceDiv, Nat.reduceEqDiff, Nat.reduceLeDiff, KT w, hw.KF, hl]) ?_
      repeat with_reducible (first | refine E0 ?_ | refine E1 ?_ | refine E2 ?_ | refine E3 ?_ | refine E4 ?_ | refine E5 (by decide) ?_ | refine E6 ?_ | refine E7 ?_ | refine E8 ?_ | refine E9 ?_ | refine Ea ?_ | refine Eb ?_ | refine Ec ?_ | refine Ed ?_)
      refine ⟨⟨.busy, .nrm, g5⟩, by omega, ?_⟩
      simp only [decide_true, if_true]
      have t1 : 4 < S1.n := by omega
      refine ⟨rfl, ⟨rfl, by simp only [St.setN]; omega, by rw [St.get_setn t1 (by omega)]; exact gd, St.get_sete k1 t1, ?_⟩, ⟨St.ok_set k1, by simp only [St.setB]; omega, by simp only [St.setN]; omega, fun o x ho hn' hx => by rw [St.get_setn t1 (by omega), gx o (by omega) hn']; exact hx⟩⟩
      simp only [lvS, hke]
      rcases hh with ⟨h4, h5⟩ | ⟨h4, q, g, h5, h6, h7, h8⟩
      · exact .inl ⟨by simpa using h4, by rw [St.get_setn t1 (by omega), gx 1 (by omega) (by omega)]; exact h5⟩
      · exact .inr ⟨by simpa using h4, q, g, by rw [St.get_setn t1 (by omega), gx 1 (by omega) (by omega)]; simpa using h5, h6, by simp only [St.setN]; omega, by rw [St.get_setn t1 (by omega), gx q (by omega) h7]; simpa using h8⟩
    | true =>
      have hk0 : ((n.kids.length : Int) = 0) = True := by
        have : n.kids = [] := by simpa using hke
        rw [this]; simp
      repeat with_reducible (first | refine E0 ?_ | refine E1 ?_ | refine E2 ?_ | refine E3 ?_ | refine E4 ?_ | refine E5 (by decide) ?_ | refine E6 ?_ | refine E7 ?_ | refine E8 ?_ | refine E9 ?_ | refine Ea ?_ | refine Eb ?_ | refine Ec ?_ | refine Ed ?_)
      refine W_region fun K hK => ?_
      simp only [KA, KB, KP, KQ, reduceCtorEq, ↓reduceIte, Int.reduceLT, Int.reduceLE, Int.reduceAdd, Int.reduceSub, Int.reduceNeg, Int.reduceMul, Int.reduceToNat, Int.reduceEq, Int.reduceNe, Int.reduceGT, Int.reduceGE, Nat.reducePow, Nat.reduceAdd, Nat.reduceSub, Nat.reduceLT, Nat.reduceMul, Nat.reduceDiv, Nat.reduceEqDiff, Nat.reduceLeDiff, KT w, hw.KF, hl, gN, hk0]
      refine hK _ _ ?_
      clear hK
      clear K
      repeat with_reducible (first | refine E0 ?_ | refine E1 ?_ | refine E2 ?_ | refine E3 ?_ | refine E4 ?_ | refine E5 (by decide) ?_ | refine E6 ?_ | refine E7 ?_ | refine E8 ?_ | refine E9 ?_ | refine Ea ?_ | refine Eb ?_ | refine Ec ?_ | refine Ed ?_)
      refine W_condT (by simp only [KA, KP, KQ, reduceCtorEq, ↓reduceIte, Int.reduceLT, Int.reduceLE, Int.reduceAdd, Int.reduceSub, Int.reduceNeg, Int.reduceMul, Int.reduceToNat, Int.reduceEq, Int.reduceNe, Int.reduceGT, Int.reduceGE, Nat.reducePow, Nat.reduceAdd, Nat.reduceSub, Nat.reduceLT, Nat.reduceMul, Nat.reduceDiv, Nat.reduceEqDiff, Nat.reduceLeDiff, KT w, hw.KF, hl]) ?_
      repeat with_reducible (first | refine E0 ?_ | refine E1 ?_ | refine E2 ?_ | refine E3 ?_ | refine E4 ?_ | refine E5 (by decide) ?_ | refine E6 ?_ | refine E7 ?_ | refine E8 ?_ | refine E9 ?_ | refine Ea ?_ | refine Eb ?_ | refine Ec ?_ | refine Ed ?_)
      rcases hh with ⟨rfl, h5⟩ | ⟨h4, q, g, h5, h6, h7, h8⟩
      · have h1 : S1.get 1 = some (.row [.nils] false) := by rw [gx 1 (by omega) (by omega)]; exact h5
        have z1 : (S.n = 0) = False := by simp; omega
        have z2 : (S.n ≤ 0) = False := by simp; omega
        have z3 : (S.n == 1) = false := by simp; omega
        have z4 : (1 == S.n) = false := by simp; omega
        have z5 : (S.n + 1 == 1) = false := by simp; omega
        have z6 : (1 == S.n + 1) = false := by simp; omega
        refine W_regionD [[], [], [0], [], [0, 3, 1, 2], [4, 0, 3, 1, 2], [5, 4, 0, 3, 1, 2], [4, 0, 3, 1, 2]] (by decide +kernel) (by decide +kernel) (by decide +kernel) fun K hK => ?_
        simp only [KA, KB, KP, KQ, reduceCtorEq, ↓reduceIte, Int.reduceLT, Int.reduceLE, Int.reduceAdd, Int.reduceSub, Int.reduceNeg, Int.reduceMul, Int.reduceToNat, Int.reduceEq, Int.reduceNe, Int.reduceGT, Int.reduceGE, Nat.reducePow, Nat.reduceAdd, Nat.reduceSub, Nat.reduceLT, Nat.reduceMul, Nat.reduceDiv, Nat.reduceEqDiff, Nat.reduceLeDiff, KT w, hw.KF, A58, A59, A5a, A5b, A5c, A5d, A5e, A5f, A5g, A5h, A5i, opP, rfoot, refsO, refs, wfoot, A5j, A5k, noisyOk, pairOk, Foot.isQuiet, Foot.apart, Ft.apart, Foot.none, A5l, A5m, A48, A49, A5n, A5o, A5p, A5q, Nat.reduceBEq, hl, h3, h1, gN, hm50, constL, constV, k1, hb1, hn1, splice, List.length_append, z1, z2, z3, z4, z5, z6]
        refine hK _ _ ?_
        clear hK
        clear K
        repeat with_reducible (first | refine E0 ?_ | refine E1 ?_ | refine E2 ?_ | refine E3 ?_ | refine E4 ?_ | refine E5 (by decide) ?_ | refine E6 ?_ | refine E7 ?_ | refine E8 ?_ | refine E9 ?_ | refine Ea ?_ | refine Eb ?_ | refine Ec ?_ | refine Ed ?_)
        generalize hX : AObj.row [AV.sref (S.n + 1) 0 0 1] false = X
        have t1 : 4 < ((S1.set 1 X).push (.seq 0 7 [n.cells] 0)).n := by simp only [St.pushN, St.setN]; omega
        have t2 : 1 < S1.n := by omega
        refine ⟨⟨.busy, .nrm, by rw [St.get_pushn (by simp only [St.setN]; omega), St.get_setn t2 (by omega)]; exact g5⟩, by show S1.base ≤ 4; omega, ?_⟩
        simp only [decide_true, if_true]
        refine ⟨rfl, ⟨rfl, by simp only [St.setN]; omega, ?_, St.get_sete (St.ok_push (St.ok_set k1)) t1, .inr ⟨?_, S.n + 1, 0, ?_, by omega, by simp only [St.setN, St.pushN]; omega, ?_⟩⟩, ⟨St.ok_set (St.ok_push (St.ok_set k1)), by simp only [St.setB, St.pushB]; omega, by simp only [St.setN, St.pushN]; omega, fun o x ho hn' hx => ?_⟩⟩
        · rw [St.get_setn t1 (by omega), St.get_pushn (by simp only [St.setN]; omega), St.get_setn t2 (by omega)]; exact gd
        · simp [lvS, hke]
        · rw [St.get_setn t1 (by omega), St.get_pushn (by simp only [St.setN]; omega), St.get_sete k1 t2, ← hX]; simp [lvS, hke]
        · rw [St.get_setn t1 (by omega), St.get_pushq (by simp only [St.setN]; omega)]; simp [lvS, hke, Node.rows_map]
        · rw [St.get_setn t1 (by omega), St.get_pushn (by simp only [St.setN]; omega), St.get_setn t2 (by omega), gx o (by omega) hn']; exact hx
      · have h1 : S1.get 1 = some (.row [.sref q g 0 s.length] false) := by rw [gx 1 (by omega) (by omega)]; exact h5
        have hq : S1.get q = some (.seq g 7 (Node.rows s) 0) := by rw [gx q (by omega) h7]; exact h8
        have hqn : q < S1.n := by omega
        have z1 : (1 = q) = False := by simp; omega
        have z3 : (S.n == 1) = false := by simp; omega
        have z4 : (1 == S.n) = false := by simp; omega
        have z5 : (q == 1) = false := by simp; omega
        have z6 : (1 == q) = false := by simp; omega
        have z7 : (S.n == q) = false := by simp; omega
        have z8 : (q == S.n) = false := by simp; omega
        have z9 : (S.n = q) = False := by simp; omega
        have hrl : (Node.rows s).length = s.length := Node.rows_len s
        have hcap : ((s.length + 1 + (s.length + 1) / 4 + 1000) * 88 ≤ 281474976710656) = True := by simp; omega
        have hlt : ((s.length : Int) < ((s.length + 1 : Nat) : Int)) = True := by simp; omega
        have hlt2 : (s.length < s.length + 1) = True := by simp
        have hix : ∀ z : List AV, (Node.rows s ++ [z])[s.length]? = some z := fun z => by rw [List.getElem?_append_right (by omega)]; simp [hrl]
        have hst : ∀ z c : List AV, (Node.rows s ++ [z]).set s.length c = Node.rows s ++ [c] := fun z c => by rw [List.set_append_right _ _ (by omega)]; simp [hrl]
        have hrr : Node.rows (s ++ [n]) = Node.rows s ++ [n.cells] := by simp [Node.rows_map]
        have hqn2 : q < S.n + 1 := by omega
        have h1n2 : 1 < S.n + 1 := by omega
        generalize Node.rows s = R at *
        refine W_regionD [[], [], [0], [], [0, 3, 1, 2], [4, 0, 3, 1, 2], [5, 4, 0, 3, 1, 2], [4, 0, 3, 1, 2]] (by decide +kernel) (by decide +kernel) (by decide +kernel) fun K hK => ?_
        simp only [KA, KB, KP, KQ, reduceCtorEq, ↓reduceIte, Int.reduceLT, Int.reduceLE, Int.reduceAdd, Int.reduceSub, Int.reduceNeg, Int.reduceMul, Int.reduceToNat, Int.reduceEq, Int.reduceNe, Int.reduceGT, Int.reduceGE, Nat.reducePow, Nat.reduceAdd, Nat.reduceSub, Nat.reduceLT, Nat.reduceMul, Nat.reduceDiv, Nat.reduceEqDiff, Nat.reduceLeDiff, KT w, hw.KF, A58, A59, A5a, A5b, A5c, A5d, A5e, A5f, A5g, A5h, A5i, opP, rfoot, refsO, refs, wfoot, A5j, A5k, noisyOk, pairOk, Foot.isQuiet, Foot.apart, Ft.apart, Foot.none, A5l, A5m, A48, A49, A5n, A5o, A5p, A5q, Nat.reduceBEq, hl, h3, h1, hq, gN, hm50, constL, constV, k1, hb1, hn1, hqn2, h1n2, hrl, hcap, hlt, hlt2, hix, hst, splice, List.length_append, z1, z3, z4, z5, z6, z7, z8, z9]
        refine hK _ _ ?_
        clear hK
        clear K
        repeat with_reducible (first | refine E0 ?_ | refine E1 ?_ | refine E2 ?_ | refine E3 ?_ | refine E4 ?_ | refine E5 (by decide) ?_ | refine E6 ?_ | refine E7 ?_ | refine E8 ?_ | refine E9 ?_ | refine Ea ?_ | refine Eb ?_ | refine Ec ?_ | refine Ed ?_)
        generalize hX : AObj.row [AV.sref q (g + 1) 0 (s.length + 1)] false = X
        generalize AObj.seq (g + 1) 7 (R ++ [[AV.str [], AV.bool false, AV.str [], AV.int IntKind.i64 0, AV.int IntKind.i64 0, AV.int IntKind.i64 0, AV.nils]]) 0 = Y
        have t3 : q < (S1.set q Y).n := by simp only [St.setN]; omega
        have t2 : 1 < ((S1.set q Y).set q (.seq (g + 1) 7 (R ++ [n.cells]) 0)).n := by simp only [St.setN]; omega
        have t1 : 4 < (((S1.set q Y).set q (.seq (g + 1) 7 (R ++ [n.cells]) 0)).set 1 X).n := by simp only [St.setN]; omega
        have k2 : (S1.set q Y).ok := St.ok_set k1
        have k3 : ((S1.set q Y).set q (.seq (g + 1) 7 (R ++ [n.cells]) 0)).ok := St.ok_set k2
        have k4 := St.ok_set (i := 1) (o := X) k3
        refine ⟨⟨.busy, .nrm, by rw [St.get_setn t2 (by omega), St.get_setn t3 (by omega), St.get_setn hqn (by omega)]; exact g5⟩, by show S1.base ≤ 4; omega, ?_⟩
        simp only [decide_true, if_true]
        refine ⟨rfl, ⟨rfl, by simp only [St.setN]; omega, ?_, St.get_sete k4 t1, .inr ⟨?_, q, g + 1, ?_, h6, by simp only [St.setN]; omega, ?_⟩⟩, ⟨St.ok_set k4, by simp only [St.setB]; omega, by simp only [St.setN]; omega, fun o x ho hn' hx => ?_⟩⟩
        · rw [St.get_setn t1 (by omega), St.get_setn t2 (by omega), St.get_setn t3 (by omega), St.get_setn hqn (by omega)]; exact gd
        · simp [lvS, hke]
        · rw [St.get_setn t1 (by omega), St.get_sete k3 t2, ← hX]; simp [lvS, hke]
        · rw [St.get_setn t1 (by omega), St.get_setn t2 (by omega), St.get_sete k2 t3]; simp [lvS, hke, hrr]
        · by_cases e : o = q
          · subst e; rw [h8] at hx; cases hx
          · rw [St.get_setn t1 (by omega), St.get_setn t2 (by omega), St.get_setn t3 e, St.get_setn hqn e, gx o (by omega) hn']; exact hx
  have hp : 1 + (preN n 1).length ≤ 1000000 := by rw [preN_len]; omega
  obtain ⟨S', r, hr, hJ, hA⟩ := walkN_call hw (b := 2) T n hn [] hp (by simp only [preN_len, List.length_nil]; omega) (((((St.nil.push (AObj.row n.cells false)).push (AObj.row [.nils] false)).push (AObj.row n.cells false)).push AObj.dfr).push (L.at LoopState.ready Ex.nrm)) (by
      refine ⟨rfl, by simp only [KA, KP, KQ, reduceCtorEq, ↓reduceIte, Int.reduceLT, Int.reduceLE, Int.reduceAdd, Int.reduceSub, Int.reduceNeg, Int.reduceMul, Int.reduceToNat, Int.reduceEq, Int.reduceNe, Int.reduceGT, Int.reduceGE, Nat.reducePow, Nat.reduceAdd, Nat.reduceSub, Nat.reduceLT, Nat.reduceMul, Nat.reduceDiv, Nat.reduceEqDiff, Nat.reduceLeDiff, KT w, hw.KF], by simp only [KA, KP, KQ, reduceCtorEq, ↓reduceIte, Int.reduceLT, Int.reduceLE, Int.reduceAdd, Int.reduceSub, Int.reduceNeg, Int.reduceMul, Int.reduceToNat, Int.reduceEq, Int.reduceNe, Int.reduceGT, Int.reduceGE, Nat.reducePow, Nat.reduceAdd, Nat.reduceSub, Nat.reduceLT, Nat.reduceMul, Nat.reduceDiv, Nat.reduceEqDiff, Nat.reduceLeDiff, KT w, hw.KF], by simp only [KA, KP, KQ, reduceCtorEq, ↓reduceIte, Int.reduceLT, Int.reduceLE, Int.reduceAdd, Int.reduceSub, Int.reduceNeg, Int.reduceMul, Int.reduceToNat, Int.reduceEq, Int.reduceNe, Int.reduceGT, Int.reduceGE, Nat.reducePow, Nat.reduceAdd, Nat.reduceSub, Nat.reduceLT, Nat.reduceMul, Nat.reduceDiv, Nat.reduceEqDiff, Nat.reduceLeDiff, KT w, hw.KF], .inl ⟨rfl, by simp only [KA, KP, KQ, reduceCtorEq, ↓reduceIte, Int.reduceLT, Int.reduceLE, Int.reduceAdd, Int.reduceSub, Int.reduceNeg, Int.reduceMul, Int.reduceToNat, Int.reduceEq, Int.reduceNe, Int.reduceGT, Int.reduceGE, Nat.reducePow, Nat.reduceAdd, Nat.reduceSub, Nat.reduceLT, Nat.reduceMul, Nat.reduceDiv, Nat.reduceEqDiff, Nat.reduceLeDiff, KT w, hw.KF]⟩⟩) (St.ok_push (St.ok_push (St.ok_push (St.ok_push (St.ok_push St.ok_nil))))) rfl (by simp only [KA, KP, KQ, reduceCtorEq, ↓reduceIte, Int.reduceLT, Int.reduceLE, Int.reduceAdd, Int.reduceSub, Int.reduceNeg, Int.reduceMul, Int.reduceToNat, Int.reduceEq, Int.reduceNe, Int.reduceGT, Int.reduceGE, Nat.reducePow, Nat.reduceAdd, Nat.reduceSub, Nat.reduceLT, Nat.reduceMul, Nat.reduceDiv, Nat.reduceEqDiff, Nat.reduceLeDiff, KT w, hw.KF]) (by simp only [KA, KP, KQ, reduceCtorEq, ↓reduceIte, Int.reduceLT, Int.reduceLE, Int.reduceAdd, Int.reduceSub, Int.reduceNeg, Int.reduceMul, Int.reduceToNat, Int.reduceEq, Int.reduceNe, Int.reduceGT, Int.reduceGE, Nat.reducePow, Nat.reduceAdd, Nat.reduceSub, Nat.reduceLT, Nat.reduceMul, Nat.reduceDiv, Nat.reduceEqDiff, Nat.reduceLeDiff, KT w, hw.KF]) (by simp only [KA, KP, KQ, reduceCtorEq, ↓reduceIte, Int.reduceLT, Int.reduceLE, Int.reduceAdd, Int.reduceSub, Int.reduceNeg, Int.reduceMul, Int.reduceToNat, Int.reduceEq, Int.reduceNe, Int.reduceGT, Int.reduceGE, Nat.reducePow, Nat.reduceAdd, Nat.reduceSub, Nat.reduceLT, Nat.reduceMul, Nat.reduceDiv, Nat.reduceEqDiff, Nat.reduceLeDiff, KT w, hw.KF])
  rw [runLv, List.nil_append] at hJ
  obtain ⟨-, k0, k1, k2, k3⟩ := hJ
  refine ⟨r, S', hr, .ready, .nrm, k2, by simp, by have := hA.base; simp only [St.pushB, St.nil_base] at this; omega, ?_⟩
  have hb' := hA.base
  have hn' := hA.n
  have hok' := hA.ok
  simp only [St.pushB, St.pushN, St.nil_base, St.nil_n] at hb' hn'
  simp only at k3
  have hg1 : ∃ v, S'.get 1 = some (.row [v] false) ∧ (∀ X Y : AObj, FZ (.vec (Node.rows (lvN n))) v ((S'.set 4 X).set 3 Y)) := by
    rcases k3 with ⟨h, h'⟩ | ⟨h0, q, g, h1, h2, h3, h4⟩
    · exact ⟨_, h', fun _ _ => by rw [h]; exact FZ_plain rfl (fun vs h => by cases h)⟩
    · refine ⟨_, h1, fun X Y => FZ_sref (r := Node.rows (lvN n)) ?_ (Node.nrm_rows _)⟩
      unfold St.rows
      rw [St.get_setn (by simp only [St.setN]; omega) (by omega), St.get_setn (by omega) (by omega), h4]
      simp [Node.rows_len, List.take_of_length_le]
  obtain ⟨v, hv, hv'⟩ := hg1
  clear k3
  repeat with_reducible (first | refine E0 ?_ | refine E1 ?_ | refine E2 ?_ | refine E3 ?_ | refine E4 ?_ | refine E5 (by decide) ?_ | refine E6 ?_ | refine E7 ?_ | refine E8 ?_ | refine E9 ?_ | refine Ea ?_ | refine Eb ?_ | refine Ec ?_ | refine Ed ?_)
  refine W_region fun K hK => ?_
  simp only [KA, KB, KP, KQ, reduceCtorEq, ↓reduceIte, Int.reduceLT, Int.reduceLE, Int.reduceAdd, Int.reduceSub, Int.reduceNeg, Int.reduceMul, Int.reduceToNat, Int.reduceEq, Int.reduceNe, Int.reduceGT, Int.reduceGE, Nat.reducePow, Nat.reduceAdd, Nat.reduceSub, Nat.reduceLT, Nat.reduceMul, Nat.reduceDiv, Nat.reduceEqDiff, Nat.reduceLeDiff, KT w, hw.KF, hv, k0, hok', hb']
  refine hK _ _ ?_
  clear hK
  clear K
  repeat with_reducible (first | refine E0 ?_ | refine E1 ?_ | refine E2 ?_ | refine E3 ?_ | refine E4 ?_ | refine E5 (by decide) ?_ | refine E6 ?_ | refine E7 ?_ | refine E8 ?_ | refine E9 ?_ | refine Ea ?_ | refine Eb ?_ | refine Ec ?_ | refine Ed ?_)
  have h4' : (S'.set 4 (L.at LoopState.exhausted Ex.nrm)).get 3 = some .dfr := by rw [St.get_setn (by omega) (by omega)]; exact k1
  simp only [St.pushN, St.nil_n]
  refine AtEnd_one rfl h4' (by show S'.base ≤ 3; omega) ?_
  simp only [KA, KP, KQ, reduceCtorEq, ↓reduceIte, Int.reduceLT, Int.reduceLE, Int.reduceAdd, Int.reduceSub, Int.reduceNeg, Int.reduceMul, Int.reduceToNat, Int.reduceEq, Int.reduceNe, Int.reduceGT, Int.reduceGE, Nat.reducePow, Nat.reduceAdd, Nat.reduceSub, Nat.reduceLT, Nat.reduceMul, Nat.reduceDiv, Nat.reduceEqDiff, Nat.reduceLeDiff, KT w, hw.KF, RS_some, aresults_nil, aresults_tmp, aresults_cell, one]
  exact hv' _ _
end Go.Am.B
