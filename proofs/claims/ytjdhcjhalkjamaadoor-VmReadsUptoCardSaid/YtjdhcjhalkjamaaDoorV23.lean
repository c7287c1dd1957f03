/- THE DOCUMENT'S READER: the words. -/
import Derived.Test.YtjdhcjhalkjamaaDoorV22
set_option linter.unusedSimpArgs false
set_option linter.unusedVariables false
set_option maxRecDepth 20000
namespace Go.Am.V
open Go.Proofs Go.IntWalk

variable {w : Ways}

/-- Rows that one may append to. -/
def Ow (rows : Rows) (v : AV) (S : St) : Prop := (rows = [] ∧ v = .nils) ∨ (rows ≠ [] ∧ ∃ o g, v = .own rows o g ∧ o < S.n ∧ S.get o = some (.tail g))
theorem Ow.nrm {rows r : Rows} {v : AV} {S : St} (h : Ow rows v S) (hr : nrmR rows = some r) : Am.nrm v = some (.vec r) := by
  rcases h with ⟨rfl, rfl⟩ | ⟨_, o, g, rfl, _⟩
  · simp [nrmR] at hr; subst hr; rfl
  · simp [Am.nrm, hr]
def wrow (x : Nat × List UInt8) : List AV := [.str x.2, .int .i64 (x.1 : Nat)]
def wrows (l : List (Nat × List UInt8)) : Rows := l.map wrow
theorem nrmR_wrows (l : List (Nat × List UInt8)) : nrmR (wrows l) = some (wrows l) := by
  induction l with
  | nil => rfl
  | cons x xs ih =>
    have h : wrows (x :: xs) = wrow x :: wrows xs := rfl
    rw [h]
    simp [nrmR, wrow, nrmL, nrm, ih]
theorem wrows_len (l : List (Nat × List UInt8)) : (wrows l).length = l.length := by simp [wrows]
theorem wrows_get (l : List (Nat × List UInt8)) (i : Nat) : (wrows l)[i]? = (l[i]?).map wrow := by simp [wrows]
theorem wrows_snoc (l : List (Nat × List UInt8)) (x : Nat × List UInt8) : wrows l ++ [[.str x.2, .int .i64 (x.1 : Nat)]] = wrows (l ++ [x]) := by simp [wrows, wrow]
theorem wrows_hd (l : List (Nat × List UInt8)) : headOk 2 (wrows l) = true := by cases l <;> rfl
theorem wrows_emp {l : List (Nat × List UInt8)} (h : l ≠ []) : (wrows l).isEmpty = false := by cases l with | nil => exact absurd rfl h | cons _ _ => rfl
theorem wrows_ne {l : List (Nat × List UInt8)} : wrows l ≠ [] ↔ l ≠ [] := by cases l <;> simp [wrows]

/-- What a step of an append leaves, as words21 needs it. -/
def MidW (s : List UInt8) (D : List (Nat × List UInt8)) (f i : Nat) : Ex → Fr → St → Prop := fun ex fr S => ex = .nrm ∧ S.ok ∧ S.base = 0 ∧ ∃ (tm : List AV) (v : AV), fr = ⟨tm, [], none, 21⟩ ∧ Ow (wrows D) v S ∧ tm.length = 58 ∧ tget tm 0 = .str s ∧ tget tm 3 = v ∧ tget tm 4 = .int .i64 (f : Nat) ∧ tget tm 5 = .int .i64 (i : Nat)

theorem tok_len : ∀ (l : List UInt8) (a : Nat) (cur : List UInt8), (tok a cur l).length ≤ 2 * l.length + 1
  | [], a, cur => by
    rw [tok]
    split <;> simp
  | b :: l, a, cur => by
    rw [tok]
    have h1 := tok_len l (a + cur.length + 1) []
    have h2 := tok_len l a (cur ++ [b])
    split
    · split <;> simp <;> omega
    · split
      · split <;> simp <;> omega
      · simp; omega

set_option maxHeartbeats 4000000 in
theorem words21 (hw : Std w) (s : List UInt8) (hs : s.length ≤ 1000000000) : PC (cfg w) 21 [.str s] (.vec (wrows (tok 0 [] s))) := by
  refine PC_of (args' := [.str s]) hw.e21 hw.m21 (by simp [nrmA, nrm]) ?_
  have hTl := tok_len s 0 []
  generalize hT : tok 0 [] s = T at *
  refine call_of_W (fn21 w) rfl ?_
  simp only [Tryd.f21, List.length_cons, List.length_nil, ↓reduceIte, Int.reduceLT, Int.reduceLE, Int.reduceAdd, Int.reduceSub, Int.reduceNeg, Int.reduceMul, Int.reduceToNat, Int.reduceEq, Int.reduceNe, Int.reduceGT, Int.reduceGE, Nat.reducePow, IntKind.bits, Nat.reduceAdd, Nat.reduceSub, List.cons_append, List.nil_append]
  repeat with_reducible (first | refine E0 ?_ | refine E1 ?_ | refine E2 ?_ | refine E3 ?_ | refine E4 ?_ | refine E5 (by decide) ?_ | refine E6 ?_ | refine E7 ?_ | refine E8 ?_ | refine E9 ?_ | refine Ea ?_ | refine Eb ?_ | refine Ec ?_ | refine Ed ?_)
  refine W_region fun K hK => ?_
  simp only [KA, KB, KP, KQ, reduceCtorEq, ↓reduceIte, Int.reduceLT, Int.reduceLE, Int.reduceAdd, Int.reduceSub, Int.reduceNeg, Int.reduceMul, Int.reduceToNat, Int.reduceEq, Int.reduceNe, Int.reduceGT, Int.reduceGE, Nat.reducePow, Nat.reduceAdd, Nat.reduceSub, Nat.reduceLT, Nat.reduceMul, Nat.reduceDiv, Nat.reduceEqDiff, Nat.reduceLeDiff, KT w, KI, hw.KF]
  refine hK _ _ ?_
  clear hK
  clear K
  repeat with_reducible (first | refine E0 ?_ | refine E1 ?_ | refine E2 ?_ | refine E3 ?_ | refine E4 ?_ | refine E5 (by decide) ?_ | refine E6 ?_ | refine E7 ?_ | refine E8 ?_ | refine E9 ?_ | refine Ea ?_ | refine Eb ?_ | refine Ec ?_ | refine Ed ?_)
  refine W_region fun K hK => ?_
  simp only [KA, KB, KP, KQ, reduceCtorEq, ↓reduceIte, Int.reduceLT, Int.reduceLE, Int.reduceAdd, Int.reduceSub, Int.reduceNeg, Int.reduceMul, Int.reduceToNat, Int.reduceEq, Int.reduceNe, Int.reduceGT, Int.reduceGE, Nat.reducePow, Nat.reduceAdd, Nat.reduceSub, Nat.reduceLT, Nat.reduceMul, Nat.reduceDiv, Nat.reduceEqDiff, Nat.reduceLeDiff, KT w, KI, hw.KF]
  refine hK _ _ ?_
  clear hK
  clear K
  repeat with_reducible (first | refine E0 ?_ | refine E1 ?_ | refine E2 ?_ | refine E3 ?_ | refine E4 ?_ | refine E5 (by decide) ?_ | refine E6 ?_ | refine E7 ?_ | refine E8 ?_ | refine E9 ?_ | refine Ea ?_ | refine Eb ?_ | refine Ec ?_ | refine Ed ?_)
  refine W_region fun K hK => ?_
  simp only [KA, KB, KP, KQ, reduceCtorEq, ↓reduceIte, Int.reduceLT, Int.reduceLE, Int.reduceAdd, Int.reduceSub, Int.reduceNeg, Int.reduceMul, Int.reduceToNat, Int.reduceEq, Int.reduceNe, Int.reduceGT, Int.reduceGE, Nat.reducePow, Nat.reduceAdd, Nat.reduceSub, Nat.reduceLT, Nat.reduceMul, Nat.reduceDiv, Nat.reduceEqDiff, Nat.reduceLeDiff, KT w, KI, hw.KF]
  refine hK _ _ ?_
  clear hK
  clear K
  repeat with_reducible (first | refine E0 ?_ | refine E1 ?_ | refine E2 ?_ | refine E3 ?_ | refine E4 ?_ | refine E5 (by decide) ?_ | refine E6 ?_ | refine E7 ?_ | refine E8 ?_ | refine E9 ?_ | refine Ea ?_ | refine Eb ?_ | refine Ec ?_ | refine Ed ?_)
  refine W_region fun K hK => ?_
  simp only [KA, KB, KP, KQ, reduceCtorEq, ↓reduceIte, Int.reduceLT, Int.reduceLE, Int.reduceAdd, Int.reduceSub, Int.reduceNeg, Int.reduceMul, Int.reduceToNat, Int.reduceEq, Int.reduceNe, Int.reduceGT, Int.reduceGE, Nat.reducePow, Nat.reduceAdd, Nat.reduceSub, Nat.reduceLT, Nat.reduceMul, Nat.reduceDiv, Nat.reduceEqDiff, Nat.reduceLeDiff, KT w, KI, hw.KF]
  refine hK _ _ ?_
  clear hK
  clear K
  repeat with_reducible (first | refine E0 ?_ | refine E1 ?_ | refine E2 ?_ | refine E3 ?_ | refine E4 ?_ | refine E5 (by decide) ?_ | refine E6 ?_ | refine E7 ?_ | refine E8 ?_ | refine E9 ?_ | refine Ea ?_ | refine Eb ?_ | refine Ec ?_ | refine Ed ?_)
  refine W_loop (fun k fr S => S.ok ∧ S.base = 0 ∧ ∃ (tm : List AV) (i f : Nat) (D : List (Nat × List UInt8)) (v : AV), fr = ⟨tm, [], none, 21⟩ ∧ k = s.length + 1 - i ∧ f ≤ i ∧ i ≤ s.length + 1 ∧ Ow (wrows D) v S ∧
      ((i ≤ s.length ∧ D ++ tok f ((s.drop f).take (i - f)) (s.drop i) = T) ∨ (i = s.length + 1 ∧ D = T)) ∧
      tm.length = 58 ∧ tget tm 0 = .str s ∧ tget tm 3 = v ∧ tget tm 4 = .int .i64 (f : Nat) ∧ tget tm 5 = .int .i64 (i : Nat)) (s.length + 1)
    ⟨St.ok_nil, rfl, _, 0, 0, [], .nils, rfl, rfl, by omega, by omega, .inl ⟨rfl, rfl⟩, .inl ⟨by omega, by simpa using hT⟩, ?_⟩ ?_
  · simp only [KA, KP, KQ, reduceCtorEq, ↓reduceIte, Int.reduceLT, Int.reduceLE, Int.reduceAdd, Int.reduceSub, Int.reduceNeg, Int.reduceMul, Int.reduceToNat, Int.reduceEq, Int.reduceNe, Int.reduceGT, Int.reduceGE, Nat.reducePow, Nat.reduceAdd, Nat.reduceSub, Nat.reduceLT, Nat.reduceMul, Nat.reduceDiv, Nat.reduceEqDiff, Nat.reduceLeDiff, KT w, KI, hw.KF, Int.ofNat_zero]
  clear hT
  rintro k fr S ⟨hok, hbs, tm, i, f, D, v, rfl, rfl, hfi, hi, hv, hD, htm, t0, t3, t4, t5⟩
  repeat with_reducible (first | refine E0 ?_ | refine E1 ?_ | refine E2 ?_ | refine E3 ?_ | refine E4 ?_ | refine E5 (by decide) ?_ | refine E6 ?_ | refine E7 ?_ | refine E8 ?_ | refine E9 ?_ | refine Ea ?_ | refine Eb ?_ | refine Ec ?_ | refine Ed ?_)
  by_cases hil : (i : Int) ≤ (s.length : Int)
  case neg =>
    obtain ⟨rfl, rfl⟩ : i = s.length + 1 ∧ D = T := by
      rcases hD with h | h
      · omega
      · exact h
    have hnv := hv.nrm (nrmR_wrows D)
    refine W_region fun K hK => ?_
    simp only [KA, KB, KP, KQ, reduceCtorEq, ↓reduceIte, Int.reduceLT, Int.reduceLE, Int.reduceAdd, Int.reduceSub, Int.reduceNeg, Int.reduceMul, Int.reduceToNat, Int.reduceEq, Int.reduceNe, Int.reduceGT, Int.reduceGE, Nat.reducePow, Nat.reduceAdd, Nat.reduceSub, Nat.reduceLT, Nat.reduceMul, Nat.reduceDiv, Nat.reduceEqDiff, Nat.reduceLeDiff, KT w, KI, hw.KF, htm, t0, t5, hil]
    refine hK _ _ ?_
    clear hK
    clear K
    repeat with_reducible (first | refine E0 ?_ | refine E1 ?_ | refine E2 ?_ | refine E3 ?_ | refine E4 ?_ | refine E5 (by decide) ?_ | refine E6 ?_ | refine E7 ?_ | refine E8 ?_ | refine E9 ?_ | refine Ea ?_ | refine Eb ?_ | refine Ec ?_ | refine Ed ?_)
    refine W_condF (by simp only [KA, KP, KQ, reduceCtorEq, ↓reduceIte, Int.reduceLT, Int.reduceLE, Int.reduceAdd, Int.reduceSub, Int.reduceNeg, Int.reduceMul, Int.reduceToNat, Int.reduceEq, Int.reduceNe, Int.reduceGT, Int.reduceGE, Nat.reducePow, Nat.reduceAdd, Nat.reduceSub, Nat.reduceLT, Nat.reduceMul, Nat.reduceDiv, Nat.reduceEqDiff, Nat.reduceLeDiff, KT w, KI, hw.KF, htm]) ?_
    repeat with_reducible (first | refine E0 ?_ | refine E1 ?_ | refine E2 ?_ | refine E3 ?_ | refine E4 ?_ | refine E5 (by decide) ?_ | refine E6 ?_ | refine E7 ?_ | refine E8 ?_ | refine E9 ?_ | refine Ea ?_ | refine Eb ?_ | refine Ec ?_ | refine Ed ?_)
    refine W_region fun K hK => ?_
    simp only [KA, KB, KP, KQ, reduceCtorEq, ↓reduceIte, Int.reduceLT, Int.reduceLE, Int.reduceAdd, Int.reduceSub, Int.reduceNeg, Int.reduceMul, Int.reduceToNat, Int.reduceEq, Int.reduceNe, Int.reduceGT, Int.reduceGE, Nat.reducePow, Nat.reduceAdd, Nat.reduceSub, Nat.reduceLT, Nat.reduceMul, Nat.reduceDiv, Nat.reduceEqDiff, Nat.reduceLeDiff, KT w, KI, hw.KF, htm, t3]
    refine hK _ _ ?_
    clear hK
    clear K
    repeat with_reducible (first | refine E0 ?_ | refine E1 ?_ | refine E2 ?_ | refine E3 ?_ | refine E4 ?_ | refine E5 (by decide) ?_ | refine E6 ?_ | refine E7 ?_ | refine E8 ?_ | refine E9 ?_ | refine Ea ?_ | refine Eb ?_ | refine Ec ?_ | refine Ed ?_)
    refine AtEnd_of rfl ?_
    simp only [KA, KP, KQ, reduceCtorEq, ↓reduceIte, Int.reduceLT, Int.reduceLE, Int.reduceAdd, Int.reduceSub, Int.reduceNeg, Int.reduceMul, Int.reduceToNat, Int.reduceEq, Int.reduceNe, Int.reduceGT, Int.reduceGE, Nat.reducePow, Nat.reduceAdd, Nat.reduceSub, Nat.reduceLT, Nat.reduceMul, Nat.reduceDiv, Nat.reduceEqDiff, Nat.reduceLeDiff, KT w, KI, hw.KF, htm, RS_some, aresults_nil, aresults_tmp, aresults_cell, one]
    exact FZ_plain hnv (fun vs h => by rcases hv with ⟨_, h'⟩ | ⟨_, o, g, h', _⟩ <;> (rw [h'] at h; cases h))
  have hin : i ≤ s.length := by omega
  have hD' : D ++ tok f ((s.drop f).take (i - f)) (s.drop i) = T := by
    rcases hD with h | h
    · exact h.2
    · omega
  clear hD
  have hi0 : (0 : Int) ≤ (i : Int) := by omega
  have hf0 : (0 : Int) ≤ (f : Int) := by omega
  have hfi' : (f : Int) ≤ (i : Int) := by omega
  have hcl : ((s.drop f).take (i - f)).length = i - f := by simp; omega
  obtain ⟨C, hC⟩ : ∃ C, (s.drop f).take (i - f) = C := ⟨_, rfl⟩
  rw [hC] at hD' hcl
  have eI : IntKind.i64.wrap ((i : Int) + 1) = ((i + 1 : Nat) : Int) := by rw [i64_in _ (by omega)]; omega
  refine W_region fun K hK => ?_
  simp only [KA, KB, KP, KQ, reduceCtorEq, ↓reduceIte, Int.reduceLT, Int.reduceLE, Int.reduceAdd, Int.reduceSub, Int.reduceNeg, Int.reduceMul, Int.reduceToNat, Int.reduceEq, Int.reduceNe, Int.reduceGT, Int.reduceGE, Nat.reducePow, Nat.reduceAdd, Nat.reduceSub, Nat.reduceLT, Nat.reduceMul, Nat.reduceDiv, Nat.reduceEqDiff, Nat.reduceLeDiff, KT w, KI, hw.KF, htm, t0, t5, hil]
  refine hK _ _ ?_
  clear hK
  clear K
  repeat with_reducible (first | refine E0 ?_ | refine E1 ?_ | refine E2 ?_ | refine E3 ?_ | refine E4 ?_ | refine E5 (by decide) ?_ | refine E6 ?_ | refine E7 ?_ | refine E8 ?_ | refine E9 ?_ | refine Ea ?_ | refine Eb ?_ | refine Ec ?_ | refine Ed ?_)
  refine W_condT (by simp only [KA, KP, KQ, reduceCtorEq, ↓reduceIte, Int.reduceLT, Int.reduceLE, Int.reduceAdd, Int.reduceSub, Int.reduceNeg, Int.reduceMul, Int.reduceToNat, Int.reduceEq, Int.reduceNe, Int.reduceGT, Int.reduceGE, Nat.reducePow, Nat.reduceAdd, Nat.reduceSub, Nat.reduceLT, Nat.reduceMul, Nat.reduceDiv, Nat.reduceEqDiff, Nat.reduceLeDiff, KT w, KI, hw.KF, htm]) ?_
  repeat with_reducible (first | refine E0 ?_ | refine E1 ?_ | refine E2 ?_ | refine E3 ?_ | refine E4 ?_ | refine E5 (by decide) ?_ | refine E6 ?_ | refine E7 ?_ | refine E8 ?_ | refine E9 ?_ | refine Ea ?_ | refine Eb ?_ | refine Ec ?_ | refine Ed ?_)
  by_cases hgo : ∃ b, s[i]? = some b ∧ b ≠ 32 ∧ b ≠ 59
  · obtain ⟨b, hb, hb1, hb2⟩ := hgo
    have hin2 : i < s.length := (List.getElem?_eq_some_iff.1 hb).1
    have hil2 : (i : Int) < (s.length : Int) := by omega
    have hd : s.drop i = b :: s.drop (i + 1) := by
      rw [List.drop_eq_getElem_cons hin2]
      rw [List.getElem?_eq_getElem hin2] at hb
      simp only [Option.some.injEq] at hb; rw [hb]
    have hn1 : ¬ ((b.toNat : Int) = 32) := fun h => hb1 (by apply UInt8.toNat_inj.1; show b.toNat = 32; omega)
    have hn2 : ¬ ((b.toNat : Int) = 59) := fun h => hb2 (by apply UInt8.toNat_inj.1; show b.toNat = 59; omega)
    refine W_region fun K hK => ?_
    simp only [KA, KB, KP, KQ, reduceCtorEq, ↓reduceIte, Int.reduceLT, Int.reduceLE, Int.reduceAdd, Int.reduceSub, Int.reduceNeg, Int.reduceMul, Int.reduceToNat, Int.reduceEq, Int.reduceNe, Int.reduceGT, Int.reduceGE, Nat.reducePow, Nat.reduceAdd, Nat.reduceSub, Nat.reduceLT, Nat.reduceMul, Nat.reduceDiv, Nat.reduceEqDiff, Nat.reduceLeDiff, KT w, KI, hw.KF, htm, t0, t5, hil2, hi0, hb, hn1, hn2]
    refine hK _ _ ?_
    clear hK
    clear K
    repeat with_reducible (first | refine E0 ?_ | refine E1 ?_ | refine E2 ?_ | refine E3 ?_ | refine E4 ?_ | refine E5 (by decide) ?_ | refine E6 ?_ | refine E7 ?_ | refine E8 ?_ | refine E9 ?_ | refine Ea ?_ | refine Eb ?_ | refine Ec ?_ | refine Ed ?_)
    refine W_condT (by simp only [KA, KP, KQ, reduceCtorEq, ↓reduceIte, Int.reduceLT, Int.reduceLE, Int.reduceAdd, Int.reduceSub, Int.reduceNeg, Int.reduceMul, Int.reduceToNat, Int.reduceEq, Int.reduceNe, Int.reduceGT, Int.reduceGE, Nat.reducePow, Nat.reduceAdd, Nat.reduceSub, Nat.reduceLT, Nat.reduceMul, Nat.reduceDiv, Nat.reduceEqDiff, Nat.reduceLeDiff, KT w, KI, hw.KF, htm]) ?_
    repeat with_reducible (first | refine E0 ?_ | refine E1 ?_ | refine E2 ?_ | refine E3 ?_ | refine E4 ?_ | refine E5 (by decide) ?_ | refine E6 ?_ | refine E7 ?_ | refine E8 ?_ | refine E9 ?_ | refine Ea ?_ | refine Eb ?_ | refine Ec ?_ | refine Ed ?_)
    refine W_region fun K hK => ?_
    simp only [KA, KB, KP, KQ, reduceCtorEq, ↓reduceIte, Int.reduceLT, Int.reduceLE, Int.reduceAdd, Int.reduceSub, Int.reduceNeg, Int.reduceMul, Int.reduceToNat, Int.reduceEq, Int.reduceNe, Int.reduceGT, Int.reduceGE, Nat.reducePow, Nat.reduceAdd, Nat.reduceSub, Nat.reduceLT, Nat.reduceMul, Nat.reduceDiv, Nat.reduceEqDiff, Nat.reduceLeDiff, KT w, KI, hw.KF, htm, t5, eI]
    refine hK _ _ ?_
    clear hK
    clear K
    refine ⟨s.length + 1 - (i + 1), by omega, hok, hbs, _, i + 1, f, D, v, rfl, rfl, by omega, by omega, hv, .inl ⟨by omega, ?_⟩, ?_⟩
    · rw [hd, tok, if_neg hb1, if_neg hb2] at hD'
      rw [← hD', ← hC]
      congr 2
      have : i + 1 - f = i - f + 1 := by omega
      rw [this, List.take_add_one, List.getElem?_drop]
      have : f + (i - f) = i := by omega
      rw [this, hb]; rfl
    · simp only [KA, KP, KQ, reduceCtorEq, ↓reduceIte, Int.reduceLT, Int.reduceLE, Int.reduceAdd, Int.reduceSub, Int.reduceNeg, Int.reduceMul, Int.reduceToNat, Int.reduceEq, Int.reduceNe, Int.reduceGT, Int.reduceGE, Nat.reducePow, Nat.reduceAdd, Nat.reduceSub, Nat.reduceLT, Nat.reduceMul, Nat.reduceDiv, Nat.reduceEqDiff, Nat.reduceLeDiff, KT w, KI, hw.KF, htm, t0, t3, t4]
  have hst : ∀ b, s[i]? = some b → b = 32 ∨ b = 59 := fun b hb => by
    by_cases h1 : b = 32
    · exact .inl h1
    · by_cases h2 : b = 59
      · exact .inr h2
      · exact absurd ⟨b, hb, h1, h2⟩ hgo
  clear hgo
  refine W.mono (Q := fun ex fr S' => ex = .nrm ∧ S' = S ∧ ∃ tm, fr = ⟨tm, [], none, 21⟩ ∧ tm.length = 58 ∧ tget tm 0 = .str s ∧ tget tm 3 = v ∧ tget tm 4 = .int .i64 (f : Nat) ∧ tget tm 5 = .int .i64 (i : Nat) ∧ tget tm 27 = .bool false) ?_ ?_
  · by_cases hin2 : i < s.length
    · have hil2 : (i : Int) < (s.length : Int) := by omega
      obtain ⟨b, hb⟩ : ∃ b, s[i]? = some b := ⟨_, List.getElem?_eq_getElem hin2⟩
      rcases hst b hb with rfl | rfl
      · have hx : (((32 : UInt8).toNat : Nat) : Int) = 32 := rfl
        refine W_region fun K hK => ?_
        simp only [KA, KB, KP, KQ, reduceCtorEq, ↓reduceIte, Int.reduceLT, Int.reduceLE, Int.reduceAdd, Int.reduceSub, Int.reduceNeg, Int.reduceMul, Int.reduceToNat, Int.reduceEq, Int.reduceNe, Int.reduceGT, Int.reduceGE, Nat.reducePow, Nat.reduceAdd, Nat.reduceSub, Nat.reduceLT, Nat.reduceMul, Nat.reduceDiv, Nat.reduceEqDiff, Nat.reduceLeDiff, KT w, KI, hw.KF, htm, t0, t5, hil2, hi0, hb, hx]
        refine hK _ _ ?_
        clear hK
        clear K
        refine ⟨rfl, rfl, _, rfl, ?_⟩
        simp only [KA, KP, KQ, reduceCtorEq, ↓reduceIte, Int.reduceLT, Int.reduceLE, Int.reduceAdd, Int.reduceSub, Int.reduceNeg, Int.reduceMul, Int.reduceToNat, Int.reduceEq, Int.reduceNe, Int.reduceGT, Int.reduceGE, Nat.reducePow, Nat.reduceAdd, Nat.reduceSub, Nat.reduceLT, Nat.reduceMul, Nat.reduceDiv, Nat.reduceEqDiff, Nat.reduceLeDiff, KT w, KI, hw.KF, htm, t0, t3, t4, t5]
      · have hx : (((59 : UInt8).toNat : Nat) : Int) = 59 := rfl
        refine W_region fun K hK => ?_
        simp only [KA, KB, KP, KQ, reduceCtorEq, ↓reduceIte, Int.reduceLT, Int.reduceLE, Int.reduceAdd, Int.reduceSub, Int.reduceNeg, Int.reduceMul, Int.reduceToNat, Int.reduceEq, Int.reduceNe, Int.reduceGT, Int.reduceGE, Nat.reducePow, Nat.reduceAdd, Nat.reduceSub, Nat.reduceLT, Nat.reduceMul, Nat.reduceDiv, Nat.reduceEqDiff, Nat.reduceLeDiff, KT w, KI, hw.KF, htm, t0, t5, hil2, hi0, hb, hx]
        refine hK _ _ ?_
        clear hK
        clear K
        refine ⟨rfl, rfl, _, rfl, ?_⟩
        simp only [KA, KP, KQ, reduceCtorEq, ↓reduceIte, Int.reduceLT, Int.reduceLE, Int.reduceAdd, Int.reduceSub, Int.reduceNeg, Int.reduceMul, Int.reduceToNat, Int.reduceEq, Int.reduceNe, Int.reduceGT, Int.reduceGE, Nat.reducePow, Nat.reduceAdd, Nat.reduceSub, Nat.reduceLT, Nat.reduceMul, Nat.reduceDiv, Nat.reduceEqDiff, Nat.reduceLeDiff, KT w, KI, hw.KF, htm, t0, t3, t4, t5]
    · have hil2 : ¬ (i : Int) < (s.length : Int) := by omega
      refine W_region fun K hK => ?_
      simp only [KA, KB, KP, KQ, reduceCtorEq, ↓reduceIte, Int.reduceLT, Int.reduceLE, Int.reduceAdd, Int.reduceSub, Int.reduceNeg, Int.reduceMul, Int.reduceToNat, Int.reduceEq, Int.reduceNe, Int.reduceGT, Int.reduceGE, Nat.reducePow, Nat.reduceAdd, Nat.reduceSub, Nat.reduceLT, Nat.reduceMul, Nat.reduceDiv, Nat.reduceEqDiff, Nat.reduceLeDiff, KT w, KI, hw.KF, htm, t0, t5, hil2, hi0]
      refine hK _ _ ?_
      clear hK
      clear K
      refine ⟨rfl, rfl, _, rfl, ?_⟩
      simp only [KA, KP, KQ, reduceCtorEq, ↓reduceIte, Int.reduceLT, Int.reduceLE, Int.reduceAdd, Int.reduceSub, Int.reduceNeg, Int.reduceMul, Int.reduceToNat, Int.reduceEq, Int.reduceNe, Int.reduceGT, Int.reduceGE, Nat.reducePow, Nat.reduceAdd, Nat.reduceSub, Nat.reduceLT, Nat.reduceMul, Nat.reduceDiv, Nat.reduceEqDiff, Nat.reduceLeDiff, KT w, KI, hw.KF, htm, t0, t3, t4, t5]
  clear htm t0 t3 t4 t5 tm
  rintro ex fr S' ⟨rfl, rfl, tm, rfl, htm, t0, t3, t4, t5, t27⟩
  repeat with_reducible (first | refine E0 ?_ | refine E1 ?_ | refine E2 ?_ | refine E3 ?_ | refine E4 ?_ | refine E5 (by decide) ?_ | refine E6 ?_ | refine E7 ?_ | refine E8 ?_ | refine E9 ?_ | refine Ea ?_ | refine Eb ?_ | refine Ec ?_ | refine Ed ?_)
  refine W_condF (by simp only [KA, KP, KQ, reduceCtorEq, ↓reduceIte, Int.reduceLT, Int.reduceLE, Int.reduceAdd, Int.reduceSub, Int.reduceNeg, Int.reduceMul, Int.reduceToNat, Int.reduceEq, Int.reduceNe, Int.reduceGT, Int.reduceGE, Nat.reducePow, Nat.reduceAdd, Nat.reduceSub, Nat.reduceLT, Nat.reduceMul, Nat.reduceDiv, Nat.reduceEqDiff, Nat.reduceLeDiff, KT w, KI, hw.KF, htm, t27]) ?_
  repeat with_reducible (first | refine E0 ?_ | refine E1 ?_ | refine E2 ?_ | refine E3 ?_ | refine E4 ?_ | refine E5 (by decide) ?_ | refine E6 ?_ | refine E7 ?_ | refine E8 ?_ | refine E9 ?_ | refine Ea ?_ | refine Eb ?_ | refine Ec ?_ | refine Ed ?_)
  refine W_region fun K hK => ?_
  simp only [KA, KB, KP, KQ, reduceCtorEq, ↓reduceIte, Int.reduceLT, Int.reduceLE, Int.reduceAdd, Int.reduceSub, Int.reduceNeg, Int.reduceMul, Int.reduceToNat, Int.reduceEq, Int.reduceNe, Int.reduceGT, Int.reduceGE, Nat.reducePow, Nat.reduceAdd, Nat.reduceSub, Nat.reduceLT, Nat.reduceMul, Nat.reduceDiv, Nat.reduceEqDiff, Nat.reduceLeDiff, KT w, KI, hw.KF, htm, t4, t5]
  refine hK _ _ ?_
  clear hK
  clear K
  repeat with_reducible (first | refine E0 ?_ | refine E1 ?_ | refine E2 ?_ | refine E3 ?_ | refine E4 ?_ | refine E5 (by decide) ?_ | refine E6 ?_ | refine E7 ?_ | refine E8 ?_ | refine E9 ?_ | refine Ea ?_ | refine Eb ?_ | refine Ec ?_ | refine Ed ?_)
  obtain ⟨D1, hD1⟩ : ∃ D1, D ++ (if C = [] then [] else [(f, C)]) = D1 := ⟨_, rfl⟩
  have hlD : D.length + 2 ≤ 4000000000 := by
    have := congrArg List.length hD'
    simp only [List.length_append] at this
    omega
  refine W.mono (Q := MidW s D1 f i) ?_ ?_
  · by_cases hlt : (f : Int) < (i : Int)
    · have hCne : C ≠ [] := fun h => by subst h; simp at hcl; omega
      rw [if_neg hCne] at hD1
      have hil3 : (i : Int) ≤ (s.length : Int) := hil
      have hfl : (f : Int) ≤ (s.length : Int) := by omega
      refine W_condT (by simp only [KA, KP, KQ, reduceCtorEq, ↓reduceIte, Int.reduceLT, Int.reduceLE, Int.reduceAdd, Int.reduceSub, Int.reduceNeg, Int.reduceMul, Int.reduceToNat, Int.reduceEq, Int.reduceNe, Int.reduceGT, Int.reduceGE, Nat.reducePow, Nat.reduceAdd, Nat.reduceSub, Nat.reduceLT, Nat.reduceMul, Nat.reduceDiv, Nat.reduceEqDiff, Nat.reduceLeDiff, KT w, KI, hw.KF, htm, hlt]) ?_
      repeat with_reducible (first | refine E0 ?_ | refine E1 ?_ | refine E2 ?_ | refine E3 ?_ | refine E4 ?_ | refine E5 (by decide) ?_ | refine E6 ?_ | refine E7 ?_ | refine E8 ?_ | refine E9 ?_ | refine Ea ?_ | refine Eb ?_ | refine Ec ?_ | refine Ed ?_)
      rcases hv with ⟨hr0, rfl⟩ | ⟨hr0, o, g, rfl, ho, hg⟩
      · have hD0 : D = [] := by cases D with | nil => rfl | cons _ _ => simp [wrows] at hr0
        refine W_region fun K hK => ?_
        simp only [KA, KB, KP, KQ, reduceCtorEq, ↓reduceIte, Int.reduceLT, Int.reduceLE, Int.reduceAdd, Int.reduceSub, Int.reduceNeg, Int.reduceMul, Int.reduceToNat, Int.reduceEq, Int.reduceNe, Int.reduceGT, Int.reduceGE, Nat.reducePow, Nat.reduceAdd, Nat.reduceSub, Nat.reduceLT, Nat.reduceMul, Nat.reduceDiv, Nat.reduceEqDiff, Nat.reduceLeDiff, KT w, KI, hw.KF, htm, t0, t3, t4, t5, hi0, hf0, hfi', hil3, hfl, hC, splice]
        refine hK _ _ ?_
        clear hK
        clear K
        refine ⟨rfl, St.ok_push hok, by rw [St.pushB]; exact hbs, _, .own (wrows D1) S'.n 0, rfl, .inr ⟨by rw [← hD1]; simp [wrows], S'.n, 0, rfl, by rw [St.pushN]; omega, St.get_pushe⟩, ?_⟩
        rw [← hD1, hD0]
        simp only [KA, KP, KQ, reduceCtorEq, ↓reduceIte, Int.reduceLT, Int.reduceLE, Int.reduceAdd, Int.reduceSub, Int.reduceNeg, Int.reduceMul, Int.reduceToNat, Int.reduceEq, Int.reduceNe, Int.reduceGT, Int.reduceGE, Nat.reducePow, Nat.reduceAdd, Nat.reduceSub, Nat.reduceLT, Nat.reduceMul, Nat.reduceDiv, Nat.reduceEqDiff, Nat.reduceLeDiff, KT w, KI, hw.KF, htm, t0, t4, t5, wrows, wrow, List.map_cons, List.map_nil]
      · have hDne := wrows_ne.1 hr0
        have hemp := wrows_emp hDne
        have hhd := wrows_hd D
        have hlen := wrows_len D
        have hcap : (((D.length + 1 + (D.length + 1) / 4 + 1000) * 24 ≤ 281474976710656) = True) := by simp; omega
        refine W_region fun K hK => ?_
        simp only [KA, KB, KP, KQ, reduceCtorEq, ↓reduceIte, Int.reduceLT, Int.reduceLE, Int.reduceAdd, Int.reduceSub, Int.reduceNeg, Int.reduceMul, Int.reduceToNat, Int.reduceEq, Int.reduceNe, Int.reduceGT, Int.reduceGE, Nat.reducePow, Nat.reduceAdd, Nat.reduceSub, Nat.reduceLT, Nat.reduceMul, Nat.reduceDiv, Nat.reduceEqDiff, Nat.reduceLeDiff, KT w, KI, hw.KF, htm, t0, t3, t4, t5, hi0, hf0, hfi', hil3, hfl, hC, hg, hemp, hhd, hlen, hok, hbs, ho, hcap, splice]
        refine hK _ _ ?_
        clear hK
        clear K
        refine ⟨rfl, St.ok_set hok, by rw [St.setB]; exact hbs, _, .own (wrows D1) o (g + 1), rfl, .inr ⟨by rw [← hD1]; simp [wrows], o, g + 1, rfl, by rw [St.setN]; omega, St.get_sete hok ho⟩, ?_⟩
        rw [← hD1, ← wrows_snoc]
        simp only [KA, KP, KQ, reduceCtorEq, ↓reduceIte, Int.reduceLT, Int.reduceLE, Int.reduceAdd, Int.reduceSub, Int.reduceNeg, Int.reduceMul, Int.reduceToNat, Int.reduceEq, Int.reduceNe, Int.reduceGT, Int.reduceGE, Nat.reducePow, Nat.reduceAdd, Nat.reduceSub, Nat.reduceLT, Nat.reduceMul, Nat.reduceDiv, Nat.reduceEqDiff, Nat.reduceLeDiff, KT w, KI, hw.KF, htm, t0, t4, t5]
    · have hC0 : C = [] := List.length_eq_zero_iff.1 (by omega)
      rw [if_pos hC0, List.append_nil] at hD1
      subst hD1
      refine W_condF (by simp only [KA, KP, KQ, reduceCtorEq, ↓reduceIte, Int.reduceLT, Int.reduceLE, Int.reduceAdd, Int.reduceSub, Int.reduceNeg, Int.reduceMul, Int.reduceToNat, Int.reduceEq, Int.reduceNe, Int.reduceGT, Int.reduceGE, Nat.reducePow, Nat.reduceAdd, Nat.reduceSub, Nat.reduceLT, Nat.reduceMul, Nat.reduceDiv, Nat.reduceEqDiff, Nat.reduceLeDiff, KT w, KI, hw.KF, htm, hlt]) ?_
      repeat with_reducible (first | refine E0 ?_ | refine E1 ?_ | refine E2 ?_ | refine E3 ?_ | refine E4 ?_ | refine E5 (by decide) ?_ | refine E6 ?_ | refine E7 ?_ | refine E8 ?_ | refine E9 ?_ | refine Ea ?_ | refine Eb ?_ | refine Ec ?_ | refine Ed ?_)
      exact ⟨rfl, hok, hbs, _, v, rfl, hv, (by simp only [KA, KP, KQ, reduceCtorEq, ↓reduceIte, Int.reduceLT, Int.reduceLE, Int.reduceAdd, Int.reduceSub, Int.reduceNeg, Int.reduceMul, Int.reduceToNat, Int.reduceEq, Int.reduceNe, Int.reduceGT, Int.reduceGE, Nat.reducePow, Nat.reduceAdd, Nat.reduceSub, Nat.reduceLT, Nat.reduceMul, Nat.reduceDiv, Nat.reduceEqDiff, Nat.reduceLeDiff, KT w, KI, hw.KF, htm, t0, t3, t4, t5])⟩
  clear htm t0 t3 t4 t5 hv hok hbs t27 tm
  rintro ex fr S ⟨rfl, hok, hbs, tm, v, rfl, hv, htm, t0, t3, t4, t5⟩
  repeat with_reducible (first | refine E0 ?_ | refine E1 ?_ | refine E2 ?_ | refine E3 ?_ | refine E4 ?_ | refine E5 (by decide) ?_ | refine E6 ?_ | refine E7 ?_ | refine E8 ?_ | refine E9 ?_ | refine Ea ?_ | refine Eb ?_ | refine Ec ?_ | refine Ed ?_)
  have hlD1 : D1.length + 1 ≤ 4000000000 := by
    rw [← hD1]
    simp only [List.length_append]
    split <;> simp <;> omega
  obtain ⟨D2, hD2⟩ : ∃ D2, D1 ++ (if s[i]? = some 59 then [(i, [59])] else []) = D2 := ⟨_, rfl⟩
  have hfin : (i + 1 ≤ s.length ∧ D2 ++ tok (i + 1) ((s.drop (i + 1)).take (i + 1 - (i + 1))) (s.drop (i + 1)) = T) ∨ (i + 1 = s.length + 1 ∧ D2 = T) := by
    by_cases hin2 : i < s.length
    · obtain ⟨b, hb⟩ : ∃ b, s[i]? = some b := ⟨_, List.getElem?_eq_getElem hin2⟩
      have hd : s.drop i = b :: s.drop (i + 1) := by
        rw [List.drop_eq_getElem_cons hin2]
        rw [List.getElem?_eq_getElem hin2] at hb
        simp only [Option.some.injEq] at hb; rw [hb]
      refine .inl ⟨by omega, ?_⟩
      have hfc : f + C.length = i := by omega
      rw [← hD', ← hD2, ← hD1, hd, tok, hfc, hb, Nat.sub_self, List.take_zero]
      rcases hst b hb with rfl | rfl
      · simp
      · simp
    · refine .inr ⟨by omega, ?_⟩
      have hdn : s.drop i = [] := List.drop_eq_nil_of_le (by omega)
      have hgn : s[i]? = none := List.getElem?_eq_none (by omega)
      rw [← hD', ← hD2, ← hD1, hdn, tok, hgn]
      simp
  refine W.mono (Q := fun ex fr S' => ex = .nrm ∧ S' = S ∧ ∃ tm, fr = ⟨tm, [], none, 21⟩ ∧ tm.length = 58 ∧ tget tm 0 = .str s ∧ tget tm 3 = v ∧ tget tm 5 = .int .i64 (i : Nat) ∧ tget tm 49 = .bool (decide (s[i]? = some 59))) ?_ ?_
  · by_cases hin2 : i < s.length
    · have hil2 : (i : Int) < (s.length : Int) := by omega
      obtain ⟨b, hb⟩ : ∃ b, s[i]? = some b := ⟨_, List.getElem?_eq_getElem hin2⟩
      rcases hst b hb with rfl | rfl
      · have hx : (((32 : UInt8).toNat : Nat) : Int) = 32 := rfl
        have hq : decide (s[i]? = some 59) = false := by rw [hb]; rfl
        rw [hq]
        refine W_region fun K hK => ?_
        simp only [KA, KB, KP, KQ, reduceCtorEq, ↓reduceIte, Int.reduceLT, Int.reduceLE, Int.reduceAdd, Int.reduceSub, Int.reduceNeg, Int.reduceMul, Int.reduceToNat, Int.reduceEq, Int.reduceNe, Int.reduceGT, Int.reduceGE, Nat.reducePow, Nat.reduceAdd, Nat.reduceSub, Nat.reduceLT, Nat.reduceMul, Nat.reduceDiv, Nat.reduceEqDiff, Nat.reduceLeDiff, KT w, KI, hw.KF, htm, t0, t5, hil2, hi0, hb, hx]
        refine hK _ _ ?_
        clear hK
        clear K
        refine ⟨rfl, rfl, _, rfl, ?_⟩
        simp only [KA, KP, KQ, reduceCtorEq, ↓reduceIte, Int.reduceLT, Int.reduceLE, Int.reduceAdd, Int.reduceSub, Int.reduceNeg, Int.reduceMul, Int.reduceToNat, Int.reduceEq, Int.reduceNe, Int.reduceGT, Int.reduceGE, Nat.reducePow, Nat.reduceAdd, Nat.reduceSub, Nat.reduceLT, Nat.reduceMul, Nat.reduceDiv, Nat.reduceEqDiff, Nat.reduceLeDiff, KT w, KI, hw.KF, htm, t0, t3, t5]
      · have hx : (((59 : UInt8).toNat : Nat) : Int) = 59 := rfl
        have hq : decide (s[i]? = some 59) = true := by rw [hb]; rfl
        rw [hq]
        refine W_region fun K hK => ?_
        simp only [KA, KB, KP, KQ, reduceCtorEq, ↓reduceIte, Int.reduceLT, Int.reduceLE, Int.reduceAdd, Int.reduceSub, Int.reduceNeg, Int.reduceMul, Int.reduceToNat, Int.reduceEq, Int.reduceNe, Int.reduceGT, Int.reduceGE, Nat.reducePow, Nat.reduceAdd, Nat.reduceSub, Nat.reduceLT, Nat.reduceMul, Nat.reduceDiv, Nat.reduceEqDiff, Nat.reduceLeDiff, KT w, KI, hw.KF, htm, t0, t5, hil2, hi0, hb, hx]
        refine hK _ _ ?_
        clear hK
        clear K
        refine ⟨rfl, rfl, _, rfl, ?_⟩
        simp only [KA, KP, KQ, reduceCtorEq, ↓reduceIte, Int.reduceLT, Int.reduceLE, Int.reduceAdd, Int.reduceSub, Int.reduceNeg, Int.reduceMul, Int.reduceToNat, Int.reduceEq, Int.reduceNe, Int.reduceGT, Int.reduceGE, Nat.reducePow, Nat.reduceAdd, Nat.reduceSub, Nat.reduceLT, Nat.reduceMul, Nat.reduceDiv, Nat.reduceEqDiff, Nat.reduceLeDiff, KT w, KI, hw.KF, htm, t0, t3, t5]
    · have hil2 : ¬ (i : Int) < (s.length : Int) := by omega
      have hq : decide (s[i]? = some 59) = false := by rw [List.getElem?_eq_none (by omega)]; rfl
      rw [hq]
      refine W_region fun K hK => ?_
      simp only [KA, KB, KP, KQ, reduceCtorEq, ↓reduceIte, Int.reduceLT, Int.reduceLE, Int.reduceAdd, Int.reduceSub, Int.reduceNeg, Int.reduceMul, Int.reduceToNat, Int.reduceEq, Int.reduceNe, Int.reduceGT, Int.reduceGE, Nat.reducePow, Nat.reduceAdd, Nat.reduceSub, Nat.reduceLT, Nat.reduceMul, Nat.reduceDiv, Nat.reduceEqDiff, Nat.reduceLeDiff, KT w, KI, hw.KF, htm, t0, t5, hil2, hi0]
      refine hK _ _ ?_
      clear hK
      clear K
      refine ⟨rfl, rfl, _, rfl, ?_⟩
      simp only [KA, KP, KQ, reduceCtorEq, ↓reduceIte, Int.reduceLT, Int.reduceLE, Int.reduceAdd, Int.reduceSub, Int.reduceNeg, Int.reduceMul, Int.reduceToNat, Int.reduceEq, Int.reduceNe, Int.reduceGT, Int.reduceGE, Nat.reducePow, Nat.reduceAdd, Nat.reduceSub, Nat.reduceLT, Nat.reduceMul, Nat.reduceDiv, Nat.reduceEqDiff, Nat.reduceLeDiff, KT w, KI, hw.KF, htm, t0, t3, t5]
  clear htm t0 t3 t4 t5 tm
  rintro ex fr S' ⟨rfl, rfl, tm, rfl, htm, t0, t3, t5, t49⟩
  repeat with_reducible (first | refine E0 ?_ | refine E1 ?_ | refine E2 ?_ | refine E3 ?_ | refine E4 ?_ | refine E5 (by decide) ?_ | refine E6 ?_ | refine E7 ?_ | refine E8 ?_ | refine E9 ?_ | refine Ea ?_ | refine Eb ?_ | refine Ec ?_ | refine Ed ?_)
  refine W.mono (Q := fun ex fr S => ex = .nrm ∧ S.ok ∧ S.base = 0 ∧ ∃ (tm : List AV) (v : AV), fr = ⟨tm, [], none, 21⟩ ∧ Ow (wrows D2) v S ∧ tm.length = 58 ∧ tget tm 0 = .str s ∧ tget tm 3 = v ∧ tget tm 5 = .int .i64 (i : Nat)) ?_ ?_
  · by_cases h59 : s[i]? = some 59
    · rw [if_pos h59] at hD2
      rw [decide_eq_true h59] at t49
      refine W_condT (by simp only [KA, KP, KQ, reduceCtorEq, ↓reduceIte, Int.reduceLT, Int.reduceLE, Int.reduceAdd, Int.reduceSub, Int.reduceNeg, Int.reduceMul, Int.reduceToNat, Int.reduceEq, Int.reduceNe, Int.reduceGT, Int.reduceGE, Nat.reducePow, Nat.reduceAdd, Nat.reduceSub, Nat.reduceLT, Nat.reduceMul, Nat.reduceDiv, Nat.reduceEqDiff, Nat.reduceLeDiff, KT w, KI, hw.KF, htm, t49]) ?_
      repeat with_reducible (first | refine E0 ?_ | refine E1 ?_ | refine E2 ?_ | refine E3 ?_ | refine E4 ?_ | refine E5 (by decide) ?_ | refine E6 ?_ | refine E7 ?_ | refine E8 ?_ | refine E9 ?_ | refine Ea ?_ | refine Eb ?_ | refine Ec ?_ | refine Ed ?_)
      rcases hv with ⟨hr0, rfl⟩ | ⟨hr0, o, g, rfl, ho, hg⟩
      · refine W_region fun K hK => ?_
        simp only [KA, KB, KP, KQ, reduceCtorEq, ↓reduceIte, Int.reduceLT, Int.reduceLE, Int.reduceAdd, Int.reduceSub, Int.reduceNeg, Int.reduceMul, Int.reduceToNat, Int.reduceEq, Int.reduceNe, Int.reduceGT, Int.reduceGE, Nat.reducePow, Nat.reduceAdd, Nat.reduceSub, Nat.reduceLT, Nat.reduceMul, Nat.reduceDiv, Nat.reduceEqDiff, Nat.reduceLeDiff, KT w, KI, hw.KF, htm, t3, t5, splice]
        refine hK _ _ ?_
        clear hK
        clear K
        refine ⟨rfl, St.ok_push hok, by rw [St.pushB]; exact hbs, _, .own (wrows D2) S'.n 0, rfl, .inr ⟨by rw [← hD2]; simp [wrows], S'.n, 0, rfl, by rw [St.pushN]; omega, St.get_pushe⟩, ?_⟩
        have hD0 : D1 = [] := by cases D1 with | nil => rfl | cons _ _ => simp [wrows] at hr0
        rw [← hD2, hD0]
        simp only [KA, KP, KQ, reduceCtorEq, ↓reduceIte, Int.reduceLT, Int.reduceLE, Int.reduceAdd, Int.reduceSub, Int.reduceNeg, Int.reduceMul, Int.reduceToNat, Int.reduceEq, Int.reduceNe, Int.reduceGT, Int.reduceGE, Nat.reducePow, Nat.reduceAdd, Nat.reduceSub, Nat.reduceLT, Nat.reduceMul, Nat.reduceDiv, Nat.reduceEqDiff, Nat.reduceLeDiff, KT w, KI, hw.KF, htm, t0, t5, wrows, wrow, List.map_cons, List.map_nil]
      · have hDne := wrows_ne.1 hr0
        have hemp := wrows_emp hDne
        have hhd := wrows_hd D1
        have hlen := wrows_len D1
        have hcap : (((D1.length + 1 + (D1.length + 1) / 4 + 1000) * 24 ≤ 281474976710656) = True) := by simp; omega
        refine W_region fun K hK => ?_
        simp only [KA, KB, KP, KQ, reduceCtorEq, ↓reduceIte, Int.reduceLT, Int.reduceLE, Int.reduceAdd, Int.reduceSub, Int.reduceNeg, Int.reduceMul, Int.reduceToNat, Int.reduceEq, Int.reduceNe, Int.reduceGT, Int.reduceGE, Nat.reducePow, Nat.reduceAdd, Nat.reduceSub, Nat.reduceLT, Nat.reduceMul, Nat.reduceDiv, Nat.reduceEqDiff, Nat.reduceLeDiff, KT w, KI, hw.KF, htm, t3, t5, hg, hemp, hhd, hlen, hok, hbs, ho, hcap, splice]
        refine hK _ _ ?_
        clear hK
        clear K
        refine ⟨rfl, St.ok_set hok, by rw [St.setB]; exact hbs, _, .own (wrows D2) o (g + 1), rfl, .inr ⟨by rw [← hD2]; simp [wrows], o, g + 1, rfl, by rw [St.setN]; omega, St.get_sete hok ho⟩, ?_⟩
        rw [← hD2, ← wrows_snoc]
        simp only [KA, KP, KQ, reduceCtorEq, ↓reduceIte, Int.reduceLT, Int.reduceLE, Int.reduceAdd, Int.reduceSub, Int.reduceNeg, Int.reduceMul, Int.reduceToNat, Int.reduceEq, Int.reduceNe, Int.reduceGT, Int.reduceGE, Nat.reducePow, Nat.reduceAdd, Nat.reduceSub, Nat.reduceLT, Nat.reduceMul, Nat.reduceDiv, Nat.reduceEqDiff, Nat.reduceLeDiff, KT w, KI, hw.KF, htm, t0, t5]
    · rw [if_neg h59, List.append_nil] at hD2
      subst hD2
      rw [decide_eq_false h59] at t49
      refine W_condF (by simp only [KA, KP, KQ, reduceCtorEq, ↓reduceIte, Int.reduceLT, Int.reduceLE, Int.reduceAdd, Int.reduceSub, Int.reduceNeg, Int.reduceMul, Int.reduceToNat, Int.reduceEq, Int.reduceNe, Int.reduceGT, Int.reduceGE, Nat.reducePow, Nat.reduceAdd, Nat.reduceSub, Nat.reduceLT, Nat.reduceMul, Nat.reduceDiv, Nat.reduceEqDiff, Nat.reduceLeDiff, KT w, KI, hw.KF, htm, t49]) ?_
      repeat with_reducible (first | refine E0 ?_ | refine E1 ?_ | refine E2 ?_ | refine E3 ?_ | refine E4 ?_ | refine E5 (by decide) ?_ | refine E6 ?_ | refine E7 ?_ | refine E8 ?_ | refine E9 ?_ | refine Ea ?_ | refine Eb ?_ | refine Ec ?_ | refine Ed ?_)
      exact ⟨rfl, hok, hbs, _, v, rfl, hv, (by simp only [KA, KP, KQ, reduceCtorEq, ↓reduceIte, Int.reduceLT, Int.reduceLE, Int.reduceAdd, Int.reduceSub, Int.reduceNeg, Int.reduceMul, Int.reduceToNat, Int.reduceEq, Int.reduceNe, Int.reduceGT, Int.reduceGE, Nat.reducePow, Nat.reduceAdd, Nat.reduceSub, Nat.reduceLT, Nat.reduceMul, Nat.reduceDiv, Nat.reduceEqDiff, Nat.reduceLeDiff, KT w, KI, hw.KF, htm, t0, t3, t5])⟩
  clear htm t0 t3 t5 hv hok hbs t49 tm
  rintro ex fr S ⟨rfl, hok, hbs, tm, v, rfl, hv, htm, t0, t3, t5⟩
  repeat with_reducible (first | refine E0 ?_ | refine E1 ?_ | refine E2 ?_ | refine E3 ?_ | refine E4 ?_ | refine E5 (by decide) ?_ | refine E6 ?_ | refine E7 ?_ | refine E8 ?_ | refine E9 ?_ | refine Ea ?_ | refine Eb ?_ | refine Ec ?_ | refine Ed ?_)
  refine W_region fun K hK => ?_
  simp only [KA, KB, KP, KQ, reduceCtorEq, ↓reduceIte, Int.reduceLT, Int.reduceLE, Int.reduceAdd, Int.reduceSub, Int.reduceNeg, Int.reduceMul, Int.reduceToNat, Int.reduceEq, Int.reduceNe, Int.reduceGT, Int.reduceGE, Nat.reducePow, Nat.reduceAdd, Nat.reduceSub, Nat.reduceLT, Nat.reduceMul, Nat.reduceDiv, Nat.reduceEqDiff, Nat.reduceLeDiff, KT w, KI, hw.KF, htm, t5, eI]
  refine hK _ _ ?_
  clear hK
  clear K
  repeat with_reducible (first | refine E0 ?_ | refine E1 ?_ | refine E2 ?_ | refine E3 ?_ | refine E4 ?_ | refine E5 (by decide) ?_ | refine E6 ?_ | refine E7 ?_ | refine E8 ?_ | refine E9 ?_ | refine Ea ?_ | refine Eb ?_ | refine Ec ?_ | refine Ed ?_)
  refine W_region fun K hK => ?_
  simp only [KA, KB, KP, KQ, reduceCtorEq, ↓reduceIte, Int.reduceLT, Int.reduceLE, Int.reduceAdd, Int.reduceSub, Int.reduceNeg, Int.reduceMul, Int.reduceToNat, Int.reduceEq, Int.reduceNe, Int.reduceGT, Int.reduceGE, Nat.reducePow, Nat.reduceAdd, Nat.reduceSub, Nat.reduceLT, Nat.reduceMul, Nat.reduceDiv, Nat.reduceEqDiff, Nat.reduceLeDiff, KT w, KI, hw.KF, htm, t5, eI]
  refine hK _ _ ?_
  clear hK
  clear K
  refine ⟨s.length + 1 - (i + 1), by omega, hok, hbs, _, i + 1, i + 1, D2, v, rfl, rfl, by omega, by omega, hv, hfin, ?_⟩
  simp only [KA, KP, KQ, reduceCtorEq, ↓reduceIte, Int.reduceLT, Int.reduceLE, Int.reduceAdd, Int.reduceSub, Int.reduceNeg, Int.reduceMul, Int.reduceToNat, Int.reduceEq, Int.reduceNe, Int.reduceGT, Int.reduceGE, Nat.reducePow, Nat.reduceAdd, Nat.reduceSub, Nat.reduceLT, Nat.reduceMul, Nat.reduceDiv, Nat.reduceEqDiff, Nat.reduceLeDiff, KT w, KI, hw.KF, htm, t0, t3]
end Go.Am.V
