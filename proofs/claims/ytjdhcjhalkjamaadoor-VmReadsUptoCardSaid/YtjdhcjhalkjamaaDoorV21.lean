/- WHAT THE DOCUMENT'S READER SAYS, PLAINLY; IT IS WHAT THE PROGRAM'S SAYS. -/
import Derived.Test.YtjdhcjhalkjamaaDoorV20
set_option linter.unusedSimpArgs false
set_option linter.unusedVariables false
namespace Go.Am.V
open Go.Proofs

/-- A number's digits, one after another. -/
def numG : Nat → Int → List UInt8 → Option Int
  | _, n, [] => some n
  | i, n, b :: bs => if b.toNat < 48 ∨ 57 < b.toNat ∨ 3 ≤ i then none else numG (i + 1) (n * 10 + ((b.toNat : Int) - 48)) bs
def numL (wd : List UInt8) : Int × Bool :=
  match numG 0 0 wd with
  | none => (0, false)
  | some n => (n, decide (wd ≠ []) && (decide (n ≤ 255) && (decide (wd.head? ≠ some 48) || decide (wd.length = 1))))

theorem numG_some : ∀ (l : List UInt8) (i : Nat) (n m : Int), numG i n l = some m → (∀ b ∈ l, 48 ≤ b.toNat ∧ b.toNat ≤ 57) ∧ (l = [] ∨ i + l.length ≤ 3)
  | [], _, _, _, _ => ⟨fun b h => by simp at h, .inl rfl⟩
  | b :: bs, i, n, m, h => by
    unfold numG at h
    split at h
    · cases h
    · rename_i hb
      have ih := numG_some bs _ _ _ h
      refine ⟨fun c hc => ?_, .inr ?_⟩
      · rcases List.mem_cons.1 hc with rfl | hc
        · omega
        · exact ih.1 c hc
      · rcases ih.2 with rfl | h2
        · simp only [List.length_cons, List.length_nil]; omega
        · simp only [List.length_cons]; omega

def ckN (wd : List UInt8) : Bool := !(numL wd).2 || decide (numW wd = some (numL wd).1)
def dgt (k : Nat) : UInt8 := UInt8.ofNat (48 + k)
theorem ck1 : (List.range 10).all (fun a => ckN [dgt a]) = true := by decide +kernel
theorem ck2 : (List.range 10).all (fun a => (List.range 10).all fun b => ckN [dgt a, dgt b]) = true := by decide +kernel
theorem ck3 : (List.range 10).all (fun a => (List.range 10).all fun b => (List.range 10).all fun c => ckN [dgt a, dgt b, dgt c]) = true := by decide +kernel
theorem numL_all : (List.range 256).all (fun n => (numL (dig n)).2) = true := by decide +kernel
theorem dgt_of {b : UInt8} (h : 48 ≤ b.toNat ∧ b.toNat ≤ 57) : ∃ k, k < 10 ∧ b = dgt k := by
  refine ⟨b.toNat - 48, by omega, ?_⟩
  unfold dgt
  apply UInt8.toNat_inj.1
  have : 48 + (b.toNat - 48) = b.toNat := by omega
  rw [this]; simp

theorem numW_numL (wd : List UInt8) : numW wd = if (numL wd).2 = true then some (numL wd).1 else none := by
  by_cases h : (numL wd).2 = true
  · rw [if_pos h]
    have hck : ckN wd = true := by
      have h' := h
      unfold numL at h
      cases hg : numG 0 0 wd with
      | none => rw [hg] at h; cases h
      | some m =>
        rw [hg] at h
        simp only [Bool.and_eq_true, decide_eq_true_eq] at h
        obtain ⟨h1, h2⟩ := numG_some _ _ _ _ hg
        match wd, h, h1, h2 with
        | [], h, _, _ => exact absurd rfl h.1
        | [a], _, h1, _ =>
          obtain ⟨x, hx, rfl⟩ := dgt_of (h1 a (by simp))
          exact List.all_eq_true.1 ck1 x (List.mem_range.2 hx)
        | [a, b], _, h1, _ =>
          obtain ⟨x, hx, rfl⟩ := dgt_of (h1 a (by simp))
          obtain ⟨y, hy, rfl⟩ := dgt_of (h1 b (by simp))
          exact List.all_eq_true.1 (List.all_eq_true.1 ck2 x (List.mem_range.2 hx)) y (List.mem_range.2 hy)
        | [a, b, c], _, h1, _ =>
          obtain ⟨x, hx, rfl⟩ := dgt_of (h1 a (by simp))
          obtain ⟨y, hy, rfl⟩ := dgt_of (h1 b (by simp))
          obtain ⟨z, hz, rfl⟩ := dgt_of (h1 c (by simp))
          exact List.all_eq_true.1 (List.all_eq_true.1 (List.all_eq_true.1 ck3 x (List.mem_range.2 hx)) y (List.mem_range.2 hy)) z (List.mem_range.2 hz)
        | a :: b :: c :: d :: r, _, _, h2 =>
          rcases h2 with h2 | h2
          · cases h2
          · simp only [List.length_cons] at h2; omega
    unfold ckN at hck
    rw [h] at hck
    simpa using hck
  · rw [if_neg h]
    cases hn : numW wd with
    | none => rfl
    | some v =>
      exfalso
      unfold numW at hn
      split at hn
      · split at hn
        · rename_i hv
          simp only [Option.some.injEq] at hn
          rw [hn] at hv
          have := List.all_eq_true.1 numL_all v.toNat (List.mem_range.2 (by omega))
          rw [hv.2] at this
          exact h this
        · cases hn
      · cases hn

/-- An operation of its numbers. -/
def madeR (op : Int) (l : List Int) : Ins :=
  if op = 1 then ⟨op, l.getD 0 0, l.getD 1 0, l.getD 2 0⟩ else if op = 2 then ⟨op, l.getD 0 0, 0, l.getD 1 0⟩ else if op = 3 ∨ op = 4 then ⟨op, l.getD 0 0, 0, 0⟩ else if op = 5 then ⟨op, 0, 0, l.getD 0 0⟩ else ⟨op, 0, 0, 0⟩

/-- The numbers of the operation at k: so many more, from the i-th on. -/
def numsR (n : Int) (op : Int) (T : List (Nat × List UInt8)) (k : Nat) : Nat → Nat → List Int → (Int × Int) ⊕ List Int
  | 0, _, nums => .inr nums
  | j + 1, i, nums =>
    match T[k + i]? with
    | none => .inl (11, n)
    | some (a, wd) => if (numL wd).2 = false ∨ (op = 1 ∧ i = 2 ∧ (numL wd).1 < nums.getD 0 0) then .inl (10, (a : Int)) else numsR n op T k j (i + 1) (nums ++ [(numL wd).1])

def finR (p : List Ins) (ends : List Int) : List Ins × Int × Int :=
  match badZ p.length p ends with | some a => ([], 10, a) | none => (p, 0, 0)

/-- From the k-th word on. -/
def refR (n : Int) (T : List (Nat × List UInt8)) : Nat → Nat → List Ins → List Int → List Ins × Int × Int
  | 0, _, _, _ => ([], 0, 0)
  | f + 1, k, p, ends =>
    match T[k]? with
    | none => ([], 11, n)
    | some (a, wd) =>
      match findOp wd with
      | none => ([], 10, (a : Int))
      | some x => if p.length = 64 then ([], 15, (a : Int)) else
        match numsR n x.1 T k x.2.length 1 [] with
        | .inl e => ([], e.1, e.2)
        | .inr nums =>
          match T[k + x.2.length + 1]? with
          | none => finR (p ++ [madeR x.1 nums]) (ends ++ [(((T[k + x.2.length]?.getD default).1 : Nat) : Int)])
          | some (b, w2) => if w2 = [59] then refR n T f (k + x.2.length + 2) (p ++ [madeR x.1 nums]) (ends ++ [(((T[k + x.2.length]?.getD default).1 : Nat) : Int)]) else ([], 10, (b : Int))

def refV (s : List UInt8) : List Ins × Int × Int := refR s.length (tok 0 [] s) ((tok 0 [] s).length + 1) 0 [] []

/-- Fields, one after another. -/
def numsK (n : Int) : List UInt8 → Ins → Int → List (Nat × List UInt8) → (Int × Int) ⊕ (Ins × Int × List (Nat × List UInt8))
  | [], i, a, U => .inr (i, a, U)
  | _ :: _, _, _, [] => .inl (11, n)
  | f :: fs, i, a, (b, wd) :: U =>
    match numW wd with
    | none => .inl (10, (b : Int))
    | some v => if f = 89 ∧ v < i.x then .inl (10, (b : Int)) else numsK n fs (setF i f v) b U

theorem findOp_mem {wd : List UInt8} {x : Int × List UInt8} (h : findOp wd = some x) : x = (1, [88, 89, 90]) ∨ x = (2, [88, 90]) ∨ x = (3, [88]) ∨ x = (4, [88]) ∨ x = (5, [90]) ∨ x = (6, []) ∨ x = (7, []) := by
  unfold findOp at h
  simp only [Option.map_eq_some_iff] at h
  obtain ⟨y, hy, rfl⟩ := h
  have := List.mem_of_find?_eq_some hy
  simp only [opTab, List.mem_cons, List.not_mem_nil, or_false] at this
  rcases this with rfl | rfl | rfl | rfl | rfl | rfl | rfl <;> simp

theorem nums_eq {wd : List UInt8} {x : Int × List UInt8} (h : findOp wd = some x) {n : Int} {T : List (Nat × List UInt8)} {k a : Nat} (hk : T[k]? = some (a, wd)) :
    numsK n x.2 ⟨x.1, 0, 0, 0⟩ (a : Int) (T.drop (k + 1)) = match numsR n x.1 T k x.2.length 1 [] with
      | .inl e => .inl e
      | .inr nums => .inr (madeR x.1 nums, (((T[k + x.2.length]?.getD default).1 : Nat) : Int), T.drop (k + x.2.length + 1)) := by
  have e1 : T[k + 1]? = (T.drop (k + 1))[0]? := by rw [List.getElem?_drop]
  have e2 : T[k + 2]? = (T.drop (k + 1))[1]? := by rw [List.getElem?_drop]
  have e3 : T[k + 3]? = (T.drop (k + 1))[2]? := by rw [List.getElem?_drop]
  have d2 : T.drop (k + 1 + 1) = (T.drop (k + 1)).drop 1 := by rw [List.drop_drop]
  have d3 : T.drop (k + 2 + 1) = (T.drop (k + 1)).drop 2 := by rw [List.drop_drop]
  have d4 : T.drop (k + 3 + 1) = (T.drop (k + 1)).drop 3 := by rw [List.drop_drop]
  rcases findOp_mem h with rfl | rfl | rfl | rfl | rfl | rfl | rfl
  · generalize T.drop (k + 1) = U at *
    rcases U with _ | ⟨⟨a1, w1⟩, U⟩
    · simp [numsR, numsK, numW_numL, hk, madeR, setF, e1, e2, e3, d2, d3, d4]
    cases h1 : (numL w1).2
    · simp [numsR, numsK, numW_numL, hk, madeR, setF, e1, e2, e3, d2, d3, d4, h1]
    rcases U with _ | ⟨⟨a2, w2⟩, U⟩
    · simp [numsR, numsK, numW_numL, hk, madeR, setF, e1, e2, e3, d2, d3, d4, h1]
    cases h2 : (numL w2).2
    · simp [numsR, numsK, numW_numL, hk, madeR, setF, e1, e2, e3, d2, d3, d4, h1, h2]
    by_cases hc : (numL w2).1 < (numL w1).1
    · simp [numsR, numsK, numW_numL, hk, madeR, setF, e1, e2, e3, d2, d3, d4, h1, h2, hc]
    rcases U with _ | ⟨⟨a3, w3⟩, U⟩
    · simp [numsR, numsK, numW_numL, hk, madeR, setF, e1, e2, e3, d2, d3, d4, h1, h2, hc]
    cases h3 : (numL w3).2 <;> simp [numsR, numsK, numW_numL, hk, madeR, setF, e1, e2, e3, d2, d3, d4, h1, h2, h3, hc]
  · generalize T.drop (k + 1) = U at *
    rcases U with _ | ⟨⟨a1, w1⟩, U⟩
    · simp [numsR, numsK, numW_numL, hk, madeR, setF, e1, e2, e3, d2, d3, d4]
    cases h1 : (numL w1).2
    · simp [numsR, numsK, numW_numL, hk, madeR, setF, e1, e2, e3, d2, d3, d4, h1]
    rcases U with _ | ⟨⟨a2, w2⟩, U⟩
    · simp [numsR, numsK, numW_numL, hk, madeR, setF, e1, e2, e3, d2, d3, d4, h1]
    cases h2 : (numL w2).2 <;> simp [numsR, numsK, numW_numL, hk, madeR, setF, e1, e2, e3, d2, d3, d4, h1, h2]
  · generalize T.drop (k + 1) = U at *
    rcases U with _ | ⟨⟨a1, w1⟩, U⟩
    · simp [numsR, numsK, numW_numL, hk, madeR, setF, e1, e2, e3, d2, d3, d4]
    cases h1 : (numL w1).2 <;> simp [numsR, numsK, numW_numL, hk, madeR, setF, e1, e2, e3, d2, d3, d4, h1]
  · generalize T.drop (k + 1) = U at *
    rcases U with _ | ⟨⟨a1, w1⟩, U⟩
    · simp [numsR, numsK, numW_numL, hk, madeR, setF, e1, e2, e3, d2, d3, d4]
    cases h1 : (numL w1).2 <;> simp [numsR, numsK, numW_numL, hk, madeR, setF, e1, e2, e3, d2, d3, d4, h1]
  · generalize T.drop (k + 1) = U at *
    rcases U with _ | ⟨⟨a1, w1⟩, U⟩
    · simp [numsR, numsK, numW_numL, hk, madeR, setF, e1, e2, e3, d2, d3, d4]
    cases h1 : (numL w1).2 <;> simp [numsR, numsK, numW_numL, hk, madeR, setF, e1, e2, e3, d2, d3, d4, h1]
  · simp [numsR, numsK, hk, madeR]
  · simp [numsR, numsK, hk, madeR]

theorem numW_v {wd : List UInt8} {v : Int} (h : numW wd = some v) : 0 ≤ v ∧ v ≤ 255 := by
  unfold numW at h
  split at h
  · split at h
    · rename_i hv
      simp only [Option.some.injEq] at h
      rw [h] at hv
      exact hv.1
    · cases h
  · cases h

theorem num_stp {p : List Ins} {e : List Int} {i : Ins} {x : Int} {f : UInt8} {fs : List UInt8} {a : Nat} {wd : List UInt8} :
    stepP ⟨p ++ [i], e ++ [x], f :: fs, false⟩ a wd = match numW wd with
      | none => (10, ⟨p ++ [i], e ++ [x], f :: fs, false⟩)
      | some v => if f = 89 ∧ v < i.x then (10, ⟨p ++ [i], e ++ [x], f :: fs, false⟩) else (0, ⟨p ++ [setF i f v], e ++ [(a : Int)], fs, false⟩) := by
  unfold stepP
  rw [if_neg (by simp)]
  unfold numberR
  cases numW wd with
  | none => rfl
  | some v =>
    simp only [List.head?_cons, List.getLast?_concat, Option.getD_some, Option.some.injEq]
    split
    · rfl
    · simp

theorem parseR_t (s : List UInt8) (r : Rd) : parseR s ((r, none), true) = if r.more = true ∨ r.left ≠ [] then ([], 11, (s.length : Int)) else finR r.p r.ends := by
  unfold parseR finR
  simp only [if_true]
  split
  · rfl
  · rfl
theorem parseR_f (s : List UInt8) (r : Rd) (e : Int × Int) : parseR s ((r, some e), false) = ([], e.1, e.2) := by
  unfold parseR
  simp

theorem nums_run (s : List UInt8) : ∀ (fs : List UInt8) (i : Ins) (a : Int) (U : List (Nat × List UInt8)) (p : List Ins) (e : List Int),
    parseR s (runW stpP U (⟨p ++ [i], e ++ [a], fs, false⟩, none)) = match numsK s.length fs i a U with
      | .inl e' => ([], e'.1, e'.2)
      | .inr q => parseR s (runW stpP q.2.2 (⟨p ++ [q.1], e ++ [q.2.1], [], false⟩, none))
  | [], i, a, U, p, e => by simp [numsK]
  | f :: fs, i, a, [], p, e => by
    rw [numsK, runW, parseR_t, if_pos (.inr (by simp))]
  | f :: fs, i, a, (b, wd) :: U, p, e => by
    have hs := num_stp (p := p) (e := e) (i := i) (x := a) (f := f) (fs := fs) (a := b) (wd := wd)
    rw [numsK]
    cases hn : numW wd with
    | none =>
      rw [hn] at hs
      rw [runP_no hs (by decide), parseR_f]
    | some v =>
      rw [hn] at hs
      simp only at hs ⊢
      by_cases hc : f = 89 ∧ v < i.x
      · rw [if_pos hc] at hs ⊢
        rw [runP_no hs (by decide), parseR_f]
      · rw [if_neg hc] at hs ⊢
        rw [runP_ok hs, nums_run s fs]

theorem ref_run (s : List UInt8) (T : List (Nat × List UInt8)) : ∀ (f k : Nat) (p : List Ins) (e : List Int), T.length < f + k → 0 < f → p.length ≤ 64 →
    parseR s (runW stpP (T.drop k) (⟨p, e, [], true⟩, none)) = refR s.length T f k p e
  | 0, k, p, e, hk, h0, hp => by omega
  | f + 1, k, p, e, hk, h0, hp => by
    rw [refR]
    cases hT : T[k]? with
    | none =>
      rw [List.drop_eq_nil_of_le (List.getElem?_eq_none_iff.1 hT), runW, parseR_t, if_pos (.inl rfl)]
    | some x =>
      obtain ⟨a, wd⟩ := x
      have hlt := (List.getElem?_eq_some_iff.1 hT).1
      have hd : T.drop k = (a, wd) :: T.drop (k + 1) := by
        rw [List.drop_eq_getElem_cons hlt]
        rw [List.getElem?_eq_getElem hlt] at hT
        simp only [Option.some.injEq] at hT; rw [hT]
      rw [hd]
      have hst : stepP ⟨p, e, [], true⟩ a wd = beginR ⟨p, e, [], true⟩ a wd := by simp [stepP]
      simp only
      cases hf : findOp wd with
      | none =>
        rw [beginR, hf] at hst
        rw [runP_no hst (by decide), parseR_f]
      | some x =>
        rw [beginR, hf] at hst
        simp only at hst ⊢
        by_cases h64 : p.length = 64
        · rw [if_pos h64] at hst ⊢
          rw [runP_no hst (by decide), parseR_f]
        rw [if_neg h64] at hst ⊢
        rw [runP_ok hst, nums_run, nums_eq hf hT]
        generalize hN : numsR (s.length : Int) x.1 T k x.2.length 1 [] = N
        cases N with
        | inl e' => rfl
        | inr nums =>
          simp only
          cases hT2 : T[k + x.2.length + 1]? with
          | none =>
            rw [List.drop_eq_nil_of_le (List.getElem?_eq_none_iff.1 hT2), runW, parseR_t, if_neg (by simp)]
          | some y =>
            obtain ⟨b, w2⟩ := y
            have hlt2 := (List.getElem?_eq_some_iff.1 hT2).1
            have hd2 : T.drop (k + x.2.length + 1) = (b, w2) :: T.drop (k + x.2.length + 2) := by
              rw [List.drop_eq_getElem_cons hlt2]
              rw [List.getElem?_eq_getElem hlt2] at hT2
              simp only [Option.some.injEq] at hT2; rw [hT2]
            rw [hd2]
            simp only
            by_cases hw : w2 = [59]
            · rw [if_pos hw]
              have hs2 : stepP ⟨p ++ [madeR x.1 nums], e ++ [(((T[k + x.2.length]?.getD default).1 : Nat) : Int)], [], false⟩ b w2 = (0, ⟨p ++ [madeR x.1 nums], e ++ [(((T[k + x.2.length]?.getD default).1 : Nat) : Int)], [], true⟩) := by
                simp [stepP, hw]
              rw [runP_ok hs2, ref_run s T f _ _ _ (by omega) (by omega) (by simp; omega)]
            · rw [if_neg hw]
              have hs2 : stepP ⟨p ++ [madeR x.1 nums], e ++ [(((T[k + x.2.length]?.getD default).1 : Nat) : Int)], [], false⟩ b w2 = (10, ⟨p ++ [madeR x.1 nums], e ++ [(((T[k + x.2.length]?.getD default).1 : Nat) : Int)], [], false⟩) := by
                simp [stepP, hw]
              rw [runP_no hs2 (by decide), parseR_f]

/-- The two readers say the same. -/
theorem parseV_refV (s : List UInt8) : parseV s = refV s := by
  rw [parseV_tok, refV]
  have := ref_run s (tok 0 [] s) ((tok 0 [] s).length + 1) 0 [] [] (by omega) (by omega) (by simp)
  rw [List.drop_zero] at this
  exact this
end Go.Am.V
