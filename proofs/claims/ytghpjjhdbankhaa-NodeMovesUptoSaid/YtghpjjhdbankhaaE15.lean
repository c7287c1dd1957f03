/- A TREE AS TEXT, BY THE PROGRAM. -/
import Derived.Test.YtghpjjhdbankhaaE5
import Derived.Test.YtghpjjhdbankhaaL0
set_option linter.unusedSimpArgs false
set_option linter.unusedVariables false
set_option maxRecDepth 20000
namespace Go.Am.B
open Go.Proofs Go.IntWalk

variable {w : Ways}

mutual
def printN : Node → List UInt8
  | .mk k nm fl _ _ d ks =>
    if d = 2 then (if fl = [] then [] else fl ++ [58, 32]) ++ [40, 77, 73, 83, 83, 73, 78, 71, 32] ++ k ++ [41]
    else if nm = true ∨ d = 1 then (if fl = [] then [] else fl ++ [58, 32]) ++ [40] ++ Lib.join (k :: printL ks) [32] ++ [41]
    else if printL ks = [] then (if fl = [] then [] else fl ++ [58, 32]) ++ k
    else (if fl = [] then [] else fl ++ [58, 32]) ++ k ++ [91] ++ Lib.join (printL ks) [32] ++ [93]
def printL : List Node → List (List UInt8)
  | [] => []
  | k :: ks => printN k :: printL ks
end
def preF (n : Node) : List UInt8 := if n.field = [] then [] else n.field ++ [58, 32]
theorem printN_eq (n : Node) : printN n = if n.bad = 2 then preF n ++ [40, 77, 73, 83, 83, 73, 78, 71, 32] ++ n.kind ++ [41]
    else if n.named = true ∨ n.bad = 1 then preF n ++ [40] ++ Lib.join (n.kind :: printL n.kids) [32] ++ [41]
    else if printL n.kids = [] then preF n ++ n.kind
    else preF n ++ n.kind ++ [91] ++ Lib.join (printL n.kids) [32] ++ [93] := by cases n; rw [printN]; rfl
theorem printL_len (ks : List Node) : (printL ks).length = ks.length := by
  induction ks with
  | nil => rfl
  | cons x xs ih => simp [printL, ih]
theorem printL_map (ks : List Node) : printL ks = ks.map printN := by
  induction ks with
  | nil => rfl
  | cons x xs ih => simp [printL, ih]
theorem print_move (by_ : Int) (n : Node) : printN (moveN by_ n) = printN n := by
  induction n using Node.ind with
  | h n ih =>
  obtain ⟨k, nm, fl, a, b, d, ks⟩ := n
  have hL : printL (moveL by_ ks) = printL ks := by
    rw [moveL_map, printL_map, printL_map, List.map_map]
    exact List.map_congr_left fun x hx => ih x hx
  simp only [moveN, printN, hL]
theorem join_len (sep : List UInt8) : ∀ l : List (List UInt8), (Lib.join l sep).length ≤ Lib.lens l + sep.length * l.length := by
  intro l
  induction l with
  | nil => simp [Lib.join_nil]
  | cons x xs ih =>
    cases xs with
    | nil => rw [Lib.join_one]; simp [Lib.lens]
    | cons y ys =>
      have h1 : Lib.join (x :: y :: ys) sep = x ++ sep ++ Lib.join (y :: ys) sep := by
        rw [Lib.join_cons, Lib.join_cons]
        simp [Lib.joinTail]
      rw [h1]
      simp only [List.length_append, Lib.lens, List.map_cons, List.sum_cons, List.length_cons] at ih ⊢
      have : sep.length * (ys.length + 1 + 1) = sep.length * (ys.length + 1) + sep.length := by rw [Nat.mul_add]; omega
      omega
/-- A text is as long as its letters and 16 for each node. -/
theorem print_len (n : Node) : (printN n).length + 4 ≤ letN n + 16 * cnt n := by
  induction n using Node.ind with
  | h n ih =>
  have hL : ∀ ks : List Node, (∀ k ∈ ks, (printN k).length + 4 ≤ letN k + 16 * cnt k) → Lib.lens (printL ks) + 4 * ks.length ≤ letL ks + 16 * cntL ks := by
    intro ks
    induction ks with
    | nil => intro _; simp [printL, Lib.lens, letL, cntL]
    | cons x xs ihx =>
      intro h
      have h1 := h x List.mem_cons_self
      have h2 := ihx (fun k hk => h k (List.mem_cons_of_mem _ hk))
      simp only [printL, Lib.lens, List.map_cons, List.sum_cons, letL, cntL, List.length_cons] at h2 ⊢
      omega
  have h1 := hL _ ih
  have h2 := join_len [32] (n.kind :: printL n.kids)
  have h3 := join_len [32] (printL n.kids)
  have h4 : (preF n).length ≤ n.field.length + 2 := by unfold preF; split <;> simp
  have h5 := printL_len n.kids
  simp only [Lib.lens, List.map_cons, List.sum_cons, List.length_cons, List.length_nil] at h1 h2 h3
  rw [printN_eq, cnt_eq n, letN_eq n]
  split
  · simp only [List.length_append, List.length_cons, List.length_nil]; omega
  · split
    · simp only [List.length_append, List.length_cons, List.length_nil]; omega
    · split
      · simp only [List.length_append]; omega
      · simp only [List.length_append, List.length_cons, List.length_nil]; omega

theorem join_call (he : w.ext 87 = some (.val joinE)) {v : AV} {ls : List (List UInt8)} (hv : rowsV v = some (ls.map fun s => [.str s])) (h1 : ls.length ≤ 1000000) (h2 : (Lib.join ls [32]).length ≤ 10000000) (S : St) :
    callF (cfg w) (lim (cfg w)) 87 [v, .str [32]] S = some (.str (Lib.join ls [32]), S) := by
  have he' : (cfg w).ext 87 = some (.val joinE) := by rw [cfgP_ext]; exact he
  have hj : joinE [v, .str [32]] = some (.str (Lib.join ls [32])) := by
    unfold joinE
    simp only [hv, Option.bind_some, strsOf_map]
    rw [if_pos ⟨by omega, by omega⟩]
  simp [callF, he', XT.run, hj]
theorem joinE_ok {v : AV} {ls : List (List UInt8)} (hv : rowsV v = some (ls.map fun s => [.str s])) (h1 : ls.length ≤ 1000000) (h2 : (Lib.join ls [32]).length ≤ 10000000) : joinE [v, .str [32]] = some (.str (Lib.join ls [32])) := by
  unfold joinE
  simp only [hv, Option.bind_some, strsOf_map]
  rw [if_pos ⟨by omega, by omega⟩]

theorem mx {x y : List UInt8} (h : x.length + y.length ≤ 100000000) : (((x.length : Nat) : Int) + ((y.length : Nat) : Int) ≤ maxI64) = True := by simp only [maxI64, eq_iff_iff, iff_true]; omega
def strR (l : List (List UInt8)) : Rows := l.map fun s => [.str s]
theorem print58_ok (hw : Std w) (he : w.ext 87 = some (.val joinE)) (n : Node) : n.ok → letN n + 16 * cnt n ≤ 2000000 → PC (cfg w) 58 [n.av] (.str (printN n)) := by
  induction n using Node.ind with
  | h n ih =>
  intro hn hbd
  have hkl := Node.ok_kids hn
  have hpl := print_len n
  have hpr := printN_eq n
  have hplk := printL_len n.kids
  rw [cnt_eq n, letN_eq n] at hbd
  refine PC_of (args' := [n.av]) hw.e58 hw.m58 (by simp [nrmA, nrm, Node.nrm_all]) ?_
  generalize hP : printN n = P at *
  refine call_of_W (fn58 w) rfl ?_
  simp only [Try.f58, List.length_cons, List.length_nil, ↓reduceIte, Int.reduceLT, Int.reduceLE, Int.reduceAdd, Int.reduceSub, Int.reduceNeg, Int.reduceMul, Int.reduceToNat, Int.reduceEq, Int.reduceNe, Int.reduceGT, Int.reduceGE, Nat.reducePow, IntKind.bits, Nat.reduceAdd, Nat.reduceSub, List.cons_append, List.nil_append]
  repeat with_reducible (first | refine E0 ?_ | refine E1 ?_ | refine E2 ?_ | refine E3 ?_ | refine E4 ?_ | refine E5 (by decide) ?_ | refine E6 ?_ | refine E7 ?_ | refine E8 ?_ | refine E9 ?_ | refine Ea ?_ | refine Eb ?_ | refine Ec ?_ | refine Ed ?_)
  refine W_region fun K hK => ?_
  simp only [KA, KB, KP, KQ, reduceCtorEq, ↓reduceIte, Int.reduceLT, Int.reduceLE, Int.reduceAdd, Int.reduceSub, Int.reduceNeg, Int.reduceMul, Int.reduceToNat, Int.reduceEq, Int.reduceNe, Int.reduceGT, Int.reduceGE, Nat.reducePow, Nat.reduceAdd, Nat.reduceSub, Nat.reduceLT, Nat.reduceMul, Nat.reduceDiv, Nat.reduceEqDiff, Nat.reduceLeDiff, KT w, hw.KF]
  refine hK _ _ ?_
  clear hK
  clear K
  repeat with_reducible (first | refine E0 ?_ | refine E1 ?_ | refine E2 ?_ | refine E3 ?_ | refine E4 ?_ | refine E5 (by decide) ?_ | refine E6 ?_ | refine E7 ?_ | refine E8 ?_ | refine E9 ?_ | refine Ea ?_ | refine Eb ?_ | refine Ec ?_ | refine Ed ?_)
  refine W_region fun K hK => ?_
  simp only [KA, KB, KP, KQ, reduceCtorEq, ↓reduceIte, Int.reduceLT, Int.reduceLE, Int.reduceAdd, Int.reduceSub, Int.reduceNeg, Int.reduceMul, Int.reduceToNat, Int.reduceEq, Int.reduceNe, Int.reduceGT, Int.reduceGE, Nat.reducePow, Nat.reduceAdd, Nat.reduceSub, Nat.reduceLT, Nat.reduceMul, Nat.reduceDiv, Nat.reduceEqDiff, Nat.reduceLeDiff, KT w, hw.KF]
  refine hK _ _ ?_
  clear hK
  clear K
  repeat with_reducible (first | refine E0 ?_ | refine E1 ?_ | refine E2 ?_ | refine E3 ?_ | refine E4 ?_ | refine E5 (by decide) ?_ | refine E6 ?_ | refine E7 ?_ | refine E8 ?_ | refine E9 ?_ | refine Ea ?_ | refine Eb ?_ | refine Ec ?_ | refine Ed ?_)
  refine W_region fun K hK => ?_
  simp only [KA, KB, KP, KQ, reduceCtorEq, ↓reduceIte, Int.reduceLT, Int.reduceLE, Int.reduceAdd, Int.reduceSub, Int.reduceNeg, Int.reduceMul, Int.reduceToNat, Int.reduceEq, Int.reduceNe, Int.reduceGT, Int.reduceGE, Nat.reducePow, Nat.reduceAdd, Nat.reduceSub, Nat.reduceLT, Nat.reduceMul, Nat.reduceDiv, Nat.reduceEqDiff, Nat.reduceLeDiff, KT w, hw.KF]
  refine hK _ _ ?_
  clear hK
  clear K
  repeat with_reducible (first | refine E0 ?_ | refine E1 ?_ | refine E2 ?_ | refine E3 ?_ | refine E4 ?_ | refine E5 (by decide) ?_ | refine E6 ?_ | refine E7 ?_ | refine E8 ?_ | refine E9 ?_ | refine Ea ?_ | refine Eb ?_ | refine Ec ?_ | refine Ed ?_)
  refine W.mono (Q := fun e fr S2 => e = .nrm ∧ S2 = St.nil.push (.row n.cells false) ∧ ∃ tm : List AV, fr = ⟨tm, [], none, 58⟩ ∧ tm.length = 71 ∧ tget tm 1 = .ptr 0 0 ∧ tget tm 3 = .str (preF n)) ?_ ?_
  · unfold preF
    by_cases hf : n.field = []
    · rw [if_pos hf]
      refine W_condF (by simp only [KA, KP, KQ, reduceCtorEq, ↓reduceIte, Int.reduceLT, Int.reduceLE, Int.reduceAdd, Int.reduceSub, Int.reduceNeg, Int.reduceMul, Int.reduceToNat, Int.reduceEq, Int.reduceNe, Int.reduceGT, Int.reduceGE, Nat.reducePow, Nat.reduceAdd, Nat.reduceSub, Nat.reduceLT, Nat.reduceMul, Nat.reduceDiv, Nat.reduceEqDiff, Nat.reduceLeDiff, KT w, hw.KF, hf]) ?_
      repeat with_reducible (first | refine E0 ?_ | refine E1 ?_ | refine E2 ?_ | refine E3 ?_ | refine E4 ?_ | refine E5 (by decide) ?_ | refine E6 ?_ | refine E7 ?_ | refine E8 ?_ | refine E9 ?_ | refine Ea ?_ | refine Eb ?_ | refine Ec ?_ | refine Ed ?_)
      refine ⟨rfl, rfl, _, rfl, ?_⟩
      simp only [KA, KP, KQ, reduceCtorEq, ↓reduceIte, Int.reduceLT, Int.reduceLE, Int.reduceAdd, Int.reduceSub, Int.reduceNeg, Int.reduceMul, Int.reduceToNat, Int.reduceEq, Int.reduceNe, Int.reduceGT, Int.reduceGE, Nat.reducePow, Nat.reduceAdd, Nat.reduceSub, Nat.reduceLT, Nat.reduceMul, Nat.reduceDiv, Nat.reduceEqDiff, Nat.reduceLeDiff, KT w, hw.KF]
    · rw [if_neg hf]
      have hm1 : ((n.field.length : Int) + 2 ≤ maxI64) = True := by simp [maxI64]; omega
      refine W_condT (by simp only [KA, KP, KQ, reduceCtorEq, ↓reduceIte, Int.reduceLT, Int.reduceLE, Int.reduceAdd, Int.reduceSub, Int.reduceNeg, Int.reduceMul, Int.reduceToNat, Int.reduceEq, Int.reduceNe, Int.reduceGT, Int.reduceGE, Nat.reducePow, Nat.reduceAdd, Nat.reduceSub, Nat.reduceLT, Nat.reduceMul, Nat.reduceDiv, Nat.reduceEqDiff, Nat.reduceLeDiff, KT w, hw.KF, hf]) ?_
      repeat with_reducible (first | refine E0 ?_ | refine E1 ?_ | refine E2 ?_ | refine E3 ?_ | refine E4 ?_ | refine E5 (by decide) ?_ | refine E6 ?_ | refine E7 ?_ | refine E8 ?_ | refine E9 ?_ | refine Ea ?_ | refine Eb ?_ | refine Ec ?_ | refine Ed ?_)
      refine W_region fun K hK => ?_
      simp only [KA, KB, KP, KQ, reduceCtorEq, ↓reduceIte, Int.reduceLT, Int.reduceLE, Int.reduceAdd, Int.reduceSub, Int.reduceNeg, Int.reduceMul, Int.reduceToNat, Int.reduceEq, Int.reduceNe, Int.reduceGT, Int.reduceGE, Nat.reducePow, Nat.reduceAdd, Nat.reduceSub, Nat.reduceLT, Nat.reduceMul, Nat.reduceDiv, Nat.reduceEqDiff, Nat.reduceLeDiff, KT w, hw.KF, hm1]
      refine hK _ _ ?_
      clear hK
      clear K
      repeat with_reducible (first | refine E0 ?_ | refine E1 ?_ | refine E2 ?_ | refine E3 ?_ | refine E4 ?_ | refine E5 (by decide) ?_ | refine E6 ?_ | refine E7 ?_ | refine E8 ?_ | refine E9 ?_ | refine Ea ?_ | refine Eb ?_ | refine Ec ?_ | refine Ed ?_)
      refine ⟨rfl, rfl, _, rfl, ?_⟩
      simp only [KA, KP, KQ, reduceCtorEq, ↓reduceIte, Int.reduceLT, Int.reduceLE, Int.reduceAdd, Int.reduceSub, Int.reduceNeg, Int.reduceMul, Int.reduceToNat, Int.reduceEq, Int.reduceNe, Int.reduceGT, Int.reduceGE, Nat.reducePow, Nat.reduceAdd, Nat.reduceSub, Nat.reduceLT, Nat.reduceMul, Nat.reduceDiv, Nat.reduceEqDiff, Nat.reduceLeDiff, KT w, hw.KF]
  rintro e fr S2 ⟨rfl, rfl, tm, rfl, htm, h1, h3⟩
  repeat with_reducible (first | refine E0 ?_ | refine E1 ?_ | refine E2 ?_ | refine E3 ?_ | refine E4 ?_ | refine E5 (by decide) ?_ | refine E6 ?_ | refine E7 ?_ | refine E8 ?_ | refine E9 ?_ | refine Ea ?_ | refine Eb ?_ | refine Ec ?_ | refine Ed ?_)
  refine W_region fun K hK => ?_
  simp only [KA, KB, KP, KQ, reduceCtorEq, ↓reduceIte, Int.reduceLT, Int.reduceLE, Int.reduceAdd, Int.reduceSub, Int.reduceNeg, Int.reduceMul, Int.reduceToNat, Int.reduceEq, Int.reduceNe, Int.reduceGT, Int.reduceGE, Nat.reducePow, Nat.reduceAdd, Nat.reduceSub, Nat.reduceLT, Nat.reduceMul, Nat.reduceDiv, Nat.reduceEqDiff, Nat.reduceLeDiff, KT w, hw.KF, htm]
  refine hK _ _ ?_
  clear hK
  clear K
  repeat with_reducible (first | refine E0 ?_ | refine E1 ?_ | refine E2 ?_ | refine E3 ?_ | refine E4 ?_ | refine E5 (by decide) ?_ | refine E6 ?_ | refine E7 ?_ | refine E8 ?_ | refine E9 ?_ | refine Ea ?_ | refine Eb ?_ | refine Ec ?_ | refine Ed ?_)
  refine W_region fun K hK => ?_
  simp only [KA, KB, KP, KQ, reduceCtorEq, ↓reduceIte, Int.reduceLT, Int.reduceLE, Int.reduceAdd, Int.reduceSub, Int.reduceNeg, Int.reduceMul, Int.reduceToNat, Int.reduceEq, Int.reduceNe, Int.reduceGT, Int.reduceGE, Nat.reducePow, Nat.reduceAdd, Nat.reduceSub, Nat.reduceLT, Nat.reduceMul, Nat.reduceDiv, Nat.reduceEqDiff, Nat.reduceLeDiff, KT w, hw.KF, htm, h1]
  refine hK _ _ ?_
  clear hK
  clear K
  repeat with_reducible (first | refine E0 ?_ | refine E1 ?_ | refine E2 ?_ | refine E3 ?_ | refine E4 ?_ | refine E5 (by decide) ?_ | refine E6 ?_ | refine E7 ?_ | refine E8 ?_ | refine E9 ?_ | refine Ea ?_ | refine Eb ?_ | refine Ec ?_ | refine Ed ?_)
  refine W_loop (fun k fr S => ∃ (tm : List AV) (i : Nat) (a : AV), fr = ⟨tm, [], none, 58⟩ ∧ S.ok ∧ S.base = 0 ∧ 0 < S.n ∧ S.get 0 = some (.row n.cells false) ∧ k = n.kids.length - i ∧ i ≤ n.kids.length ∧
     ((i = 0 ∧ a = .nils) ∨ (i ≠ 0 ∧ ∃ o g, a = .own (strR (printL (n.kids.take i))) o g ∧ 0 < o ∧ o < S.n ∧ S.get o = some (.tail g))) ∧
     tm.length = 71 ∧ tget tm 1 = .ptr 0 0 ∧ tget tm 3 = .str (preF n) ∧ tget tm 4 = a ∧ tget tm 14 = .vec (Node.rows n.kids) ∧ tget tm 15 = .int .i64 n.kids.length ∧ tget tm 16 = .int .i64 i) n.kids.length
    ⟨_, 0, .nils, rfl, St.ok_push St.ok_nil, rfl, by simp only [St.pushN, St.nil_n]; omega, rfl, rfl, Nat.zero_le _, .inl ⟨rfl, rfl⟩, ?_⟩ ?_
  · simp only [KA, KP, KQ, reduceCtorEq, ↓reduceIte, Int.reduceLT, Int.reduceLE, Int.reduceAdd, Int.reduceSub, Int.reduceNeg, Int.reduceMul, Int.reduceToNat, Int.reduceEq, Int.reduceNe, Int.reduceGT, Int.reduceGE, Nat.reducePow, Nat.reduceAdd, Nat.reduceSub, Nat.reduceLT, Nat.reduceMul, Nat.reduceDiv, Nat.reduceEqDiff, Nat.reduceLeDiff, KT w, hw.KF, Int.ofNat_zero, htm, h1, h3]
  clear htm h1 h3
  have hkc : n.kids.length ≤ cntL n.kids := by
    have : ∀ ks : List Node, ks.length ≤ cntL ks := by
      intro ks
      induction ks with
      | nil => simp
      | cons x xs ihx => have : 1 ≤ cnt x := by rw [cnt_eq x]; omega
                         simp only [cntL, List.length_cons]; omega
    exact this _
  rintro k fr S ⟨tm, i, a, rfl, hok, hbs, hsn, g0, rfl, hi, ha, htm, h1, h3, h4, h14, h15, h16⟩
  have hne0 : (0 = S.n) = False := by simp; omega
  repeat with_reducible (first | refine E0 ?_ | refine E1 ?_ | refine E2 ?_ | refine E3 ?_ | refine E4 ?_ | refine E5 (by decide) ?_ | refine E6 ?_ | refine E7 ?_ | refine E8 ?_ | refine E9 ?_ | refine Ea ?_ | refine Eb ?_ | refine Ec ?_ | refine Ed ?_)
  refine W_region fun K hK => ?_
  simp only [KA, KB, KP, KQ, reduceCtorEq, ↓reduceIte, Int.reduceLT, Int.reduceLE, Int.reduceAdd, Int.reduceSub, Int.reduceNeg, Int.reduceMul, Int.reduceToNat, Int.reduceEq, Int.reduceNe, Int.reduceGT, Int.reduceGE, Nat.reducePow, Nat.reduceAdd, Nat.reduceSub, Nat.reduceLT, Nat.reduceMul, Nat.reduceDiv, Nat.reduceEqDiff, Nat.reduceLeDiff, KT w, hw.KF, htm, h15, h16]
  refine hK _ _ ?_
  clear hK
  clear K
  repeat with_reducible (first | refine E0 ?_ | refine E1 ?_ | refine E2 ?_ | refine E3 ?_ | refine E4 ?_ | refine E5 (by decide) ?_ | refine E6 ?_ | refine E7 ?_ | refine E8 ?_ | refine E9 ?_ | refine Ea ?_ | refine Eb ?_ | refine Ec ?_ | refine Ed ?_)
  refine W_condP (p := _) (by simp only [KA, KP, KQ, reduceCtorEq, ↓reduceIte, Int.reduceLT, Int.reduceLE, Int.reduceAdd, Int.reduceSub, Int.reduceNeg, Int.reduceMul, Int.reduceToNat, Int.reduceEq, Int.reduceNe, Int.reduceGT, Int.reduceGE, Nat.reducePow, Nat.reduceAdd, Nat.reduceSub, Nat.reduceLT, Nat.reduceMul, Nat.reduceDiv, Nat.reduceEqDiff, Nat.reduceLeDiff, KT w, hw.KF, htm]; rfl) (fun hb => ?_) (fun hb => ?_)
  · obtain ⟨x, hx⟩ := get_of_lt (l := n.kids) (i := i) (by omega)
    have hxm := List.mem_of_getElem? hx
    have e1 : IntKind.i64.wrap ((i : Int) + 1) = (i : Int) + 1 := i64_in _ (by omega)
    have hlx : letN x ≤ letL n.kids := by
      have : ∀ ks : List Node, x ∈ ks → letN x ≤ letL ks := by
        intro ks
        induction ks with
        | nil => intro h; cases h
        | cons y ys ihy =>
          intro h
          simp only [letL]
          rcases List.mem_cons.1 h with rfl | h
          · omega
          · have := ihy h; omega
      exact this _ hxm
    have hcx := cnt_kid hxm
    rw [cnt_eq n] at hcx
    have hrec := ih x hxm (Node.ok_kid hn x hxm) (by omega)
    have hrr : strR (printL (n.kids.take (i + 1))) = strR (printL (n.kids.take i)) ++ [[.str (printN x)]] := by
      rw [List.take_add_one, hx]
      simp [strR, printL_map]
    have hlr : (strR (printL (n.kids.take i))).length = i := by simp [strR, printL_len]; omega
    repeat with_reducible (first | refine E0 ?_ | refine E1 ?_ | refine E2 ?_ | refine E3 ?_ | refine E4 ?_ | refine E5 (by decide) ?_ | refine E6 ?_ | refine E7 ?_ | refine E8 ?_ | refine E9 ?_ | refine Ea ?_ | refine Eb ?_ | refine Ec ?_ | refine Ed ?_)
    refine W_region fun K hK => ?_
    simp only [KA, KB, KP, KQ, reduceCtorEq, ↓reduceIte, Int.reduceLT, Int.reduceLE, Int.reduceAdd, Int.reduceSub, Int.reduceNeg, Int.reduceMul, Int.reduceToNat, Int.reduceEq, Int.reduceNe, Int.reduceGT, Int.reduceGE, Nat.reducePow, Nat.reduceAdd, Nat.reduceSub, Nat.reduceLT, Nat.reduceMul, Nat.reduceDiv, Nat.reduceEqDiff, Nat.reduceLeDiff, KT w, hw.KF, htm, h14, h16, hx, hok, hbs, splice, List.length_append]
    refine hK _ _ ?_
    clear hK
    clear K
    repeat with_reducible (first | refine E0 ?_ | refine E1 ?_ | refine E2 ?_ | refine E3 ?_ | refine E4 ?_ | refine E5 (by decide) ?_ | refine E6 ?_ | refine E7 ?_ | refine E8 ?_ | refine E9 ?_ | refine Ea ?_ | refine Eb ?_ | refine Ec ?_ | refine Ed ?_)
    refine W.mono (Q := fun e fr S2 => e = .nrm ∧ S2.ok ∧ S2.base = 0 ∧ 0 < S2.n ∧ S2.get 0 = some (.row n.cells false) ∧ ∃ (tm : List AV) (a2 : AV), fr = ⟨tm, [], none, 58⟩ ∧
       (∃ o g, a2 = .own (strR (printL (n.kids.take (i + 1)))) o g ∧ 0 < o ∧ o < S2.n ∧ S2.get o = some (.tail g)) ∧
       tm.length = 71 ∧ tget tm 1 = .ptr 0 0 ∧ tget tm 3 = .str (preF n) ∧ tget tm 4 = a2 ∧ tget tm 14 = .vec (Node.rows n.kids) ∧ tget tm 15 = .int .i64 n.kids.length ∧ tget tm 16 = .int .i64 i) ?_ ?_
    · rw [hrr]
      rcases ha with ⟨rfl, rfl⟩ | ⟨hi0, o, g, rfl, ho1, ho2, hgo⟩
      · refine W_region fun K hK => ?_
        simp only [KA, KB, KP, KQ, reduceCtorEq, ↓reduceIte, Int.reduceLT, Int.reduceLE, Int.reduceAdd, Int.reduceSub, Int.reduceNeg, Int.reduceMul, Int.reduceToNat, Int.reduceEq, Int.reduceNe, Int.reduceGT, Int.reduceGE, Nat.reducePow, Nat.reduceAdd, Nat.reduceSub, Nat.reduceLT, Nat.reduceMul, Nat.reduceDiv, Nat.reduceEqDiff, Nat.reduceLeDiff, KT w, hw.KF, htm, h4, hrec, hok, hbs]
        refine hK _ _ ?_
        clear hK
        clear K
        refine ⟨rfl, St.ok_push (St.ok_push hok), hbs, by simp only [St.pushN]; omega, by rw [St.get_pushn (by simp only [St.pushN]; omega), St.get_pushn (by omega)]; exact g0, _, .own (strR (printL (n.kids.take 0)) ++ [[.str (printN x)]]) (S.n + 1) 0, rfl, ⟨S.n + 1, 0, rfl, by omega, by simp only [St.pushN]; omega, St.get_pushq (by simp only [St.pushN])⟩, ?_⟩
        simp only [KA, KP, KQ, reduceCtorEq, ↓reduceIte, Int.reduceLT, Int.reduceLE, Int.reduceAdd, Int.reduceSub, Int.reduceNeg, Int.reduceMul, Int.reduceToNat, Int.reduceEq, Int.reduceNe, Int.reduceGT, Int.reduceGE, Nat.reducePow, Nat.reduceAdd, Nat.reduceSub, Nat.reduceLT, Nat.reduceMul, Nat.reduceDiv, Nat.reduceEqDiff, Nat.reduceLeDiff, KT w, hw.KF, htm, h1, h3, h14, h15, h16]
        rfl
      · have hcap : ((i + 1 + (i + 1) / 4 + 1000) * 16 ≤ 281474976710656) = True := by simp; omega
        have hon : (o = S.n) = False := by simp; omega
        have hle : (S.n ≤ o) = False := by simp; omega
        have hhd : headOk 1 (strR (printL (n.kids.take i))) = true := by
          cases hq : printL (n.kids.take i) <;> rfl
        have hemp : (strR (printL (n.kids.take i))).isEmpty = false := by
          cases hq : strR (printL (n.kids.take i)) with
          | nil => rw [hq] at hlr; simp at hlr; omega
          | cons _ _ => rfl
        generalize strR (printL (n.kids.take i)) = R at *
        refine W_region fun K hK => ?_
        simp only [KA, KB, KP, KQ, reduceCtorEq, ↓reduceIte, Int.reduceLT, Int.reduceLE, Int.reduceAdd, Int.reduceSub, Int.reduceNeg, Int.reduceMul, Int.reduceToNat, Int.reduceEq, Int.reduceNe, Int.reduceGT, Int.reduceGE, Nat.reducePow, Nat.reduceAdd, Nat.reduceSub, Nat.reduceLT, Nat.reduceMul, Nat.reduceDiv, Nat.reduceEqDiff, Nat.reduceLeDiff, KT w, hw.KF, htm, h4, hrec, hgo, hhd, hemp, hlr, hcap, hon, hle, hok, hbs, ho2]
        refine hK _ _ ?_
        clear hK
        clear K
        refine ⟨rfl, St.ok_push (St.ok_set hok), hbs, by simp only [St.pushN, St.setN]; omega, by rw [St.get_pushn (by simp only [St.setN]; omega), St.get_setn ho2 (by omega)]; exact g0, _, .own (R ++ [[.str (printN x)]]) o (g + 1), rfl, ⟨o, g + 1, rfl, ho1, by simp only [St.pushN, St.setN]; omega, by rw [St.get_pushn (by simp only [St.setN]; omega), St.get_sete hok ho2]⟩, ?_⟩
        simp only [KA, KP, KQ, reduceCtorEq, ↓reduceIte, Int.reduceLT, Int.reduceLE, Int.reduceAdd, Int.reduceSub, Int.reduceNeg, Int.reduceMul, Int.reduceToNat, Int.reduceEq, Int.reduceNe, Int.reduceGT, Int.reduceGE, Nat.reducePow, Nat.reduceAdd, Nat.reduceSub, Nat.reduceLT, Nat.reduceMul, Nat.reduceDiv, Nat.reduceEqDiff, Nat.reduceLeDiff, KT w, hw.KF, htm, h1, h3, h14, h15, h16]
    clear htm h1 h3 h4 h14 h15 h16 hok hbs hsn g0 ha hne0
    rintro e fr S2 ⟨rfl, hok, hbs, hsn, g0, tm, a2, rfl, ha2, htm, h1, h3, h4, h14, h15, h16⟩
    repeat with_reducible (first | refine E0 ?_ | refine E1 ?_ | refine E2 ?_ | refine E3 ?_ | refine E4 ?_ | refine E5 (by decide) ?_ | refine E6 ?_ | refine E7 ?_ | refine E8 ?_ | refine E9 ?_ | refine Ea ?_ | refine Eb ?_ | refine Ec ?_ | refine Ed ?_)
    refine W_region fun K hK => ?_
    simp only [KA, KB, KP, KQ, reduceCtorEq, ↓reduceIte, Int.reduceLT, Int.reduceLE, Int.reduceAdd, Int.reduceSub, Int.reduceNeg, Int.reduceMul, Int.reduceToNat, Int.reduceEq, Int.reduceNe, Int.reduceGT, Int.reduceGE, Nat.reducePow, Nat.reduceAdd, Nat.reduceSub, Nat.reduceLT, Nat.reduceMul, Nat.reduceDiv, Nat.reduceEqDiff, Nat.reduceLeDiff, KT w, hw.KF, htm, h16, e1]
    refine hK _ _ ?_
    clear hK
    clear K
    refine ⟨n.kids.length - (i + 1), by omega, _, i + 1, a2, rfl, hok, hbs, hsn, g0, rfl, by omega, .inr ⟨by omega, ha2⟩, ?_⟩
    simp only [KA, KP, KQ, reduceCtorEq, ↓reduceIte, Int.reduceLT, Int.reduceLE, Int.reduceAdd, Int.reduceSub, Int.reduceNeg, Int.reduceMul, Int.reduceToNat, Int.reduceEq, Int.reduceNe, Int.reduceGT, Int.reduceGE, Nat.reducePow, Nat.reduceAdd, Nat.reduceSub, Nat.reduceLT, Nat.reduceMul, Nat.reduceDiv, Nat.reduceEqDiff, Nat.reduceLeDiff, KT w, hw.KF, htm, h1, h3, h4, h14, h15, Int.natCast_add, A3z]
  · have hie : i = n.kids.length := by omega
    subst hie
    rw [List.take_length] at ha
    have hj1 := join_len [32] (n.kind :: printL n.kids)
    have hj2 := join_len [32] (printL n.kids)
    have hlens : Lib.lens (printL n.kids) ≤ letL n.kids + 16 * cntL n.kids := by
      have : ∀ ks : List Node, Lib.lens (printL ks) ≤ letL ks + 16 * cntL ks := by
        intro ks
        induction ks with
        | nil => simp [printL, Lib.lens]
        | cons x xs ihx =>
          have h1 := print_len x
          simp only [printL, Lib.lens, List.map_cons, List.sum_cons, letL, cntL] at ihx ⊢
          omega
      exact this _
    simp only [Lib.lens, List.map_cons, List.sum_cons, List.length_cons, List.length_nil] at hj1 hj2 hlens
    have hpf : (preF n).length ≤ n.field.length + 2 := by unfold preF; split <;> simp
    have c40 : (((preF n).length : Int) + 1 ≤ maxI64) = True := by simp only [maxI64, eq_iff_iff, iff_true]; omega
    repeat with_reducible (first | refine E0 ?_ | refine E1 ?_ | refine E2 ?_ | refine E3 ?_ | refine E4 ?_ | refine E5 (by decide) ?_ | refine E6 ?_ | refine E7 ?_ | refine E8 ?_ | refine E9 ?_ | refine Ea ?_ | refine Eb ?_ | refine Ec ?_ | refine Ed ?_)
    by_cases hb2 : n.bad = 2
    · rw [if_pos hb2] at hpr
      have m1 : (((preF n).length : Int) + 9 ≤ maxI64) = True := by simp only [maxI64, eq_iff_iff, iff_true]; omega
      have m2 := mx (x := preF n ++ [40, 77, 73, 83, 83, 73, 78, 71, 32]) (y := n.kind) (by simp; omega)
      have m3 : (((preF n ++ [40, 77, 73, 83, 83, 73, 78, 71, 32] ++ n.kind).length : Int) + 1 ≤ maxI64) = True := by simp only [maxI64, eq_iff_iff, iff_true, List.length_append, List.length_cons, List.length_nil]; omega
      refine W_region fun K hK => ?_
      simp only [KA, KB, KP, KQ, reduceCtorEq, ↓reduceIte, Int.reduceLT, Int.reduceLE, Int.reduceAdd, Int.reduceSub, Int.reduceNeg, Int.reduceMul, Int.reduceToNat, Int.reduceEq, Int.reduceNe, Int.reduceGT, Int.reduceGE, Nat.reducePow, Nat.reduceAdd, Nat.reduceSub, Nat.reduceLT, Nat.reduceMul, Nat.reduceDiv, Nat.reduceEqDiff, Nat.reduceLeDiff, KT w, hw.KF, htm, h1, g0, hb2]
      refine hK _ _ ?_
      clear hK
      clear K
      repeat with_reducible (first | refine E0 ?_ | refine E1 ?_ | refine E2 ?_ | refine E3 ?_ | refine E4 ?_ | refine E5 (by decide) ?_ | refine E6 ?_ | refine E7 ?_ | refine E8 ?_ | refine E9 ?_ | refine Ea ?_ | refine Eb ?_ | refine Ec ?_ | refine Ed ?_)
      refine W_condT (by simp only [KA, KP, KQ, reduceCtorEq, ↓reduceIte, Int.reduceLT, Int.reduceLE, Int.reduceAdd, Int.reduceSub, Int.reduceNeg, Int.reduceMul, Int.reduceToNat, Int.reduceEq, Int.reduceNe, Int.reduceGT, Int.reduceGE, Nat.reducePow, Nat.reduceAdd, Nat.reduceSub, Nat.reduceLT, Nat.reduceMul, Nat.reduceDiv, Nat.reduceEqDiff, Nat.reduceLeDiff, KT w, hw.KF, htm]) ?_
      repeat with_reducible (first | refine E0 ?_ | refine E1 ?_ | refine E2 ?_ | refine E3 ?_ | refine E4 ?_ | refine E5 (by decide) ?_ | refine E6 ?_ | refine E7 ?_ | refine E8 ?_ | refine E9 ?_ | refine Ea ?_ | refine Eb ?_ | refine Ec ?_ | refine Ed ?_)
      refine W_region fun K hK => ?_
      simp only [KA, KB, KP, KQ, reduceCtorEq, ↓reduceIte, Int.reduceLT, Int.reduceLE, Int.reduceAdd, Int.reduceSub, Int.reduceNeg, Int.reduceMul, Int.reduceToNat, Int.reduceEq, Int.reduceNe, Int.reduceGT, Int.reduceGE, Nat.reducePow, Nat.reduceAdd, Nat.reduceSub, Nat.reduceLT, Nat.reduceMul, Nat.reduceDiv, Nat.reduceEqDiff, Nat.reduceLeDiff, KT w, hw.KF, htm, h1, h3, g0, m1, m2, m3]
      refine hK _ _ ?_
      clear hK
      clear K
      repeat with_reducible (first | refine E0 ?_ | refine E1 ?_ | refine E2 ?_ | refine E3 ?_ | refine E4 ?_ | refine E5 (by decide) ?_ | refine E6 ?_ | refine E7 ?_ | refine E8 ?_ | refine E9 ?_ | refine Ea ?_ | refine Eb ?_ | refine Ec ?_ | refine Ed ?_)
      refine AtEnd_of rfl ?_
      simp only [KA, KP, KQ, reduceCtorEq, ↓reduceIte, Int.reduceLT, Int.reduceLE, Int.reduceAdd, Int.reduceSub, Int.reduceNeg, Int.reduceMul, Int.reduceToNat, Int.reduceEq, Int.reduceNe, Int.reduceGT, Int.reduceGE, Nat.reducePow, Nat.reduceAdd, Nat.reduceSub, Nat.reduceLT, Nat.reduceMul, Nat.reduceDiv, Nat.reduceEqDiff, Nat.reduceLeDiff, KT w, hw.KF, htm, RS_some, aresults_nil, aresults_tmp, aresults_cell, one]
      rw [hpr]
      exact FZ_str
    · rw [if_neg hb2] at hpr
      refine W_region fun K hK => ?_
      simp only [KA, KB, KP, KQ, reduceCtorEq, ↓reduceIte, Int.reduceLT, Int.reduceLE, Int.reduceAdd, Int.reduceSub, Int.reduceNeg, Int.reduceMul, Int.reduceToNat, Int.reduceEq, Int.reduceNe, Int.reduceGT, Int.reduceGE, Nat.reducePow, Nat.reduceAdd, Nat.reduceSub, Nat.reduceLT, Nat.reduceMul, Nat.reduceDiv, Nat.reduceEqDiff, Nat.reduceLeDiff, KT w, hw.KF, htm, h1, g0, hb2]
      refine hK _ _ ?_
      clear hK
      clear K
      repeat with_reducible (first | refine E0 ?_ | refine E1 ?_ | refine E2 ?_ | refine E3 ?_ | refine E4 ?_ | refine E5 (by decide) ?_ | refine E6 ?_ | refine E7 ?_ | refine E8 ?_ | refine E9 ?_ | refine Ea ?_ | refine Eb ?_ | refine Ec ?_ | refine Ed ?_)
      refine W_condF (by simp only [KA, KP, KQ, reduceCtorEq, ↓reduceIte, Int.reduceLT, Int.reduceLE, Int.reduceAdd, Int.reduceSub, Int.reduceNeg, Int.reduceMul, Int.reduceToNat, Int.reduceEq, Int.reduceNe, Int.reduceGT, Int.reduceGE, Nat.reducePow, Nat.reduceAdd, Nat.reduceSub, Nat.reduceLT, Nat.reduceMul, Nat.reduceDiv, Nat.reduceEqDiff, Nat.reduceLeDiff, KT w, hw.KF, htm]) ?_
      repeat with_reducible (first | refine E0 ?_ | refine E1 ?_ | refine E2 ?_ | refine E3 ?_ | refine E4 ?_ | refine E5 (by decide) ?_ | refine E6 ?_ | refine E7 ?_ | refine E8 ?_ | refine E9 ?_ | refine Ea ?_ | refine Eb ?_ | refine Ec ?_ | refine Ed ?_)
      refine W.mono (Q := fun e fr S2 => e = .nrm ∧ S2 = S ∧ ∃ tm : List AV, fr = ⟨tm, [], none, 58⟩ ∧ tm.length = 71 ∧ tget tm 1 = .ptr 0 0 ∧ tget tm 3 = .str (preF n) ∧ tget tm 4 = a ∧ tget tm 36 = .bool (decide (n.named = true ∨ n.bad = 1))) ?_ ?_
      · cases hnm : n.named with
        | true =>
          refine W_region fun K hK => ?_
          simp only [KA, KB, KP, KQ, reduceCtorEq, ↓reduceIte, Int.reduceLT, Int.reduceLE, Int.reduceAdd, Int.reduceSub, Int.reduceNeg, Int.reduceMul, Int.reduceToNat, Int.reduceEq, Int.reduceNe, Int.reduceGT, Int.reduceGE, Nat.reducePow, Nat.reduceAdd, Nat.reduceSub, Nat.reduceLT, Nat.reduceMul, Nat.reduceDiv, Nat.reduceEqDiff, Nat.reduceLeDiff, KT w, hw.KF, htm, h1, g0, hnm]
          refine hK _ _ ?_
          clear hK
          clear K
          refine ⟨rfl, rfl, _, rfl, ?_⟩
          simp only [KA, KP, KQ, reduceCtorEq, ↓reduceIte, Int.reduceLT, Int.reduceLE, Int.reduceAdd, Int.reduceSub, Int.reduceNeg, Int.reduceMul, Int.reduceToNat, Int.reduceEq, Int.reduceNe, Int.reduceGT, Int.reduceGE, Nat.reducePow, Nat.reduceAdd, Nat.reduceSub, Nat.reduceLT, Nat.reduceMul, Nat.reduceDiv, Nat.reduceEqDiff, Nat.reduceLeDiff, KT w, hw.KF, htm, h1, h3, h4]
          try simp
        | false =>
          by_cases hb1 : n.bad = 1
          · refine W_region fun K hK => ?_
            simp only [KA, KB, KP, KQ, reduceCtorEq, ↓reduceIte, Int.reduceLT, Int.reduceLE, Int.reduceAdd, Int.reduceSub, Int.reduceNeg, Int.reduceMul, Int.reduceToNat, Int.reduceEq, Int.reduceNe, Int.reduceGT, Int.reduceGE, Nat.reducePow, Nat.reduceAdd, Nat.reduceSub, Nat.reduceLT, Nat.reduceMul, Nat.reduceDiv, Nat.reduceEqDiff, Nat.reduceLeDiff, KT w, hw.KF, htm, h1, g0, hnm, hb1]
            refine hK _ _ ?_
            clear hK
            clear K
            refine ⟨rfl, rfl, _, rfl, ?_⟩
            simp only [KA, KP, KQ, reduceCtorEq, ↓reduceIte, Int.reduceLT, Int.reduceLE, Int.reduceAdd, Int.reduceSub, Int.reduceNeg, Int.reduceMul, Int.reduceToNat, Int.reduceEq, Int.reduceNe, Int.reduceGT, Int.reduceGE, Nat.reducePow, Nat.reduceAdd, Nat.reduceSub, Nat.reduceLT, Nat.reduceMul, Nat.reduceDiv, Nat.reduceEqDiff, Nat.reduceLeDiff, KT w, hw.KF, htm, h1, h3, h4]
            try simp [hb1]
          · refine W_region fun K hK => ?_
            simp only [KA, KB, KP, KQ, reduceCtorEq, ↓reduceIte, Int.reduceLT, Int.reduceLE, Int.reduceAdd, Int.reduceSub, Int.reduceNeg, Int.reduceMul, Int.reduceToNat, Int.reduceEq, Int.reduceNe, Int.reduceGT, Int.reduceGE, Nat.reducePow, Nat.reduceAdd, Nat.reduceSub, Nat.reduceLT, Nat.reduceMul, Nat.reduceDiv, Nat.reduceEqDiff, Nat.reduceLeDiff, KT w, hw.KF, htm, h1, g0, hnm, hb1]
            refine hK _ _ ?_
            clear hK
            clear K
            refine ⟨rfl, rfl, _, rfl, ?_⟩
            simp only [KA, KP, KQ, reduceCtorEq, ↓reduceIte, Int.reduceLT, Int.reduceLE, Int.reduceAdd, Int.reduceSub, Int.reduceNeg, Int.reduceMul, Int.reduceToNat, Int.reduceEq, Int.reduceNe, Int.reduceGT, Int.reduceGE, Nat.reducePow, Nat.reduceAdd, Nat.reduceSub, Nat.reduceLT, Nat.reduceMul, Nat.reduceDiv, Nat.reduceEqDiff, Nat.reduceLeDiff, KT w, hw.KF, htm, h1, h3, h4]
            try simp [hb1]
      clear htm h1 h3 h4 h14 h15 h16
      rintro e fr S2 ⟨rfl, rfl, tm, rfl, htm, h1, h3, h4, h36⟩
      repeat with_reducible (first | refine E0 ?_ | refine E1 ?_ | refine E2 ?_ | refine E3 ?_ | refine E4 ?_ | refine E5 (by decide) ?_ | refine E6 ?_ | refine E7 ?_ | refine E8 ?_ | refine E9 ?_ | refine Ea ?_ | refine Eb ?_ | refine Ec ?_ | refine Ed ?_)
      by_cases hc : n.named = true ∨ n.bad = 1
      · rw [if_pos hc] at hpr
        rw [decide_eq_true hc] at h36
        refine W_condT (by simp only [KA, KP, KQ, reduceCtorEq, ↓reduceIte, Int.reduceLT, Int.reduceLE, Int.reduceAdd, Int.reduceSub, Int.reduceNeg, Int.reduceMul, Int.reduceToNat, Int.reduceEq, Int.reduceNe, Int.reduceGT, Int.reduceGE, Nat.reducePow, Nat.reduceAdd, Nat.reduceSub, Nat.reduceLT, Nat.reduceMul, Nat.reduceDiv, Nat.reduceEqDiff, Nat.reduceLeDiff, KT w, hw.KF, h36]) ?_
        repeat with_reducible (first | refine E0 ?_ | refine E1 ?_ | refine E2 ?_ | refine E3 ?_ | refine E4 ?_ | refine E5 (by decide) ?_ | refine E6 ?_ | refine E7 ?_ | refine E8 ?_ | refine E9 ?_ | refine Ea ?_ | refine Eb ?_ | refine Ec ?_ | refine Ed ?_)
        have m2 := mx (x := preF n ++ [40]) (y := Lib.join (n.kind :: printL n.kids) [32]) (by simp only [List.length_append, List.length_cons, List.length_nil]; omega)
        have m3 : (((preF n ++ [40] ++ Lib.join (n.kind :: printL n.kids) [32]).length : Int) + 1 ≤ maxI64) = True := by simp only [maxI64, eq_iff_iff, iff_true, List.length_append, List.length_cons, List.length_nil]; omega
        rcases ha with ⟨h0, rfl⟩ | ⟨hi0, o, g, rfl, ho1, ho2, hgo⟩
        · have hk : printL n.kids = [] := List.eq_nil_of_length_eq_zero (by omega)
          have hcj := join_call he (v := .lit [[.str n.kind]]) (ls := n.kind :: printL n.kids) (by rw [hk]; rfl) (by simp; omega) (by omega)
          rw [hpr]
          generalize Lib.join (n.kind :: printL n.kids) [32] = J at *
          refine W_region fun K hK => ?_
          simp only [KA, KB, KP, KQ, reduceCtorEq, ↓reduceIte, Int.reduceLT, Int.reduceLE, Int.reduceAdd, Int.reduceSub, Int.reduceNeg, Int.reduceMul, Int.reduceToNat, Int.reduceEq, Int.reduceNe, Int.reduceGT, Int.reduceGE, Nat.reducePow, Nat.reduceAdd, Nat.reduceSub, Nat.reduceLT, Nat.reduceMul, Nat.reduceDiv, Nat.reduceEqDiff, Nat.reduceLeDiff, KT w, hw.KF, htm, h1, h3, h4, g0, c40, m2, m3, hcj]
          refine hK _ _ ?_
          clear hK
          clear K
          repeat with_reducible (first | refine E0 ?_ | refine E1 ?_ | refine E2 ?_ | refine E3 ?_ | refine E4 ?_ | refine E5 (by decide) ?_ | refine E6 ?_ | refine E7 ?_ | refine E8 ?_ | refine E9 ?_ | refine Ea ?_ | refine Eb ?_ | refine Ec ?_ | refine Ed ?_)
          refine AtEnd_of rfl ?_
          simp only [KA, KP, KQ, reduceCtorEq, ↓reduceIte, Int.reduceLT, Int.reduceLE, Int.reduceAdd, Int.reduceSub, Int.reduceNeg, Int.reduceMul, Int.reduceToNat, Int.reduceEq, Int.reduceNe, Int.reduceGT, Int.reduceGE, Nat.reducePow, Nat.reduceAdd, Nat.reduceSub, Nat.reduceLT, Nat.reduceMul, Nat.reduceDiv, Nat.reduceEqDiff, Nat.reduceLeDiff, KT w, hw.KF, htm, RS_some, aresults_nil, aresults_tmp, aresults_cell, one]
          exact FZ_str
        · have hcj := fun S : St => join_call he (v := .own ([[.str n.kind]] ++ strR (printL n.kids)) S.n 0) (ls := n.kind :: printL n.kids) rfl (by simp; omega) (by omega)
          have hsl : (strR (printL n.kids)).length = n.kids.length := by simp [strR, printL_len]
          obtain ⟨r0, rs, hrs⟩ : ∃ r0 rs, strR (printL n.kids) = r0 :: rs := by
            cases hq : strR (printL n.kids) with
            | nil => rw [hq] at hsl; simp at hsl; omega
            | cons r rs => exact ⟨r, rs, rfl⟩
          have hhd : headOk 1 (strR (printL n.kids)) = true := by cases hq : printL n.kids <;> rfl
          rw [hrs] at hcj hsl hhd
          simp only [headOk] at hhd
          simp only [List.length_cons] at hsl
          have hcap : ((1 + (rs.length + 1) + (1 + (rs.length + 1)) / 4 + 1000) * 16 ≤ 281474976710656) = True := by simp; omega
          have hcap2 : ((0 + 1 + (rs.length + 1) + (0 + 1 + (rs.length + 1)) / 4 + 1000) * 16 ≤ 281474976710656) = True := by simp; omega
          rw [hpr]
          generalize Lib.join (n.kind :: printL n.kids) [32] = J at *
          simp only [List.cons_append, List.nil_append] at hcj
          have hcj1 := hcj S2
          refine W_region fun K hK => ?_
          simp only [KA, KB, KP, KQ, reduceCtorEq, ↓reduceIte, Int.reduceLT, Int.reduceLE, Int.reduceAdd, Int.reduceSub, Int.reduceNeg, Int.reduceMul, Int.reduceToNat, Int.reduceEq, Int.reduceNe, Int.reduceGT, Int.reduceGE, Nat.reducePow, Nat.reduceAdd, Nat.reduceSub, Nat.reduceLT, Nat.reduceMul, Nat.reduceDiv, Nat.reduceEqDiff, Nat.reduceLeDiff, KT w, hw.KF, htm, h1, h3, h4, g0, c40, m2, m3, hcap, hcap2, hhd, hrs, hcj1, hcj]
          refine hK _ _ ?_
          clear hK
          clear K
          repeat with_reducible (first | refine E0 ?_ | refine E1 ?_ | refine E2 ?_ | refine E3 ?_ | refine E4 ?_ | refine E5 (by decide) ?_ | refine E6 ?_ | refine E7 ?_ | refine E8 ?_ | refine E9 ?_ | refine Ea ?_ | refine Eb ?_ | refine Ec ?_ | refine Ed ?_)
          refine AtEnd_of rfl ?_
          simp only [KA, KP, KQ, reduceCtorEq, ↓reduceIte, Int.reduceLT, Int.reduceLE, Int.reduceAdd, Int.reduceSub, Int.reduceNeg, Int.reduceMul, Int.reduceToNat, Int.reduceEq, Int.reduceNe, Int.reduceGT, Int.reduceGE, Nat.reducePow, Nat.reduceAdd, Nat.reduceSub, Nat.reduceLT, Nat.reduceMul, Nat.reduceDiv, Nat.reduceEqDiff, Nat.reduceLeDiff, KT w, hw.KF, htm, RS_some, aresults_nil, aresults_tmp, aresults_cell, one]
          exact FZ_str
      · rw [if_neg hc] at hpr
        rw [decide_eq_false hc] at h36
        refine W_condF (by simp only [KA, KP, KQ, reduceCtorEq, ↓reduceIte, Int.reduceLT, Int.reduceLE, Int.reduceAdd, Int.reduceSub, Int.reduceNeg, Int.reduceMul, Int.reduceToNat, Int.reduceEq, Int.reduceNe, Int.reduceGT, Int.reduceGE, Nat.reducePow, Nat.reduceAdd, Nat.reduceSub, Nat.reduceLT, Nat.reduceMul, Nat.reduceDiv, Nat.reduceEqDiff, Nat.reduceLeDiff, KT w, hw.KF, h36]) ?_
        repeat with_reducible (first | refine E0 ?_ | refine E1 ?_ | refine E2 ?_ | refine E3 ?_ | refine E4 ?_ | refine E5 (by decide) ?_ | refine E6 ?_ | refine E7 ?_ | refine E8 ?_ | refine E9 ?_ | refine Ea ?_ | refine Eb ?_ | refine Ec ?_ | refine Ed ?_)
        rcases ha with ⟨h0, rfl⟩ | ⟨hi0, o, g, rfl, ho1, ho2, hgo⟩
        · have hk : printL n.kids = [] := List.eq_nil_of_length_eq_zero (by omega)
          rw [if_pos hk] at hpr
          have m2 := mx (x := preF n) (y := n.kind) (by omega)
          rw [hpr]
          refine W_region fun K hK => ?_
          simp only [KA, KB, KP, KQ, reduceCtorEq, ↓reduceIte, Int.reduceLT, Int.reduceLE, Int.reduceAdd, Int.reduceSub, Int.reduceNeg, Int.reduceMul, Int.reduceToNat, Int.reduceEq, Int.reduceNe, Int.reduceGT, Int.reduceGE, Nat.reducePow, Nat.reduceAdd, Nat.reduceSub, Nat.reduceLT, Nat.reduceMul, Nat.reduceDiv, Nat.reduceEqDiff, Nat.reduceLeDiff, KT w, hw.KF, htm, h4]
          refine hK _ _ ?_
          clear hK
          clear K
          repeat with_reducible (first | refine E0 ?_ | refine E1 ?_ | refine E2 ?_ | refine E3 ?_ | refine E4 ?_ | refine E5 (by decide) ?_ | refine E6 ?_ | refine E7 ?_ | refine E8 ?_ | refine E9 ?_ | refine Ea ?_ | refine Eb ?_ | refine Ec ?_ | refine Ed ?_)
          refine W_condF (by simp only [KA, KP, KQ, reduceCtorEq, ↓reduceIte, Int.reduceLT, Int.reduceLE, Int.reduceAdd, Int.reduceSub, Int.reduceNeg, Int.reduceMul, Int.reduceToNat, Int.reduceEq, Int.reduceNe, Int.reduceGT, Int.reduceGE, Nat.reducePow, Nat.reduceAdd, Nat.reduceSub, Nat.reduceLT, Nat.reduceMul, Nat.reduceDiv, Nat.reduceEqDiff, Nat.reduceLeDiff, KT w, hw.KF, htm]) ?_
          repeat with_reducible (first | refine E0 ?_ | refine E1 ?_ | refine E2 ?_ | refine E3 ?_ | refine E4 ?_ | refine E5 (by decide) ?_ | refine E6 ?_ | refine E7 ?_ | refine E8 ?_ | refine E9 ?_ | refine Ea ?_ | refine Eb ?_ | refine Ec ?_ | refine Ed ?_)
          refine W_region fun K hK => ?_
          simp only [KA, KB, KP, KQ, reduceCtorEq, ↓reduceIte, Int.reduceLT, Int.reduceLE, Int.reduceAdd, Int.reduceSub, Int.reduceNeg, Int.reduceMul, Int.reduceToNat, Int.reduceEq, Int.reduceNe, Int.reduceGT, Int.reduceGE, Nat.reducePow, Nat.reduceAdd, Nat.reduceSub, Nat.reduceLT, Nat.reduceMul, Nat.reduceDiv, Nat.reduceEqDiff, Nat.reduceLeDiff, KT w, hw.KF, htm, h1, h3, g0, m2]
          refine hK _ _ ?_
          clear hK
          clear K
          repeat with_reducible (first | refine E0 ?_ | refine E1 ?_ | refine E2 ?_ | refine E3 ?_ | refine E4 ?_ | refine E5 (by decide) ?_ | refine E6 ?_ | refine E7 ?_ | refine E8 ?_ | refine E9 ?_ | refine Ea ?_ | refine Eb ?_ | refine Ec ?_ | refine Ed ?_)
          refine AtEnd_of rfl ?_
          simp only [KA, KP, KQ, reduceCtorEq, ↓reduceIte, Int.reduceLT, Int.reduceLE, Int.reduceAdd, Int.reduceSub, Int.reduceNeg, Int.reduceMul, Int.reduceToNat, Int.reduceEq, Int.reduceNe, Int.reduceGT, Int.reduceGE, Nat.reducePow, Nat.reduceAdd, Nat.reduceSub, Nat.reduceLT, Nat.reduceMul, Nat.reduceDiv, Nat.reduceEqDiff, Nat.reduceLeDiff, KT w, hw.KF, htm, RS_some, aresults_nil, aresults_tmp, aresults_cell, one]
          exact FZ_str
        · have hk : ¬ printL n.kids = [] := fun h => by have := congrArg List.length h; rw [hplk] at this; simp at this; exact hi0 (by rw [this]; rfl)
          rw [if_neg hk] at hpr
          have hsl : (strR (printL n.kids)).length = n.kids.length := by simp [strR, printL_len]
          have hje := joinE_ok (v := .own (strR (printL n.kids)) o g) (ls := printL n.kids) rfl (by omega) (by omega)
          have hgt : (((n.kids.length : Nat) : Int) > 0) = True := by simp only [eq_iff_iff, iff_true]; omega
          have m2 := mx (x := preF n) (y := n.kind) (by omega)
          have m3 : (((preF n ++ n.kind).length : Int) + 1 ≤ maxI64) = True := by simp only [maxI64, eq_iff_iff, iff_true, List.length_append]; omega
          have m4 := mx (x := preF n ++ n.kind ++ [91]) (y := Lib.join (printL n.kids) [32]) (by simp only [List.length_append, List.length_cons, List.length_nil]; omega)
          have m5 : (((preF n ++ n.kind ++ [91] ++ Lib.join (printL n.kids) [32]).length : Int) + 1 ≤ maxI64) = True := by simp only [maxI64, eq_iff_iff, iff_true, List.length_append, List.length_cons, List.length_nil]; omega
          rw [hpr]
          generalize Lib.join (printL n.kids) [32] = J at *
          generalize strR (printL n.kids) = R at *
          refine W_region fun K hK => ?_
          simp only [KA, KB, KP, KQ, reduceCtorEq, ↓reduceIte, Int.reduceLT, Int.reduceLE, Int.reduceAdd, Int.reduceSub, Int.reduceNeg, Int.reduceMul, Int.reduceToNat, Int.reduceEq, Int.reduceNe, Int.reduceGT, Int.reduceGE, Nat.reducePow, Nat.reduceAdd, Nat.reduceSub, Nat.reduceLT, Nat.reduceMul, Nat.reduceDiv, Nat.reduceEqDiff, Nat.reduceLeDiff, KT w, hw.KF, htm, h4, hsl, hgt]
          refine hK _ _ ?_
          clear hK
          clear K
          repeat with_reducible (first | refine E0 ?_ | refine E1 ?_ | refine E2 ?_ | refine E3 ?_ | refine E4 ?_ | refine E5 (by decide) ?_ | refine E6 ?_ | refine E7 ?_ | refine E8 ?_ | refine E9 ?_ | refine Ea ?_ | refine Eb ?_ | refine Ec ?_ | refine Ed ?_)
          refine W_condT (by simp only [KA, KP, KQ, reduceCtorEq, ↓reduceIte, Int.reduceLT, Int.reduceLE, Int.reduceAdd, Int.reduceSub, Int.reduceNeg, Int.reduceMul, Int.reduceToNat, Int.reduceEq, Int.reduceNe, Int.reduceGT, Int.reduceGE, Nat.reducePow, Nat.reduceAdd, Nat.reduceSub, Nat.reduceLT, Nat.reduceMul, Nat.reduceDiv, Nat.reduceEqDiff, Nat.reduceLeDiff, KT w, hw.KF, htm]) ?_
          repeat with_reducible (first | refine E0 ?_ | refine E1 ?_ | refine E2 ?_ | refine E3 ?_ | refine E4 ?_ | refine E5 (by decide) ?_ | refine E6 ?_ | refine E7 ?_ | refine E8 ?_ | refine E9 ?_ | refine Ea ?_ | refine Eb ?_ | refine Ec ?_ | refine Ed ?_)
          refine W_regionQ (by decide +kernel) fun K hK => ?_
          simp only [KA, KB, KP, KQ, reduceCtorEq, ↓reduceIte, Int.reduceLT, Int.reduceLE, Int.reduceAdd, Int.reduceSub, Int.reduceNeg, Int.reduceMul, Int.reduceToNat, Int.reduceEq, Int.reduceNe, Int.reduceGT, Int.reduceGE, Nat.reducePow, Nat.reduceAdd, Nat.reduceSub, Nat.reduceLT, Nat.reduceMul, Nat.reduceDiv, Nat.reduceEqDiff, Nat.reduceLeDiff, KT w, hw.KF, htm, h1, h3, h4, g0, he, hje, m2, m3, m4, m5]
          refine hK _ _ ?_
          clear hK
          clear K
          repeat with_reducible (first | refine E0 ?_ | refine E1 ?_ | refine E2 ?_ | refine E3 ?_ | refine E4 ?_ | refine E5 (by decide) ?_ | refine E6 ?_ | refine E7 ?_ | refine E8 ?_ | refine E9 ?_ | refine Ea ?_ | refine Eb ?_ | refine Ec ?_ | refine Ed ?_)
          refine AtEnd_of rfl ?_
          simp only [KA, KP, KQ, reduceCtorEq, ↓reduceIte, Int.reduceLT, Int.reduceLE, Int.reduceAdd, Int.reduceSub, Int.reduceNeg, Int.reduceMul, Int.reduceToNat, Int.reduceEq, Int.reduceNe, Int.reduceGT, Int.reduceGE, Nat.reducePow, Nat.reduceAdd, Nat.reduceSub, Nat.reduceLT, Nat.reduceMul, Nat.reduceDiv, Nat.reduceEqDiff, Nat.reduceLeDiff, KT w, hw.KF, htm, RS_some, aresults_nil, aresults_tmp, aresults_cell, one]
          exact FZ_str
end Go.Am.B
