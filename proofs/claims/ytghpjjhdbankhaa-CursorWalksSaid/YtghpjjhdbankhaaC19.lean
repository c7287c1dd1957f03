/- NEXT GOES THROUGH ALL PATHS, AND THEY RISE; THE REFERENCE'S COUNT. -/
import Derived.Test.YtghpjjhdbankhaaC18
import Derived.Test.YtghpjjhdbankhaaC12
set_option linter.unusedSimpArgs false
set_option linter.unusedVariables false
set_option maxRecDepth 20000
namespace Go.Am.B
open Go.Proofs Go.IntWalk

variable {w : Ways}

/-- What comes first, or else z. -/
def hdO (l : List (List Int)) (z : Option (List Int)) : Option (List Int) := match l with | [] => z | y :: _ => some y
/-- Each is followed by the next one, the last one by z. -/
def chain (f : List Int → Option (List Int)) : List (List Int) → Option (List Int) → Prop
  | [], _ => True
  | x :: r, z => f x = hdO r z ∧ chain f r z
theorem hdO_app (a b : List (List Int)) (z : Option (List Int)) : hdO (a ++ b) z = hdO a (hdO b z) := by cases a <;> rfl
theorem chain_app {f : List Int → Option (List Int)} {a b : List (List Int)} {z : Option (List Int)} (h : chain f a (hdO b z)) (k : chain f b z) : chain f (a ++ b) z := by
  induction a with
  | nil => exact k
  | cons x xs ih => exact ⟨by show f x = hdO (xs ++ b) z; rw [hdO_app]; exact h.1, ih h.2⟩
theorem chain_get {f : List Int → Option (List Int)} : ∀ {l : List (List Int)} {z : Option (List Int)}, chain f l z → ∀ (i : Nat) (x : List Int), l[i]? = some x → f x = hdO (l.drop (i + 1)) z
  | [], _, _, i, x, h => by simp at h
  | y :: r, z, k, 0, x, h => by simp at h; subst h; exact k.1
  | y :: r, z, k, i + 1, x, h => by
    have := chain_get k.2 i x (by simpa using h)
    simpa using this

theorem hdO_allP (m : Node) (p : List Int) (l : List (List Int)) (z : Option (List Int)) : hdO (allP m p ++ l) z = some p := by rw [allP_eq]; rfl

theorem kid_at {n m : Node} {p : List Int} (h : find n p = some m) (i : Nat) : find n (p ++ [(i : Int)]) = m.kids[i]? := by
  rw [find_app, h]
  dsimp only
  by_cases hi : i < m.kids.length
  · rw [if_neg (by omega), List.getElem?_eq_getElem hi]
    simp [List.getD, hi]
  · rw [if_pos (by omega), List.getElem?_eq_none (by omega)]

theorem next_chain {n : Node} (m : Node) : m.ok → ∀ p, find n p = some m → chain (next n) (allP m p) (climb n (p.length + 1) p) := by
  induction m using Node.ind with
  | h m ih =>
  intro hm p hp
  have hkl := Node.ok_kids hm
  have hdn : next n p = hdO (allL m.kids p 0) (climb n (p.length + 1) p) := by
    have h0 := kid_at hp 0
    unfold next down thereP
    rw [Int.ofNat_zero] at h0
    rw [h0]
    cases hk : m.kids with
    | nil => simp [allL, hdO]
    | cons k ks =>
      simp only [List.getElem?_cons_zero, Option.isSome_some, if_true, allL]
      rw [hdO_allP, Int.ofNat_zero]
  have hL : ∀ (ks : List Node) (i : Nat), ks = m.kids.drop i → i ≤ m.kids.length → chain (next n) (allL ks p i) (climb n (p.length + 1) p) := by
    intro ks
    induction ks with
    | nil => intro i _ _; trivial
    | cons k ks ihk =>
      intro i he hi
      have hki : m.kids[i]? = some k := by
        have := congrArg (fun l => l[0]?) he
        simpa using this.symm
      have hks : ks = m.kids.drop (i + 1) := by
        have := drop_of_get hki
        rw [← he] at this
        simpa using this
      have hlt : i < m.kids.length := by rw [List.getElem?_eq_some_iff] at hki; exact hki.1
      have hf := kid_at hp i
      rw [hki] at hf
      have h1 := ih k (List.mem_of_getElem? hki) (Node.ok_kid hm k (List.mem_of_getElem? hki)) _ hf
      have hup : up n (p ++ [(i : Int)]) = some p := up_snoc (by rw [hf]; rfl)
      refine chain_app ?_ (ihk (i + 1) hks (by omega))
      have e : climb n ((p ++ [(i : Int)]).length + 1) (p ++ [(i : Int)]) = hdO (allL ks p (i + 1)) (climb n (p.length + 1) p) := by
        rw [climb, asideP, hup]
        dsimp only
        have e1 : IntKind.i64.wrap ((p ++ [(i : Int)]).getLastD 0 + 1) = ((i + 1 : Nat) : Int) := by
          rw [List.getLastD_concat, i64_in _ (by omega)]
          omega
        rw [e1, thereP, kid_at hp (i + 1)]
        cases ks with
        | nil =>
          have : m.kids.length ≤ i + 1 := by
            have := congrArg List.length hks
            simp at this
            omega
          rw [List.getElem?_eq_none this]
          simp [allL, hdO]
        | cons k2 ks2 =>
          have hk2 : m.kids[i + 1]? = some k2 := by
            have := congrArg (fun l => l[0]?) hks
            simpa using this.symm
          rw [hk2]
          simp only [Option.isSome_some, if_true, allL]
          rw [hdO_allP]
      rw [← e]
      exact h1
  rw [allP_eq]
  exact ⟨hdn, hL _ 0 (by simp) (Nat.zero_le _)⟩

theorem climb_root (n : Node) : climb n 1 [] = none := by
  rw [climb, asideP, up_nil]
/-- The next one of the i-th is the one behind it. -/
theorem next_get {n : Node} (hn : n.ok) {i : Nat} {x : List Int} (h : (allP n [])[i]? = some x) : next n x = (allP n [])[i + 1]? := by
  have := chain_get (next_chain (n := n) n hn [] rfl) i x h
  rw [this]
  show hdO _ (climb n 1 []) = _
  rw [climb_root]
  by_cases hl : i + 1 < (allP n []).length
  · rw [List.getElem?_eq_getElem hl, List.drop_eq_getElem_cons hl]; rfl
  · rw [List.getElem?_eq_none (by omega), List.drop_eq_nil_of_le (by omega)]; rfl

/-! ### They rise -/
theorem ord_app (p a b : List Int) : ord (p ++ a) (p ++ b) = ord a b := by
  induction p with
  | nil => rfl
  | cons x xs ih => simp [ord, ih]
theorem memL (ks : List Node) (h : ∀ k ∈ ks, ∀ p q, q ∈ allP k p → ∃ s, q = p ++ s) : ∀ (p : List Int) (i : Nat) (q : List Int), q ∈ allL ks p i → ∃ (j : Int) (s : List Int), (i : Int) ≤ j ∧ q = p ++ j :: s := by
  induction ks with
  | nil => intro p i q h; simp [allL] at h
  | cons x xs ih =>
    intro p i q hq
    simp only [allL, List.mem_append] at hq
    rcases hq with hq | hq
    · obtain ⟨s, rfl⟩ := h x List.mem_cons_self _ _ hq
      exact ⟨i, s, Int.le_refl _, by simp⟩
    · obtain ⟨j, s, hj, e⟩ := ih (fun k hk => h k (List.mem_cons_of_mem _ hk)) _ _ _ hq
      exact ⟨j, s, by omega, e⟩
theorem memP (m : Node) : ∀ p q, q ∈ allP m p → ∃ s, q = p ++ s := by
  induction m using Node.ind with
  | h m ih =>
  intro p q hq
  rw [allP_eq, List.mem_cons] at hq
  rcases hq with rfl | hq
  · exact ⟨[], by simp⟩
  · obtain ⟨j, s, _, e⟩ := memL _ ih _ _ _ hq
    exact ⟨_, e⟩
theorem rise (m : Node) : ∀ p, (allP m p).Pairwise fun x y => ord x y = -1 := by
  induction m using Node.ind with
  | h m ih =>
  intro p
  have hL : ∀ (ks : List Node), (∀ k ∈ ks, ∀ p, (allP k p).Pairwise fun x y => ord x y = -1) → ∀ i, (allL ks p i).Pairwise fun x y => ord x y = -1 := by
    intro ks
    induction ks with
    | nil => intro _ i; exact List.Pairwise.nil
    | cons x xs ihx =>
      intro h i
      simp only [allL]
      rw [List.pairwise_append]
      refine ⟨h x List.mem_cons_self _, ihx (fun k hk => h k (List.mem_cons_of_mem _ hk)) _, fun a ha b hb => ?_⟩
      obtain ⟨s, rfl⟩ := memP x _ _ ha
      obtain ⟨j, t, hj, rfl⟩ := memL xs (fun k _ => memP k) _ _ _ hb
      rw [List.append_assoc, ord_app]
      simp only [List.cons_append, ord]
      rw [if_pos (by omega)]
  rw [allP_eq, List.pairwise_cons]
  refine ⟨fun q hq => ?_, hL _ ih 0⟩
  obtain ⟨j, s, _, rfl⟩ := memL _ (fun k _ => memP k) _ _ _ hq
  have := ord_app p [] (j :: s)
  rw [List.append_nil] at this
  rw [this]; rfl
theorem rise_get {n : Node} {i : Nat} {x y : List Int} (hx : (allP n [])[i]? = some x) (hy : (allP n [])[i + 1]? = some y) : ord x y = -1 := by
  have h := rise n []
  rw [List.pairwise_iff_getElem] at h
  rw [List.getElem?_eq_some_iff] at hx hy
  obtain ⟨h1, rfl⟩ := hx
  obtain ⟨h2, rfl⟩ := hy
  exact h i (i + 1) h1 h2 (by omega)

/-! ### How deep -/
mutual
def dep : Node → Nat
  | .mk _ _ _ _ _ _ ks => depL ks + 1
def depL : List Node → Nat
  | [] => 0
  | k :: ks => max (dep k) (depL ks)
end
theorem dep_eq (n : Node) : dep n = depL n.kids + 1 := by cases n; simp [dep, Node.kids]
theorem dep_le (n : Node) : dep n ≤ cnt n := by
  induction n using Node.ind with
  | h n ih =>
    have hL : ∀ ks : List Node, (∀ k ∈ ks, dep k ≤ cnt k) → depL ks ≤ cntL ks := by
      intro ks
      induction ks with
      | nil => intro _; simp [depL]
      | cons x xs ihx =>
        intro h
        have := h x List.mem_cons_self
        have := ihx (fun k hk => h k (List.mem_cons_of_mem _ hk))
        simp only [depL, cntL]
        omega
    rw [dep_eq, cnt_eq]
    have := hL _ ih
    omega
theorem cntL_split (ks : List Node) (i : Nat) (x : Node) (h : ks[i]? = some x) : cntL (ks.drop i) = cnt x + cntL (ks.drop (i + 1)) := by rw [drop_of_get h]; rfl
theorem depL_split (ks : List Node) (i : Nat) (x : Node) (h : ks[i]? = some x) : depL (ks.drop i) = max (dep x) (depL (ks.drop (i + 1))) := by rw [drop_of_get h]; rfl

theorem count33_ok (hw : Std w) (n : Node) : n.ok → cnt n ≤ 1000000 → PC (cfg w) 33 [n.av] (.tup [.int .i64 (cnt n), .int .i64 (dep n)]) := by
  induction n using Node.ind with
  | h n ih =>
  intro hn hcn
  have hkl := Node.ok_kids hn
  refine PC_of (args' := [n.av]) hw.e33 hw.m33 (by simp [nrmA, Node.nrm_all, nrm]) ?_
  have hdl := dep_le n
  refine call_of_W (fn33 w) rfl ?_
  simp only [Try.f33, List.length_cons, List.length_nil, ↓reduceIte, Int.reduceLT, Int.reduceLE, Int.reduceAdd, Int.reduceSub, Int.reduceNeg, Int.reduceMul, Int.reduceToNat, Int.reduceEq, Int.reduceNe, Int.reduceGT, Int.reduceGE, Nat.reducePow, IntKind.bits, Nat.reduceAdd, Nat.reduceSub, List.cons_append, List.nil_append]
  repeat with_reducible (first | refine E0 ?_ | refine E1 ?_ | refine E2 ?_ | refine E3 ?_ | refine E4 ?_ | refine E5 (by decide) ?_ | refine E6 ?_ | refine E7 ?_ | refine E8 ?_ | refine E9 ?_ | refine Ea ?_ | refine Eb ?_ | refine Ec ?_ | refine Ed ?_)
  refine W_region fun K hK => ?_
  simp only [KA, KB, KP, KQ, reduceCtorEq, ↓reduceIte, Int.reduceLT, Int.reduceLE, Int.reduceAdd, Int.reduceSub, Int.reduceNeg, Int.reduceMul, Int.reduceToNat, Int.reduceEq, Int.reduceNe, Int.reduceGT, Int.reduceGE, Nat.reducePow, Nat.reduceAdd, Nat.reduceSub, Nat.reduceLT, Nat.reduceMul, Nat.reduceDiv, Nat.reduceEqDiff, Nat.reduceLeDiff, KT w, hw.KF]
  refine hK _ _ ?_
  clear hK
  clear K
  repeat with_reducible (first | refine E0 ?_ | refine E1 ?_ | refine E2 ?_ | refine E3 ?_ | refine E4 ?_ | refine E5 (by decide) ?_ | refine E6 ?_ | refine E7 ?_ | refine E8 ?_ | refine E9 ?_ | refine Ea ?_ | refine Eb ?_ | refine Ec ?_ | refine Ed ?_)
  refine W_region fun K hK => ?_
  simp only [KA, KB, KP, KQ, reduceCtorEq, ↓reduceIte, Int.reduceLT, Int.reduceLE, Int.reduceAdd, Int.reduceSub, Int.reduceNeg, Int.reduceMul, Int.reduceToNat, Int.reduceEq, Int.reduceNe, Int.reduceGT, Int.reduceGE, Nat.reducePow, Nat.reduceAdd, Nat.reduceSub, Nat.reduceLT, Nat.reduceMul, Nat.reduceDiv, Nat.reduceEqDiff, Nat.reduceLeDiff, KT w, hw.KF]
  refine hK _ _ ?_
  clear hK
  clear K
  repeat with_reducible (first | refine E0 ?_ | refine E1 ?_ | refine E2 ?_ | refine E3 ?_ | refine E4 ?_ | refine E5 (by decide) ?_ | refine E6 ?_ | refine E7 ?_ | refine E8 ?_ | refine E9 ?_ | refine Ea ?_ | refine Eb ?_ | refine Ec ?_ | refine Ed ?_)
  refine W_region fun K hK => ?_
  simp only [KA, KB, KP, KQ, reduceCtorEq, ↓reduceIte, Int.reduceLT, Int.reduceLE, Int.reduceAdd, Int.reduceSub, Int.reduceNeg, Int.reduceMul, Int.reduceToNat, Int.reduceEq, Int.reduceNe, Int.reduceGT, Int.reduceGE, Nat.reducePow, Nat.reduceAdd, Nat.reduceSub, Nat.reduceLT, Nat.reduceMul, Nat.reduceDiv, Nat.reduceEqDiff, Nat.reduceLeDiff, KT w, hw.KF]
  refine hK _ _ ?_
  clear hK
  clear K
  repeat with_reducible (first | refine E0 ?_ | refine E1 ?_ | refine E2 ?_ | refine E3 ?_ | refine E4 ?_ | refine E5 (by decide) ?_ | refine E6 ?_ | refine E7 ?_ | refine E8 ?_ | refine E9 ?_ | refine Ea ?_ | refine Eb ?_ | refine Ec ?_ | refine Ed ?_)
  refine W_region fun K hK => ?_
  simp only [KA, KB, KP, KQ, reduceCtorEq, ↓reduceIte, Int.reduceLT, Int.reduceLE, Int.reduceAdd, Int.reduceSub, Int.reduceNeg, Int.reduceMul, Int.reduceToNat, Int.reduceEq, Int.reduceNe, Int.reduceGT, Int.reduceGE, Nat.reducePow, Nat.reduceAdd, Nat.reduceSub, Nat.reduceLT, Nat.reduceMul, Nat.reduceDiv, Nat.reduceEqDiff, Nat.reduceLeDiff, KT w, hw.KF]
  refine hK _ _ ?_
  clear hK
  clear K
  repeat with_reducible (first | refine E0 ?_ | refine E1 ?_ | refine E2 ?_ | refine E3 ?_ | refine E4 ?_ | refine E5 (by decide) ?_ | refine E6 ?_ | refine E7 ?_ | refine E8 ?_ | refine E9 ?_ | refine Ea ?_ | refine Eb ?_ | refine Ec ?_ | refine Ed ?_)
  refine W_loop (fun k fr S => ∃ (tm : List AV) (i c d : Nat), fr = ⟨tm, [], none, 33⟩ ∧ S = St.nil.push (.row n.cells false) ∧ k = n.kids.length - i ∧ i ≤ n.kids.length ∧ c + cntL (n.kids.drop i) = cnt n ∧ max d (depL (n.kids.drop i)) + 1 = dep n ∧
     tm.length = 34 ∧ tget tm 1 = .ptr 0 0 ∧ tget tm 4 = .int .i64 c ∧ tget tm 5 = .int .i64 d ∧ tget tm 6 = .int .i64 i) (n.kids.length)
    ⟨_, 0, 1, 0, rfl, rfl, rfl, Nat.zero_le _, by rw [cnt_eq]; simp; omega, by rw [dep_eq]; simp, ?_⟩ ?_
  · simp only [KA, KP, KQ, reduceCtorEq, ↓reduceIte, Int.reduceLT, Int.reduceLE, Int.reduceAdd, Int.reduceSub, Int.reduceNeg, Int.reduceMul, Int.reduceToNat, Int.reduceEq, Int.reduceNe, Int.reduceGT, Int.reduceGE, Nat.reducePow, Nat.reduceAdd, Nat.reduceSub, Nat.reduceLT, Nat.reduceMul, Nat.reduceDiv, Nat.reduceEqDiff, Nat.reduceLeDiff, KT w, hw.KF, Int.ofNat_zero, Int.ofNat_one]
  rintro k fr S ⟨tm, i, c, d, rfl, rfl, rfl, hi, hcs, hds, htm, h1, h4, h5, h6⟩
  repeat with_reducible (first | refine E0 ?_ | refine E1 ?_ | refine E2 ?_ | refine E3 ?_ | refine E4 ?_ | refine E5 (by decide) ?_ | refine E6 ?_ | refine E7 ?_ | refine E8 ?_ | refine E9 ?_ | refine Ea ?_ | refine Eb ?_ | refine Ec ?_ | refine Ed ?_)
  refine W_region fun K hK => ?_
  simp only [KA, KB, KP, KQ, reduceCtorEq, ↓reduceIte, Int.reduceLT, Int.reduceLE, Int.reduceAdd, Int.reduceSub, Int.reduceNeg, Int.reduceMul, Int.reduceToNat, Int.reduceEq, Int.reduceNe, Int.reduceGT, Int.reduceGE, Nat.reducePow, Nat.reduceAdd, Nat.reduceSub, Nat.reduceLT, Nat.reduceMul, Nat.reduceDiv, Nat.reduceEqDiff, Nat.reduceLeDiff, KT w, hw.KF, htm, h1, h6]
  refine hK _ _ ?_
  clear hK
  clear K
  repeat with_reducible (first | refine E0 ?_ | refine E1 ?_ | refine E2 ?_ | refine E3 ?_ | refine E4 ?_ | refine E5 (by decide) ?_ | refine E6 ?_ | refine E7 ?_ | refine E8 ?_ | refine E9 ?_ | refine Ea ?_ | refine Eb ?_ | refine Ec ?_ | refine Ed ?_)
  refine W_condP (p := _) (by simp only [KA, KP, KQ, reduceCtorEq, ↓reduceIte, Int.reduceLT, Int.reduceLE, Int.reduceAdd, Int.reduceSub, Int.reduceNeg, Int.reduceMul, Int.reduceToNat, Int.reduceEq, Int.reduceNe, Int.reduceGT, Int.reduceGE, Nat.reducePow, Nat.reduceAdd, Nat.reduceSub, Nat.reduceLT, Nat.reduceMul, Nat.reduceDiv, Nat.reduceEqDiff, Nat.reduceLeDiff, KT w, hw.KF, htm]; rfl) (fun hb => ?_) (fun hb => ?_)
  · obtain ⟨x, hx⟩ := get_of_lt (l := n.kids) (i := i) (by omega)
    rw [cntL_split _ _ _ hx] at hcs
    rw [depL_split _ _ _ hx] at hds
    have hcall := ih x (List.mem_of_getElem? hx) (Node.ok_kid hn x (List.mem_of_getElem? hx)) (by omega)
    have e1 : IntKind.i64.wrap ((i : Int) + 1) = (i : Int) + 1 := i64_in _ (by omega)
    have e2 : IntKind.i64.wrap ((c : Int) + cnt x) = ((c + cnt x : Nat) : Int) := by rw [i64_in _ (by omega)]; omega
    have hmx : (if ((dep x : Nat) : Int) > d then ((dep x : Nat) : Int) else d) = ((max d (dep x) : Nat) : Int) := by split <;> omega
    repeat with_reducible (first | refine E0 ?_ | refine E1 ?_ | refine E2 ?_ | refine E3 ?_ | refine E4 ?_ | refine E5 (by decide) ?_ | refine E6 ?_ | refine E7 ?_ | refine E8 ?_ | refine E9 ?_ | refine Ea ?_ | refine Eb ?_ | refine Ec ?_ | refine Ed ?_)
    refine W_region fun K hK => ?_
    simp only [KA, KB, KP, KQ, reduceCtorEq, ↓reduceIte, Int.reduceLT, Int.reduceLE, Int.reduceAdd, Int.reduceSub, Int.reduceNeg, Int.reduceMul, Int.reduceToNat, Int.reduceEq, Int.reduceNe, Int.reduceGT, Int.reduceGE, Nat.reducePow, Nat.reduceAdd, Nat.reduceSub, Nat.reduceLT, Nat.reduceMul, Nat.reduceDiv, Nat.reduceEqDiff, Nat.reduceLeDiff, KT w, hw.KF, htm, h1, h6, hx, hcall]
    refine hK _ _ ?_
    clear hK
    clear K
    repeat with_reducible (first | refine E0 ?_ | refine E1 ?_ | refine E2 ?_ | refine E3 ?_ | refine E4 ?_ | refine E5 (by decide) ?_ | refine E6 ?_ | refine E7 ?_ | refine E8 ?_ | refine E9 ?_ | refine Ea ?_ | refine Eb ?_ | refine Ec ?_ | refine Ed ?_)
    refine W_region fun K hK => ?_
    simp only [KA, KB, KP, KQ, reduceCtorEq, ↓reduceIte, Int.reduceLT, Int.reduceLE, Int.reduceAdd, Int.reduceSub, Int.reduceNeg, Int.reduceMul, Int.reduceToNat, Int.reduceEq, Int.reduceNe, Int.reduceGT, Int.reduceGE, Nat.reducePow, Nat.reduceAdd, Nat.reduceSub, Nat.reduceLT, Nat.reduceMul, Nat.reduceDiv, Nat.reduceEqDiff, Nat.reduceLeDiff, KT w, hw.KF, htm, h4, e2]
    refine hK _ _ ?_
    clear hK
    clear K
    repeat with_reducible (first | refine E0 ?_ | refine E1 ?_ | refine E2 ?_ | refine E3 ?_ | refine E4 ?_ | refine E5 (by decide) ?_ | refine E6 ?_ | refine E7 ?_ | refine E8 ?_ | refine E9 ?_ | refine Ea ?_ | refine Eb ?_ | refine Ec ?_ | refine Ed ?_)
    refine W_region fun K hK => ?_
    simp only [KA, KB, KP, KQ, reduceCtorEq, ↓reduceIte, Int.reduceLT, Int.reduceLE, Int.reduceAdd, Int.reduceSub, Int.reduceNeg, Int.reduceMul, Int.reduceToNat, Int.reduceEq, Int.reduceNe, Int.reduceGT, Int.reduceGE, Nat.reducePow, Nat.reduceAdd, Nat.reduceSub, Nat.reduceLT, Nat.reduceMul, Nat.reduceDiv, Nat.reduceEqDiff, Nat.reduceLeDiff, KT w, hw.KF, htm, h5, amax]
    refine hK _ _ ?_
    clear hK
    clear K
    repeat with_reducible (first | refine E0 ?_ | refine E1 ?_ | refine E2 ?_ | refine E3 ?_ | refine E4 ?_ | refine E5 (by decide) ?_ | refine E6 ?_ | refine E7 ?_ | refine E8 ?_ | refine E9 ?_ | refine Ea ?_ | refine Eb ?_ | refine Ec ?_ | refine Ed ?_)
    refine W_region fun K hK => ?_
    simp only [KA, KB, KP, KQ, reduceCtorEq, ↓reduceIte, Int.reduceLT, Int.reduceLE, Int.reduceAdd, Int.reduceSub, Int.reduceNeg, Int.reduceMul, Int.reduceToNat, Int.reduceEq, Int.reduceNe, Int.reduceGT, Int.reduceGE, Nat.reducePow, Nat.reduceAdd, Nat.reduceSub, Nat.reduceLT, Nat.reduceMul, Nat.reduceDiv, Nat.reduceEqDiff, Nat.reduceLeDiff, KT w, hw.KF, htm, h6, e1]
    refine hK _ _ ?_
    clear hK
    clear K
    refine ⟨n.kids.length - (i + 1), by omega, _, i + 1, c + cnt x, max d (dep x), rfl, rfl, rfl, by omega, by omega, by omega, ?_⟩
    simp only [KA, KP, KQ, reduceCtorEq, ↓reduceIte, Int.reduceLT, Int.reduceLE, Int.reduceAdd, Int.reduceSub, Int.reduceNeg, Int.reduceMul, Int.reduceToNat, Int.reduceEq, Int.reduceNe, Int.reduceGT, Int.reduceGE, Nat.reducePow, Nat.reduceAdd, Nat.reduceSub, Nat.reduceLT, Nat.reduceMul, Nat.reduceDiv, Nat.reduceEqDiff, Nat.reduceLeDiff, KT w, hw.KF, htm, h1, Int.natCast_add, A3z]
    exact congrArg _ hmx
  · repeat with_reducible (first | refine E0 ?_ | refine E1 ?_ | refine E2 ?_ | refine E3 ?_ | refine E4 ?_ | refine E5 (by decide) ?_ | refine E6 ?_ | refine E7 ?_ | refine E8 ?_ | refine E9 ?_ | refine Ea ?_ | refine Eb ?_ | refine Ec ?_ | refine Ed ?_)
    rw [List.drop_eq_nil_of_le (by omega)] at hcs hds
    simp only [cntL, depL, Nat.add_zero] at hcs hds
    have e3 : IntKind.i64.wrap ((d : Int) + 1) = (dep n : Int) := by rw [i64_in _ (by omega)]; omega
    refine W_region fun K hK => ?_
    simp only [KA, KB, KP, KQ, reduceCtorEq, ↓reduceIte, Int.reduceLT, Int.reduceLE, Int.reduceAdd, Int.reduceSub, Int.reduceNeg, Int.reduceMul, Int.reduceToNat, Int.reduceEq, Int.reduceNe, Int.reduceGT, Int.reduceGE, Nat.reducePow, Nat.reduceAdd, Nat.reduceSub, Nat.reduceLT, Nat.reduceMul, Nat.reduceDiv, Nat.reduceEqDiff, Nat.reduceLeDiff, KT w, hw.KF, htm, h4, h5, e3]
    refine hK _ _ ?_
    clear hK
    clear K
    repeat with_reducible (first | refine E0 ?_ | refine E1 ?_ | refine E2 ?_ | refine E3 ?_ | refine E4 ?_ | refine E5 (by decide) ?_ | refine E6 ?_ | refine E7 ?_ | refine E8 ?_ | refine E9 ?_ | refine Ea ?_ | refine Eb ?_ | refine Ec ?_ | refine Ed ?_)
    refine AtEnd_of rfl ?_
    simp only [KA, KP, KQ, reduceCtorEq, ↓reduceIte, Int.reduceLT, Int.reduceLE, Int.reduceAdd, Int.reduceSub, Int.reduceNeg, Int.reduceMul, Int.reduceToNat, Int.reduceEq, Int.reduceNe, Int.reduceGT, Int.reduceGE, Nat.reducePow, Nat.reduceAdd, Nat.reduceSub, Nat.reduceLT, Nat.reduceMul, Nat.reduceDiv, Nat.reduceEqDiff, Nat.reduceLeDiff, KT w, hw.KF, htm, RS_some, aresults_nil, aresults_tmp, aresults_cell, one]
    rw [hcs]
    exact FZ_tup rfl
end Go.Am.B
