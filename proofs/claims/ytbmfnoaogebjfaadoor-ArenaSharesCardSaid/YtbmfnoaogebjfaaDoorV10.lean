/- A TREE MOVED. -/
import Derived.Test.YtbmfnoaogebjfaaDoorV9
set_option linter.unusedSimpArgs false
set_option linter.unusedVariables false
set_option maxRecDepth 20000
namespace Go.Am.R
open Go.Proofs Go.IntWalk

variable {w : Ways}

mutual
def moveN (by_ : Int) : Node → Node
  | .mk k nm fl a b d ks => .mk k nm fl (IntKind.i64.wrap (a + by_)) (IntKind.i64.wrap (b + by_)) d (moveL by_ ks)
def moveL (by_ : Int) : List Node → List Node
  | [] => []
  | k :: ks => moveN by_ k :: moveL by_ ks
end
theorem moveL_map (by_ : Int) (ks : List Node) : moveL by_ ks = ks.map (moveN by_) := by
  induction ks with
  | nil => rfl
  | cons x xs ih => simp [moveL, ih]
theorem i64_range (x : Int) : -9223372036854775808 ≤ IntKind.i64.wrap x ∧ IntKind.i64.wrap x ≤ 9223372036854775807 := by
  rw [IntKind.wrap_i64]; omega
theorem oks_of' {ks : List Node} (h : ∀ k ∈ ks, k.ok) : Node.oks ks := by
  induction ks with
  | nil => trivial
  | cons x xs ih => exact ⟨h x List.mem_cons_self, ih fun k hk => h k (List.mem_cons_of_mem _ hk)⟩
theorem moveN_ok (by_ : Int) (n : Node) : n.ok → (moveN by_ n).ok := by
  induction n using Node.ind with
  | h n ih =>
  intro hn
  obtain ⟨k, nm, fl, a, b, d, ks⟩ := n
  simp only [Node.kids] at ih
  simp only [moveN]
  have h1 := Node.ok_kind hn
  have h2 := Node.ok_field hn
  have h3 := Node.ok_bad hn
  have h4 := Node.ok_kids hn
  have h5 := Node.ok_kid hn
  simp only [Node.kind, Node.field, Node.bad, Node.kids] at h1 h2 h3 h4 h5
  have h6 : Node.oks (moveL by_ ks) := oks_of' fun x hx => by
    rw [moveL_map, List.mem_map] at hx
    obtain ⟨y, hy, rfl⟩ := hx
    exact ih y hy (h5 y hy)
  have h7 := i64_range (a + by_)
  have h8 := i64_range (b + by_)
  have h9 : (moveL by_ ks).length ≤ 1600000000000 := by rw [moveL_map]; simpa using h4
  simp only [Node.ok]
  exact ⟨h1, h2, h7, h8, h3, h9, h6⟩

/-- Rows that one may append to. -/
def GrowR (S : St) (a : AV) (rs : Rows) : Prop := (rs = [] ∧ a = .nils) ∨ (rs ≠ [] ∧ ∃ o g, a = .own rs o g ∧ 1 < o ∧ o < S.n ∧ S.get o = some (.tail g))

theorem move22 (hw : Std w) (by_ : Int) (n : Node) : n.ok → PC (cfg w) 22 [n.av, .int .i64 by_] ((moveN by_ n).av) := by
  induction n using Node.ind with
  | h n ih =>
  intro hn
  have hkl := Node.ok_kids hn
  have hkid := Node.ok_kid hn
  refine PC_of (args' := [n.av, .int .i64 by_]) hw.e22 hw.m22 (by simp [nrmA, nrm, Node.nrm_all]) ?_
  clear hn
  obtain ⟨k, nm, fl, a, b, d, ks⟩ := n
  simp only [Node.kids] at ih hkl hkid
  have hav : (Node.mk k nm fl a b d ks).av = .agg [.str k, .bool nm, .str fl, .int .i64 a, .int .i64 b, .int .i64 d, .vec (Node.rows ks)] := by simp [Node.av, Node.cells, Node.rows]
  have hav2 : (moveN by_ (Node.mk k nm fl a b d ks)).av = .agg [.str k, .bool nm, .str fl, .int .i64 (IntKind.i64.wrap (a + by_)), .int .i64 (IntKind.i64.wrap (b + by_)), .int .i64 d, .vec (Node.rows (ks.map (moveN by_)))] := by simp [moveN, Node.av, Node.cells, Node.rows, moveL_map]
  rw [hav, hav2]
  have hnz : ∀ m : Node, m.cells.length = 7 := Node.cells_len
  obtain ⟨a2, ha2⟩ : ∃ a2, IntKind.i64.wrap (a + by_) = a2 := ⟨_, rfl⟩
  obtain ⟨b2, hb2⟩ : ∃ b2, IntKind.i64.wrap (b + by_) = b2 := ⟨_, rfl⟩
  rw [ha2, hb2]
  refine call_of_W (fn22 w) rfl ?_
  simp only [Tryd.f22, List.length_cons, List.length_nil, ↓reduceIte, Int.reduceLT, Int.reduceLE, Int.reduceAdd, Int.reduceSub, Int.reduceNeg, Int.reduceMul, Int.reduceToNat, Int.reduceEq, Int.reduceNe, Int.reduceGT, Int.reduceGE, Nat.reducePow, IntKind.bits, Nat.reduceAdd, Nat.reduceSub, List.cons_append, List.nil_append]
  repeat with_reducible (first | refine E0 ?_ | refine E1 ?_ | refine E2 ?_ | refine E3 ?_ | refine E4 ?_ | refine E5 (by decide) ?_ | refine E6 ?_ | refine E7 ?_ | refine E8 ?_ | refine E9 ?_ | refine Ea ?_ | refine Eb ?_ | refine Ec ?_ | refine Ed ?_)
  refine W_region fun K hK => ?_
  simp only [KA, KB, KP, KQ, KM, reduceCtorEq, ↓reduceIte, Int.reduceLT, Int.reduceLE, Int.reduceAdd, Int.reduceSub, Int.reduceNeg, Int.reduceMul, Int.reduceToNat, Int.reduceEq, Int.reduceNe, Int.reduceGT, Int.reduceGE, Nat.reducePow, Nat.reduceAdd, Nat.reduceSub, Nat.reduceLT, Nat.reduceMul, Nat.reduceDiv, Nat.reduceEqDiff, Nat.reduceLeDiff, KT w, KI, hw.KF]
  refine hK _ _ ?_
  clear hK
  clear K
  repeat with_reducible (first | refine E0 ?_ | refine E1 ?_ | refine E2 ?_ | refine E3 ?_ | refine E4 ?_ | refine E5 (by decide) ?_ | refine E6 ?_ | refine E7 ?_ | refine E8 ?_ | refine E9 ?_ | refine Ea ?_ | refine Eb ?_ | refine Ec ?_ | refine Ed ?_)
  refine W_region fun K hK => ?_
  simp only [KA, KB, KP, KQ, KM, reduceCtorEq, ↓reduceIte, Int.reduceLT, Int.reduceLE, Int.reduceAdd, Int.reduceSub, Int.reduceNeg, Int.reduceMul, Int.reduceToNat, Int.reduceEq, Int.reduceNe, Int.reduceGT, Int.reduceGE, Nat.reducePow, Nat.reduceAdd, Nat.reduceSub, Nat.reduceLT, Nat.reduceMul, Nat.reduceDiv, Nat.reduceEqDiff, Nat.reduceLeDiff, KT w, KI, hw.KF, ha2, splice, List.length_append]
  refine hK _ _ ?_
  clear hK
  clear K
  repeat with_reducible (first | refine E0 ?_ | refine E1 ?_ | refine E2 ?_ | refine E3 ?_ | refine E4 ?_ | refine E5 (by decide) ?_ | refine E6 ?_ | refine E7 ?_ | refine E8 ?_ | refine E9 ?_ | refine Ea ?_ | refine Eb ?_ | refine Ec ?_ | refine Ed ?_)
  refine W_region fun K hK => ?_
  simp only [KA, KB, KP, KQ, KM, reduceCtorEq, ↓reduceIte, Int.reduceLT, Int.reduceLE, Int.reduceAdd, Int.reduceSub, Int.reduceNeg, Int.reduceMul, Int.reduceToNat, Int.reduceEq, Int.reduceNe, Int.reduceGT, Int.reduceGE, Nat.reducePow, Nat.reduceAdd, Nat.reduceSub, Nat.reduceLT, Nat.reduceMul, Nat.reduceDiv, Nat.reduceEqDiff, Nat.reduceLeDiff, KT w, KI, hw.KF, hb2, splice, List.length_append]
  refine hK _ _ ?_
  clear hK
  clear K
  repeat with_reducible (first | refine E0 ?_ | refine E1 ?_ | refine E2 ?_ | refine E3 ?_ | refine E4 ?_ | refine E5 (by decide) ?_ | refine E6 ?_ | refine E7 ?_ | refine E8 ?_ | refine E9 ?_ | refine Ea ?_ | refine Eb ?_ | refine Ec ?_ | refine Ed ?_)
  refine W_region fun K hK => ?_
  simp only [KA, KB, KP, KQ, KM, reduceCtorEq, ↓reduceIte, Int.reduceLT, Int.reduceLE, Int.reduceAdd, Int.reduceSub, Int.reduceNeg, Int.reduceMul, Int.reduceToNat, Int.reduceEq, Int.reduceNe, Int.reduceGT, Int.reduceGE, Nat.reducePow, Nat.reduceAdd, Nat.reduceSub, Nat.reduceLT, Nat.reduceMul, Nat.reduceDiv, Nat.reduceEqDiff, Nat.reduceLeDiff, KT w, KI, hw.KF]
  refine hK _ _ ?_
  clear hK
  clear K
  repeat with_reducible (first | refine E0 ?_ | refine E1 ?_ | refine E2 ?_ | refine E3 ?_ | refine E4 ?_ | refine E5 (by decide) ?_ | refine E6 ?_ | refine E7 ?_ | refine E8 ?_ | refine E9 ?_ | refine Ea ?_ | refine Eb ?_ | refine Ec ?_ | refine Ed ?_)
  refine W_region fun K hK => ?_
  simp only [KA, KB, KP, KQ, KM, reduceCtorEq, ↓reduceIte, Int.reduceLT, Int.reduceLE, Int.reduceAdd, Int.reduceSub, Int.reduceNeg, Int.reduceMul, Int.reduceToNat, Int.reduceEq, Int.reduceNe, Int.reduceGT, Int.reduceGE, Nat.reducePow, Nat.reduceAdd, Nat.reduceSub, Nat.reduceLT, Nat.reduceMul, Nat.reduceDiv, Nat.reduceEqDiff, Nat.reduceLeDiff, KT w, KI, hw.KF]
  refine hK _ _ ?_
  clear hK
  clear K
  repeat with_reducible (first | refine E0 ?_ | refine E1 ?_ | refine E2 ?_ | refine E3 ?_ | refine E4 ?_ | refine E5 (by decide) ?_ | refine E6 ?_ | refine E7 ?_ | refine E8 ?_ | refine E9 ?_ | refine Ea ?_ | refine Eb ?_ | refine Ec ?_ | refine Ed ?_)
  refine W_loop (fun k0 fr S => ∃ (tm : List AV) (i : Nat) (x : AV), fr = ⟨tm, [], none, 22⟩ ∧ S.ok ∧ S.base = 0 ∧ 1 < S.n ∧ S.get 0 = some (.row [.str k, .bool nm, .str fl, .int .i64 a2, .int .i64 b2, .int .i64 d, .vec (Node.rows ks)] false) ∧ S.get 1 = some (.row [.str [], .bool false, .str [], .int .i64 0, .int .i64 0, .int .i64 0, .nils] false) ∧
      k0 = ks.length - i ∧ i ≤ ks.length ∧ GrowR S x (Node.rows ((ks.take i).map (moveN by_))) ∧
      tm.length = 37 ∧ tget tm 1 = .int .i64 by_ ∧ tget tm 2 = .ptr 0 0 ∧ tget tm 4 = .ptr 1 0 ∧ tget tm 5 = x ∧ tget tm 6 = .int .i64 i) ks.length
    ⟨_, 0, .nils, rfl, ?_, ?_, ?_, ?_, ?_, rfl, Nat.zero_le _, .inl ⟨rfl, rfl⟩, ?_⟩ ?_
  any_goals simp only [KA, KP, KQ, reduceCtorEq, ↓reduceIte, Int.reduceLT, Int.reduceLE, Int.reduceAdd, Int.reduceSub, Int.reduceNeg, Int.reduceMul, Int.reduceToNat, Int.reduceEq, Int.reduceNe, Int.reduceGT, Int.reduceGE, Nat.reducePow, Nat.reduceAdd, Nat.reduceSub, Nat.reduceLT, Nat.reduceMul, Nat.reduceDiv, Nat.reduceEqDiff, Nat.reduceLeDiff, KT w, KI, hw.KF, Int.ofNat_zero]
  rintro k0 fr S ⟨tm, i, x, rfl, hok, hbs, hsn, g0, g1, rfl, hi, hx, htm, h1, h2, h4, h5, h6⟩
  repeat with_reducible (first | refine E0 ?_ | refine E1 ?_ | refine E2 ?_ | refine E3 ?_ | refine E4 ?_ | refine E5 (by decide) ?_ | refine E6 ?_ | refine E7 ?_ | refine E8 ?_ | refine E9 ?_ | refine Ea ?_ | refine Eb ?_ | refine Ec ?_ | refine Ed ?_)
  refine W_region fun K hK => ?_
  simp only [KA, KB, KP, KQ, KM, reduceCtorEq, ↓reduceIte, Int.reduceLT, Int.reduceLE, Int.reduceAdd, Int.reduceSub, Int.reduceNeg, Int.reduceMul, Int.reduceToNat, Int.reduceEq, Int.reduceNe, Int.reduceGT, Int.reduceGE, Nat.reducePow, Nat.reduceAdd, Nat.reduceSub, Nat.reduceLT, Nat.reduceMul, Nat.reduceDiv, Nat.reduceEqDiff, Nat.reduceLeDiff, KT w, KI, hw.KF, htm, h2, h6, g0]
  refine hK _ _ ?_
  clear hK
  clear K
  repeat with_reducible (first | refine E0 ?_ | refine E1 ?_ | refine E2 ?_ | refine E3 ?_ | refine E4 ?_ | refine E5 (by decide) ?_ | refine E6 ?_ | refine E7 ?_ | refine E8 ?_ | refine E9 ?_ | refine Ea ?_ | refine Eb ?_ | refine Ec ?_ | refine Ed ?_)
  refine W_condP (p := _) (by simp only [KA, KP, KQ, reduceCtorEq, ↓reduceIte, Int.reduceLT, Int.reduceLE, Int.reduceAdd, Int.reduceSub, Int.reduceNeg, Int.reduceMul, Int.reduceToNat, Int.reduceEq, Int.reduceNe, Int.reduceGT, Int.reduceGE, Nat.reducePow, Nat.reduceAdd, Nat.reduceSub, Nat.reduceLT, Nat.reduceMul, Nat.reduceDiv, Nat.reduceEqDiff, Nat.reduceLeDiff, KT w, KI, hw.KF, htm]; rfl) (fun hb => ?_) (fun hb => ?_)
  · obtain ⟨y, hy⟩ := get_of_lt (l := ks) (i := i) (by omega)
    have hym := List.mem_of_getElem? hy
    have hrec := ih y hym (hkid y hym)
    have e1 : IntKind.i64.wrap ((i : Int) + 1) = (i : Int) + 1 := i64_in _ (by omega)
    have hrow : Node.rows ((ks.take (i + 1)).map (moveN by_)) = Node.rows ((ks.take i).map (moveN by_)) ++ [(moveN by_ y).cells] := by
      rw [List.take_add_one, hy]
      simp [Node.rows_map]
    have hlen : (Node.rows ((ks.take i).map (moveN by_))).length = i := by simp [Node.rows_len]; omega
    have hcap : ((i + 1 + (i + 1) / 4 + 1000) * 88 ≤ 281474976710656) = True := by simp; omega
    have h7 : ((moveN by_ y).cells.length == 7) = true := by simp [Node.cells_len]
    have hmy : (moveN by_ y).av = .agg (moveN by_ y).cells := rfl
    rw [hmy] at hrec
    clear hmy
    repeat with_reducible (first | refine E0 ?_ | refine E1 ?_ | refine E2 ?_ | refine E3 ?_ | refine E4 ?_ | refine E5 (by decide) ?_ | refine E6 ?_ | refine E7 ?_ | refine E8 ?_ | refine E9 ?_ | refine Ea ?_ | refine Eb ?_ | refine Ec ?_ | refine Ed ?_)
    refine W.mono (Q := fun e fr S2 => e = .nrm ∧ S2.ok ∧ S2.base = 0 ∧ 1 < S2.n ∧ S2.get 0 = some (.row [.str k, .bool nm, .str fl, .int .i64 a2, .int .i64 b2, .int .i64 d, .vec (Node.rows ks)] false) ∧ S2.get 1 = some (.row [.str [], .bool false, .str [], .int .i64 0, .int .i64 0, .int .i64 0, .nils] false) ∧
        ∃ (tm : List AV) (x2 : AV), fr = ⟨tm, [], none, 22⟩ ∧ GrowR S2 x2 (Node.rows ((ks.take (i + 1)).map (moveN by_))) ∧ tm.length = 37 ∧ tget tm 1 = .int .i64 by_ ∧ tget tm 2 = .ptr 0 0 ∧ tget tm 4 = .ptr 1 0 ∧ tget tm 5 = x2 ∧ tget tm 6 = .int .i64 i) ?_ ?_
    · rcases hx with ⟨hr0, rfl⟩ | ⟨hr0, o, g, rfl, ho1, ho2, hgo⟩
      · refine W_region fun K hK => ?_
        simp only [KA, KB, KP, KQ, KM, reduceCtorEq, ↓reduceIte, Int.reduceLT, Int.reduceLE, Int.reduceAdd, Int.reduceSub, Int.reduceNeg, Int.reduceMul, Int.reduceToNat, Int.reduceEq, Int.reduceNe, Int.reduceGT, Int.reduceGE, Nat.reducePow, Nat.reduceAdd, Nat.reduceSub, Nat.reduceLT, Nat.reduceMul, Nat.reduceDiv, Nat.reduceEqDiff, Nat.reduceLeDiff, KT w, KI, hw.KF, htm, h1, h2, h5, h6, g0, hy, hrec, h7]
        refine hK _ _ ?_
        clear hK
        clear K
        refine ⟨rfl, St.ok_push hok, hbs, by simp only [St.pushN]; omega, by rw [St.get_pushn (by omega)]; exact g0, by rw [St.get_pushn (by omega)]; exact g1, _, .own [(moveN by_ y).cells] S.n 0, rfl, .inr ⟨by rw [hrow]; simp, S.n, 0, by rw [hrow, hr0]; rfl, by omega, by simp only [St.pushN]; omega, St.get_pushe⟩, ?_⟩
        simp only [KA, KP, KQ, reduceCtorEq, ↓reduceIte, Int.reduceLT, Int.reduceLE, Int.reduceAdd, Int.reduceSub, Int.reduceNeg, Int.reduceMul, Int.reduceToNat, Int.reduceEq, Int.reduceNe, Int.reduceGT, Int.reduceGE, Nat.reducePow, Nat.reduceAdd, Nat.reduceSub, Nat.reduceLT, Nat.reduceMul, Nat.reduceDiv, Nat.reduceEqDiff, Nat.reduceLeDiff, KT w, KI, hw.KF, htm, h1, h2, h4, h6]
      · have hemp : (Node.rows ((ks.take i).map (moveN by_))).isEmpty = false := by
          cases hq : Node.rows ((ks.take i).map (moveN by_)) with
          | nil => exact absurd hq hr0
          | cons _ _ => rfl
        have hhd : headOk 7 (Node.rows ((ks.take i).map (moveN by_))) = true := by
          cases hq : ks.take i with
          | nil => rfl
          | cons z zs => simp [Node.rows_map, headOk, Node.cells_len]
        rw [hrow]
        generalize Node.rows ((ks.take i).map (moveN by_)) = R at *
        refine W_region fun K hK => ?_
        simp only [KA, KB, KP, KQ, KM, reduceCtorEq, ↓reduceIte, Int.reduceLT, Int.reduceLE, Int.reduceAdd, Int.reduceSub, Int.reduceNeg, Int.reduceMul, Int.reduceToNat, Int.reduceEq, Int.reduceNe, Int.reduceGT, Int.reduceGE, Nat.reducePow, Nat.reduceAdd, Nat.reduceSub, Nat.reduceLT, Nat.reduceMul, Nat.reduceDiv, Nat.reduceEqDiff, Nat.reduceLeDiff, KT w, KI, hw.KF, htm, h1, h2, h5, h6, g0, hy, hrec, h7, hgo, hemp, hhd, hlen, hok, hbs, ho2, hcap]
        refine hK _ _ ?_
        clear hK
        clear K
        refine ⟨rfl, St.ok_set hok, hbs, by simp only [St.setN]; omega, by rw [St.get_setn ho2 (by omega)]; exact g0, by rw [St.get_setn ho2 (by omega)]; exact g1, _, .own (R ++ [(moveN by_ y).cells]) o (g + 1), rfl, .inr ⟨by simp, o, g + 1, rfl, ho1, by simp only [St.setN]; omega, St.get_sete hok ho2⟩, ?_⟩
        simp only [KA, KP, KQ, reduceCtorEq, ↓reduceIte, Int.reduceLT, Int.reduceLE, Int.reduceAdd, Int.reduceSub, Int.reduceNeg, Int.reduceMul, Int.reduceToNat, Int.reduceEq, Int.reduceNe, Int.reduceGT, Int.reduceGE, Nat.reducePow, Nat.reduceAdd, Nat.reduceSub, Nat.reduceLT, Nat.reduceMul, Nat.reduceDiv, Nat.reduceEqDiff, Nat.reduceLeDiff, KT w, KI, hw.KF, htm, h1, h2, h4, h6]
    clear htm h1 h2 h4 h5 h6 g0 g1 hok hbs hsn hx
    rintro e fr S2 ⟨rfl, hok, hbs, hsn, g0, g1, tm, x2, rfl, hx2, htm, h1, h2, h4, h5, h6⟩
    repeat with_reducible (first | refine E0 ?_ | refine E1 ?_ | refine E2 ?_ | refine E3 ?_ | refine E4 ?_ | refine E5 (by decide) ?_ | refine E6 ?_ | refine E7 ?_ | refine E8 ?_ | refine E9 ?_ | refine Ea ?_ | refine Eb ?_ | refine Ec ?_ | refine Ed ?_)
    refine W_region fun K hK => ?_
    simp only [KA, KB, KP, KQ, KM, reduceCtorEq, ↓reduceIte, Int.reduceLT, Int.reduceLE, Int.reduceAdd, Int.reduceSub, Int.reduceNeg, Int.reduceMul, Int.reduceToNat, Int.reduceEq, Int.reduceNe, Int.reduceGT, Int.reduceGE, Nat.reducePow, Nat.reduceAdd, Nat.reduceSub, Nat.reduceLT, Nat.reduceMul, Nat.reduceDiv, Nat.reduceEqDiff, Nat.reduceLeDiff, KT w, KI, hw.KF, htm, h6, e1]
    refine hK _ _ ?_
    clear hK
    clear K
    refine ⟨ks.length - (i + 1), by omega, _, i + 1, x2, rfl, hok, hbs, hsn, g0, g1, rfl, by omega, hx2, ?_⟩
    simp only [KA, KP, KQ, reduceCtorEq, ↓reduceIte, Int.reduceLT, Int.reduceLE, Int.reduceAdd, Int.reduceSub, Int.reduceNeg, Int.reduceMul, Int.reduceToNat, Int.reduceEq, Int.reduceNe, Int.reduceGT, Int.reduceGE, Nat.reducePow, Nat.reduceAdd, Nat.reduceSub, Nat.reduceLT, Nat.reduceMul, Nat.reduceDiv, Nat.reduceEqDiff, Nat.reduceLeDiff, KT w, KI, hw.KF, htm, h1, h2, h4, h5, Int.natCast_add, A3z]
  · have hie : i = ks.length := by omega
    subst hie
    rw [List.take_length] at hx
    have hs0 : 0 < S.n := by omega
    have hnx : nrm x = some (.vec (Node.rows (ks.map (moveN by_)))) := by
      rcases hx with ⟨h, rfl⟩ | ⟨_, o, g, rfl, _⟩
      · rw [h]; rfl
      · simp [nrm, Node.nrm_rows]
    have hlf : leafC x = true := by rcases hx with ⟨_, rfl⟩ | ⟨_, o, g, rfl, _⟩ <;> rfl
    have hcl : x.cells = [x] := by rcases hx with ⟨_, rfl⟩ | ⟨_, o, g, rfl, _⟩ <;> rfl
    clear hx
    repeat with_reducible (first | refine E0 ?_ | refine E1 ?_ | refine E2 ?_ | refine E3 ?_ | refine E4 ?_ | refine E5 (by decide) ?_ | refine E6 ?_ | refine E7 ?_ | refine E8 ?_ | refine E9 ?_ | refine Ea ?_ | refine Eb ?_ | refine Ec ?_ | refine Ed ?_)
    refine W_region fun K hK => ?_
    simp only [KA, KB, KP, KQ, KM, reduceCtorEq, ↓reduceIte, Int.reduceLT, Int.reduceLE, Int.reduceAdd, Int.reduceSub, Int.reduceNeg, Int.reduceMul, Int.reduceToNat, Int.reduceEq, Int.reduceNe, Int.reduceGT, Int.reduceGE, Nat.reducePow, Nat.reduceAdd, Nat.reduceSub, Nat.reduceLT, Nat.reduceMul, Nat.reduceDiv, Nat.reduceEqDiff, Nat.reduceLeDiff, KT w, KI, hw.KF, htm, h2, h5, g0, hlf, hcl, hok, hbs, hs0, splice, List.length_append]
    refine hK _ _ ?_
    clear hK
    clear K
    repeat with_reducible (first | refine E0 ?_ | refine E1 ?_ | refine E2 ?_ | refine E3 ?_ | refine E4 ?_ | refine E5 (by decide) ?_ | refine E6 ?_ | refine E7 ?_ | refine E8 ?_ | refine E9 ?_ | refine Ea ?_ | refine Eb ?_ | refine Ec ?_ | refine Ed ?_)
    refine W_region fun K hK => ?_
    simp only [KA, KB, KP, KQ, KM, reduceCtorEq, ↓reduceIte, Int.reduceLT, Int.reduceLE, Int.reduceAdd, Int.reduceSub, Int.reduceNeg, Int.reduceMul, Int.reduceToNat, Int.reduceEq, Int.reduceNe, Int.reduceGT, Int.reduceGE, Nat.reducePow, Nat.reduceAdd, Nat.reduceSub, Nat.reduceLT, Nat.reduceMul, Nat.reduceDiv, Nat.reduceEqDiff, Nat.reduceLeDiff, KT w, KI, hw.KF, htm, h2, h4, g1, hok, hbs, hs0, hsn, splice, List.length_append]
    refine hK _ _ ?_
    clear hK
    clear K
    repeat with_reducible (first | refine E0 ?_ | refine E1 ?_ | refine E2 ?_ | refine E3 ?_ | refine E4 ?_ | refine E5 (by decide) ?_ | refine E6 ?_ | refine E7 ?_ | refine E8 ?_ | refine E9 ?_ | refine Ea ?_ | refine Eb ?_ | refine Ec ?_ | refine Ed ?_)
    refine AtEnd_of rfl ?_
    simp only [KA, KP, KQ, reduceCtorEq, ↓reduceIte, Int.reduceLT, Int.reduceLE, Int.reduceAdd, Int.reduceSub, Int.reduceNeg, Int.reduceMul, Int.reduceToNat, Int.reduceEq, Int.reduceNe, Int.reduceGT, Int.reduceGE, Nat.reducePow, Nat.reduceAdd, Nat.reduceSub, Nat.reduceLT, Nat.reduceMul, Nat.reduceDiv, Nat.reduceEqDiff, Nat.reduceLeDiff, KT w, KI, hw.KF, htm, h4, hok, hs0, hsn, RS_some, aresults_nil, aresults_tmp, aresults_cell, one]
    refine FZ_plain ?_ (fun vs h => by cases h)
    simp [nrm, nrmL, hnx]
end Go.Am.R
