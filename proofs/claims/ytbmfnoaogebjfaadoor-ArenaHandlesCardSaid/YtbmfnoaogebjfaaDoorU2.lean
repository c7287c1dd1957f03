/- READING A TREE BACK. -/
import Derived.Test.YtbmfnoaogebjfaaDoorU1
set_option linter.unusedSimpArgs false
set_option linter.unusedVariables false
set_option maxRecDepth 20000
namespace Go.Am.R
open Go.Proofs Go.IntWalk

variable {w : Ways}

mutual
/-- What a slot's tree reads as, from a place. -/
def unt : Tr → Int → Node
  | .mk fs ts, base => .mk fs.kind fs.named fs.field (w64 (fs.frm + base)) (w64 (fs.to + base)) fs.bad (untL ts (w64 (fs.frm + base)))
def untL : List Tr → Int → List Node
  | [], _ => []
  | t :: ts, base => unt t base :: untL ts base
end
theorem fillR_one1 (n : Nat) (z : List AV) (v : AV) : fillR n [z] [(0, v)] = if leafC v ∧ v.cells.length = n then some [v.cells] else none := by
  simp [fillR]
theorem w64_eq (n : Int) : w64 n = (n + 9223372036854775808) % 18446744073709551616 - 9223372036854775808 := by
  simp [w64, IntKind.wrap, IntKind.bits, IntKind.signed]
  split <;> omega
theorem w64_back (a b : Int) (h : -9223372036854775808 ≤ a ∧ a ≤ 9223372036854775807) : w64 (w64 (a - b) + b) = a := by
  rw [w64_eq, w64_eq]
  omega
mutual
theorem unt_nt : ∀ (n : Node) (base : Int), n.ok → unt (nt n base) base = n
  | .mk k nm f a b d ks, base, h => by
    simp only [Node.ok] at h
    rw [nt, unt]
    simp only
    rw [w64_back a base h.2.2.1, w64_back b base h.2.2.2.1, untL_nt ks a h.2.2.2.2.2.2]
theorem untL_nt : ∀ (ks : List Node) (base : Int), Node.oks ks → untL (ntL ks base) base = ks
  | [], _, _ => by rw [ntL, untL]
  | x :: xs, base, h => by
    rw [Node.oks] at h
    rw [ntL, untL, unt_nt x base h.1, untL_nt xs base h.2]
end
theorem untL_len : ∀ (ts : List Tr) (base : Int), (untL ts base).length = ts.length
  | [], _ => by rw [untL]; rfl
  | t :: ts, base => by rw [untL]; simp [untL_len ts base]
theorem untL_take : ∀ (ts : List Tr) (base : Int) (j : Nat) (t : Tr), ts[j]? = some t → (untL ts base).take (j + 1) = (untL ts base).take j ++ [unt t base]
  | [], _, j, t, h => by simp at h
  | u :: ts, base, 0, t, h => by simp at h; subst h; rw [untL]; simp
  | u :: ts, base, j + 1, t, h => by
    rw [untL, List.take_succ_cons, List.take_succ_cons, untL_take ts base j t (by simpa using h)]
    rfl
theorem isL_len : ∀ {S : List Sl} (ts : List Tr) (l : List Nat), IsL S l ts → l.length = ts.length
  | S, [], [], _ => rfl
  | S, [], i :: l, h => by simp [IsL] at h
  | S, t :: ts, [], h => by simp [IsL] at h
  | S, t :: ts, i :: l, h => by rw [IsL] at h; simp [isL_len ts l h.2]
theorem isL_get : ∀ {S : List Sl} (ts : List Tr) (l : List Nat), IsL S l ts → ∀ (j : Nat) (t : Tr), ts[j]? = some t → ∃ i, l[j]? = some i ∧ Is S i t
  | S, [], _, _, j, t, h => by simp at h
  | S, u :: ts, [], h, _, _, _ => by simp [IsL] at h
  | S, u :: ts, i :: l, h, 0, t, ht => by rw [IsL] at h; simp at ht; subst ht; exact ⟨i, rfl, h.1⟩
  | S, u :: ts, i :: l, h, j + 1, t, ht => by rw [IsL] at h; simpa using isL_get ts l h.2 j t (by simpa using ht)

theorem tree43 (hw : Std w) (A : Ar) (hl : A.slots.length ≤ 100000) (hkb : KidB A.slots) : ∀ (N : Nat) (t : Tr), t.size ≤ N → ∀ (i : Nat) (base : Int), Is A.slots i t → PC (cfg w) 43 [arV A, .int .i64 (i : Nat), .int .i64 base] (unt t base).av := by
  intro N
  induction N with
  | zero =>
    intro t ht
    cases t with
    | mk fs ts => rw [Tr.size] at ht; omega
  | succ N ihN =>
  intro t ht i base hIs
  obtain ⟨fs, ts⟩ := t
  rw [Tr.size] at ht
  rw [Is] at hIs
  obtain ⟨s, hs, hs0, rfl, hIL⟩ := hIs
  have hil : i < A.slots.length := (List.getElem?_eq_some_iff.1 hs).1
  have hkk := (hkb i s hs).1
  have hlk := isL_len ts s.kids hIL
  have hrow : (A.slots.map slCan)[i]? = some (slCan s) := by rw [List.getElem?_map, hs]; rfl
  have hsl : (A.slots.map slCan).length = A.slots.length := List.length_map _
  have hkl := ks_len s.kids
  have harv : arV A = .agg [.vec (A.slots.map slCan), .int .i64 (optI A.free), .vec (rs A.roots)] := rfl
  have hrecA : ∀ (u : Tr) (b : Int) (q : Nat), u ∈ ts → Is A.slots q u → PC (cfg w) 43 [.agg [.vec (A.slots.map slCan), .int .i64 (optI A.free), .vec (rs A.roots)], .int .i64 (q : Nat), .int .i64 b] (unt u b).av := fun u b q hu hq => by
    rw [← harv]
    exact ihN u (by have := size_mem hu; omega) q b hq
  have hnrA : nrm (.agg [.vec (A.slots.map slCan), .int .i64 (optI A.free), .vec (rs A.roots)]) = some (.agg [.vec (A.slots.map slCan), .int .i64 (optI A.free), .vec (rs A.roots)]) := by rw [← harv]; exact nrm_arV A
  have hnrL : nrmL [.vec (A.slots.map slCan), .int .i64 (optI A.free), .vec (rs A.roots)] = some [.vec (A.slots.map slCan), .int .i64 (optI A.free), .vec (rs A.roots)] := by simp [nrmL, nrm, nrm_can, nrmR_rs]
  refine PC_of (args' := [arV A, .int .i64 (i : Nat), .int .i64 base]) hw.e43 hw.m43 (by simp [nrmA, nrm_arV, nrm]) ?_
  rw [harv]
  simp only [slCan, slC] at hrow
  rw [unt]
  generalize hFF : optI A.free = FF at *
  generalize hRR : rs A.roots = RR at *
  generalize hSS : A.slots.map slCan = SS at *
  obtain ⟨⟨K, NM, FL, FR, TO, BAD⟩, KIDS, REFS, NX⟩ := s
  simp only at hrow hkk hlk hkl hIL ⊢
  generalize hb1 : w64 (FR + base) = b1
  generalize hb2 : w64 (TO + base) = b2
  have hb1' : IntKind.i64.wrap (FR + base) = b1 := hb1
  have hb2' : IntKind.i64.wrap (TO + base) = b2 := hb2
  have hi0 : ¬ (i : Int) < 0 := by omega
  refine call_of_W (fn43 w) rfl ?_
  simp only [Tryd.f43, List.length_cons, List.length_nil, ↓reduceIte, Int.reduceLT, Int.reduceLE, Int.reduceAdd, Int.reduceSub, Int.reduceNeg, Int.reduceMul, Int.reduceToNat, Int.reduceEq, Int.reduceNe, Int.reduceGT, Int.reduceGE, Nat.reducePow, IntKind.bits, Nat.reduceAdd, Nat.reduceSub, List.cons_append, List.nil_append]
  repeat with_reducible (first | refine E0 ?_ | refine E1 ?_ | refine E2 ?_ | refine E3 ?_ | refine E4 ?_ | refine E5 (by decide) ?_ | refine E6 ?_ | refine E7 ?_ | refine E8 ?_ | refine E9 ?_ | refine Ea ?_ | refine Eb ?_ | refine Ec ?_ | refine Ed ?_)
  refine W_region fun K hK => ?_
  simp only [KA, KB, KP, KQ, KM, simprocAttr, KT w, KI, hw.KF]
  refine hK _ _ ?_
  clear hK
  clear K
  repeat with_reducible (first | refine E0 ?_ | refine E1 ?_ | refine E2 ?_ | refine E3 ?_ | refine E4 ?_ | refine E5 (by decide) ?_ | refine E6 ?_ | refine E7 ?_ | refine E8 ?_ | refine E9 ?_ | refine Ea ?_ | refine Eb ?_ | refine Ec ?_ | refine Ed ?_)
  refine W_region fun K hK => ?_
  simp only [KA, KB, KP, KQ, KM, simprocAttr, KT w, KI, hw.KF, hrow, hsl, hil]
  refine hK _ _ ?_
  clear hK
  clear K
  repeat with_reducible (first | refine E0 ?_ | refine E1 ?_ | refine E2 ?_ | refine E3 ?_ | refine E4 ?_ | refine E5 (by decide) ?_ | refine E6 ?_ | refine E7 ?_ | refine E8 ?_ | refine E9 ?_ | refine Ea ?_ | refine Eb ?_ | refine Ec ?_ | refine Ed ?_)
  refine W_region fun K hK => ?_
  simp only [KA, KB, KP, KQ, KM, simprocAttr, KT w, KI, hw.KF, hb1', hb2', splice]
  refine hK _ _ ?_
  clear hK
  clear K
  repeat with_reducible (first | refine E0 ?_ | refine E1 ?_ | refine E2 ?_ | refine E3 ?_ | refine E4 ?_ | refine E5 (by decide) ?_ | refine E6 ?_ | refine E7 ?_ | refine E8 ?_ | refine E9 ?_ | refine Ea ?_ | refine Eb ?_ | refine Ec ?_ | refine Ed ?_)
  refine W_region fun K hK => ?_
  simp only [KA, KB, KP, KQ, KM, simprocAttr, KT w, KI, hw.KF, hrow, hsl, hil, hkl]
  refine hK _ _ ?_
  clear hK
  clear K
  repeat with_reducible (first | refine E0 ?_ | refine E1 ?_ | refine E2 ?_ | refine E3 ?_ | refine E4 ?_ | refine E5 (by decide) ?_ | refine E6 ?_ | refine E7 ?_ | refine E8 ?_ | refine E9 ?_ | refine Ea ?_ | refine Eb ?_ | refine Ec ?_ | refine Ed ?_)
  refine W_loop (fun k0 fr T => ∃ (tm : List AV) (j : Nat) (kv : AV), fr = ⟨tm, [], none, 43⟩ ∧ k0 = ts.length - j ∧ j ≤ ts.length ∧ T.ok ∧ T.base = 0 ∧ 3 ≤ T.n ∧ Ow (Node.rows ((untL ts b1).take j)) kv T ∧ Aw kv 0 ∧ Aw kv 1 ∧ Aw kv 2 ∧
      T.get 0 = some (.row [.vec SS, .int .i64 FF, .vec RR] false) ∧ T.get 1 = some (.row [.str [], .bool false, .str [], .int .i64 0, .int .i64 0, .int .i64 0, .nils] false) ∧ T.get 2 = some (.row [.str K, .bool NM, .str FL, .int .i64 b1, .int .i64 b2, .int .i64 BAD, kv] false) ∧
      tm.length = 49 ∧ tget tm 3 = .ptr 0 0 ∧ tget tm 6 = .ptr 1 0 ∧ tget tm 7 = .ptr 2 0 ∧ tget tm 31 = .vec (ks KIDS) ∧ tget tm 32 = .int .i64 (ts.length : Nat) ∧ tget tm 33 = .int .i64 (j : Nat)) ts.length
    ⟨_, 0, .nils, rfl, by omega, by omega, St.ok_push (St.ok_push (St.ok_push St.ok_nil)), rfl, by simp [St.setN, St.pushN, St.nil], .inl ⟨rfl, rfl⟩, (fun _ _ _ e => by cases e), (fun _ _ _ e => by cases e), (fun _ _ _ e => by cases e), ?_, ?_, ?_, ?_⟩ ?_
  · rfl
  · rfl
  · rfl
  · simp only [KA, KP, KQ, simprocAttr, KT w, KI, hw.KF, Int.ofNat_zero, hlk]
  rintro k0 fr T ⟨tm, j, kv, rfl, rfl, hj, hok, hb, hn, hkv, a0, a1, a2, g0, g1, g2, htm, t3, t6, t7, t31, t32, t33⟩
  repeat with_reducible (first | refine E0 ?_ | refine E1 ?_ | refine E2 ?_ | refine E3 ?_ | refine E4 ?_ | refine E5 (by decide) ?_ | refine E6 ?_ | refine E7 ?_ | refine E8 ?_ | refine E9 ?_ | refine Ea ?_ | refine Eb ?_ | refine Ec ?_ | refine Ed ?_)
  by_cases hjl : (j : Int) < (ts.length : Int)
  case neg =>
    have hje : j = ts.length := by omega
    rw [hje, List.take_of_length_le (by rw [untL_len]; omega)] at hkv
    refine W_region fun K hK => ?_
    simp only [KA, KB, KP, KQ, KM, simprocAttr, KT w, KI, hw.KF, htm, t32, t33, hjl]
    refine hK _ _ ?_
    clear hK
    clear K
    repeat with_reducible (first | refine E0 ?_ | refine E1 ?_ | refine E2 ?_ | refine E3 ?_ | refine E4 ?_ | refine E5 (by decide) ?_ | refine E6 ?_ | refine E7 ?_ | refine E8 ?_ | refine E9 ?_ | refine Ea ?_ | refine Eb ?_ | refine Ec ?_ | refine Ed ?_)
    refine W_condF (by simp only [KA, KP, KQ, simprocAttr, KT w, KI, hw.KF, htm]) ?_
    repeat with_reducible (first | refine E0 ?_ | refine E1 ?_ | refine E2 ?_ | refine E3 ?_ | refine E4 ?_ | refine E5 (by decide) ?_ | refine E6 ?_ | refine E7 ?_ | refine E8 ?_ | refine E9 ?_ | refine Ea ?_ | refine Eb ?_ | refine Ec ?_ | refine Ed ?_)
    refine W_region fun K hK => ?_
    simp only [KA, KB, KP, KQ, KM, simprocAttr, KT w, KI, hw.KF, htm, t6, t7, g1, g2, hok, hb, hn, splice]
    refine hK _ _ ?_
    clear hK
    clear K
    repeat with_reducible (first | refine E0 ?_ | refine E1 ?_ | refine E2 ?_ | refine E3 ?_ | refine E4 ?_ | refine E5 (by decide) ?_ | refine E6 ?_ | refine E7 ?_ | refine E8 ?_ | refine E9 ?_ | refine Ea ?_ | refine Eb ?_ | refine Ec ?_ | refine Ed ?_)
    have gX : ∀ X, (T.set 1 X).get 1 = some X := fun X => St.get_sete hok (by omega)
    refine AtEnd_of rfl ?_
    simp only [KA, KP, KQ, simprocAttr, KT w, KI, hw.KF, htm, t6, gX, RS_some, aresults_nil, aresults_tmp, aresults_cell, one]
    have hnk : nrm kv = some (.vec (Node.rows (untL ts b1))) := by
      rcases hkv with ⟨h1, rfl⟩ | ⟨_, o, g, rfl, _⟩
      · rw [h1]; rfl
      · simp [nrm, Node.nrm_rows]
    refine FZ_plain ?_ (fun vs h => by cases h)
    rw [Node.av, Node.cells_eq]
    simp [nrm, nrmL, hnk, Node.kind, Node.named, Node.field, Node.frm, Node.to, Node.bad, Node.kids]
  have hjn : j < ts.length := by omega
  obtain ⟨u, hu⟩ : ∃ u, ts[j]? = some u := ⟨_, List.getElem?_eq_getElem hjn⟩
  obtain ⟨q, hq, hIu⟩ := isL_get ts KIDS hIL j u hu
  have hkq : (ks KIDS)[j]? = some [.int .i64 (q : Int)] := by rw [ks_get, hq]; rfl
  have hj0 : ¬ (j : Int) < 0 := by omega
  have hrec : PC (cfg w) 43 [.agg [.vec SS, .int .i64 FF, .vec RR], .int .i64 (q : Nat), .int .i64 b1] (.agg (unt u b1).cells) := hrecA u b1 q (List.mem_of_getElem? hu) hIu
  have hrl : (Node.rows ((untL ts b1).take j)).length = j := by rw [Node.rows_len, List.length_take, untL_len]; omega
  have hcl := Node.cells_len (unt u b1)
  have hct := Node.cells_take (unt u b1)
  have hcd := Node.cells_drop (unt u b1)
  have hcap : capOk ((Node.rows ((untL ts b1).take j)).length + 1) 88 = true := by simp [capOk, hrl]; omega
  obtain ⟨kv', T', happ, hkv', hok', hb', hn', hleaf, hcells, hgk, hak⟩ := app_ow (es := 7) (bytes := 88) (unt u b1).cells hkv hok hb (Node.cells_len _) (by cases (untL ts b1).take j with | nil => rfl | cons x xs => simp [Node.rows, Node.cellsL, headOk, Node.cells_len]) hcap
  have g0' := hgk 0 _ (by omega) a0 g0
  have g1' := hgk 1 _ (by omega) a1 g1
  have g2' := hgk 2 _ (by omega) a2 g2
  have a0' := hak 0 (by omega) a0
  have a1' := hak 1 (by omega) a1
  have a2' := hak 2 (by omega) a2
  have e1 : IntKind.i64.wrap ((j : Int) + 1) = (j : Int) + 1 := i64_in _ (by omega)
  refine W_region fun K hK => ?_
  simp only [KA, KB, KP, KQ, KM, simprocAttr, KT w, KI, hw.KF, htm, t32, t33, hjl]
  refine hK _ _ ?_
  clear hK
  clear K
  repeat with_reducible (first | refine E0 ?_ | refine E1 ?_ | refine E2 ?_ | refine E3 ?_ | refine E4 ?_ | refine E5 (by decide) ?_ | refine E6 ?_ | refine E7 ?_ | refine E8 ?_ | refine E9 ?_ | refine Ea ?_ | refine Eb ?_ | refine Ec ?_ | refine Ed ?_)
  refine W_condT (by simp only [KA, KP, KQ, simprocAttr, KT w, KI, hw.KF, htm]) ?_
  repeat with_reducible (first | refine E0 ?_ | refine E1 ?_ | refine E2 ?_ | refine E3 ?_ | refine E4 ?_ | refine E5 (by decide) ?_ | refine E6 ?_ | refine E7 ?_ | refine E8 ?_ | refine E9 ?_ | refine Ea ?_ | refine Eb ?_ | refine Ec ?_ | refine Ed ?_)
  refine W_region fun K hK => ?_
  simp only [KA, KB, KP, KQ, KM, simprocAttr, KT w, KI, hw.KF, htm, t31, t33, hkq, hj0]
  refine hK _ _ ?_
  clear hK
  clear K
  repeat with_reducible (first | refine E0 ?_ | refine E1 ?_ | refine E2 ?_ | refine E3 ?_ | refine E4 ?_ | refine E5 (by decide) ?_ | refine E6 ?_ | refine E7 ?_ | refine E8 ?_ | refine E9 ?_ | refine Ea ?_ | refine Eb ?_ | refine Ec ?_ | refine Ed ?_)
  generalize hUC : (unt u b1).cells = UC at *
  have fin : ∀ (tm' : List AV) (kv2 : AV) (T2 : St), tm'.length = 49 → tget tm' 3 = .ptr 0 0 → tget tm' 6 = .ptr 1 0 → tget tm' 7 = .ptr 2 0 → tget tm' 31 = .vec (ks KIDS) → tget tm' 32 = .int .i64 (ts.length : Nat) → tget tm' 33 = .int .i64 ((j : Int) + 1) → T2.ok → T2.base = 0 → 3 ≤ T2.n →
      Ow (Node.rows ((untL ts b1).take j) ++ [UC]) kv2 T2 → Aw kv2 0 → Aw kv2 1 → Aw kv2 2 → T2.get 0 = some (.row [.vec SS, .int .i64 FF, .vec RR] false) → T2.get 1 = some (.row [.str [], .bool false, .str [], .int .i64 0, .int .i64 0, .int .i64 0, .nils] false) → T2.get 2 = some (.row [.str K, .bool NM, .str FL, .int .i64 b1, .int .i64 b2, .int .i64 BAD, kv2] false) → _ :=
    fun tm' kv2 T2 q1 q2 q3 q4 q5 q6 q7 q8 q9 q10 q11 q12 q13 q14 q15 q16 q17 => (⟨ts.length - (j + 1), by omega, tm', j + 1, kv2, rfl, rfl, by omega, q8, q9, q10, by rw [untL_take ts b1 j u hu, Node.rows_map, List.map_append, ← Node.rows_map]; simpa [hUC] using q11, q12, q13, q14, q15, q16, q17, q1, q2, q3, q4, q5, q6, by rw [q7, Int.natCast_add]; rfl⟩ : ∃ k' < ts.length - j, ∃ (tm : List AV) (j' : Nat) (kv : AV), (⟨tm', [], none, 43⟩ : Fr) = ⟨tm, [], none, 43⟩ ∧ k' = ts.length - j' ∧ j' ≤ ts.length ∧ T2.ok ∧ T2.base = 0 ∧ 3 ≤ T2.n ∧ Ow (Node.rows ((untL ts b1).take j')) kv T2 ∧ Aw kv 0 ∧ Aw kv 1 ∧ Aw kv 2 ∧
      T2.get 0 = some (.row [.vec SS, .int .i64 FF, .vec RR] false) ∧ T2.get 1 = some (.row [.str [], .bool false, .str [], .int .i64 0, .int .i64 0, .int .i64 0, .nils] false) ∧ T2.get 2 = some (.row [.str K, .bool NM, .str FL, .int .i64 b1, .int .i64 b2, .int .i64 BAD, kv] false) ∧
      tm.length = 49 ∧ tget tm 3 = .ptr 0 0 ∧ tget tm 6 = .ptr 1 0 ∧ tget tm 7 = .ptr 2 0 ∧ tget tm 31 = .vec (ks KIDS) ∧ tget tm 32 = .int .i64 (ts.length : Nat) ∧ tget tm 33 = .int .i64 (j' : Nat))
  have hhd : headOk 7 (Node.rows ((untL ts b1).take j)) = true := by cases (untL ts b1).take j with | nil => rfl | cons x xs => simp [Node.rows, Node.cellsL, headOk, Node.cells_len]
  generalize Node.rows ((untL ts b1).take j) = R at *
  rcases hkv with ⟨rfl, rfl⟩ | ⟨hr1, o, g, rfl, ho, hog⟩
  · have hne2 : ¬ 2 = T.n := by omega
    have hnle : ¬ T.n ≤ 2 := by omega
    refine W_regionD [[], [0], [], [], [], [4], [2, 3, 5, 4], [6, 2, 3, 5, 4], [1, 0, 7, 6, 2, 3, 5, 4], [0, 1, 2, 3, 4, 5, 6, 7, 8], [9, 0, 1, 2, 3, 4, 5, 6, 7, 8]] (by decide +kernel) (by decide +kernel) (by decide +kernel) fun K hK => ?_
    simp only [KA, KB, KP, KQ, KM, simprocAttr, KT w, KI, hw.KF, A58, A59, A5a, A5b, A5c, A5d, A5e, A5f, A5g, A5h, KX, Foot.big, A5i, opP, rfoot, refsO, refs, wfoot, A5j, A5k, noisyOk, pairOk, Foot.isQuiet, Foot.apart, Ft.apart, Foot.none, A5l, A5m, A48, A49, A5n, A5o, A5p, A5q, Nat.reduceBEq, fillR_one1, htm, t3, t7, g0, g2, hok, hb, hn, hrec, hcl, hct, hcd, hnrA, hnrL, hne2, hnle, splice]
    refine hK _ _ ?_
    clear hK
    clear K
    repeat with_reducible (first | refine E0 ?_ | refine E1 ?_ | refine E2 ?_ | refine E3 ?_ | refine E4 ?_ | refine E5 (by decide) ?_ | refine E6 ?_ | refine E7 ?_ | refine E8 ?_ | refine E9 ?_ | refine Ea ?_ | refine Eb ?_ | refine Ec ?_ | refine Ed ?_)
    refine W_region fun K hK => ?_
    simp only [KA, KB, KP, KQ, KM, simprocAttr, KT w, KI, hw.KF, htm, t33, e1]
    refine hK _ _ ?_
    clear hK
    clear K
    refine fin _ (.own [UC] T.n 0) _ ?_ ?_ ?_ ?_ ?_ ?_ ?_ (St.ok_push (St.ok_set hok)) (by rw [St.pushB, St.setB]; exact hb) (by rw [St.pushN, St.setN]; omega) (.inr ⟨by simp, T.n, 0, rfl, by rw [St.pushN, St.setN]; omega, ?_⟩) (fun _ _ _ e => by cases e; omega) (fun _ _ _ e => by cases e; omega) (fun _ _ _ e => by cases e; omega) ?_ ?_ ?_
    · simp only [KA, KP, KQ, simprocAttr, KT w, KI, hw.KF, htm, t3, t6, t7, t31, t32, hlk]
    · simp only [KA, KP, KQ, simprocAttr, KT w, KI, hw.KF, htm, t3, t6, t7, t31, t32, hlk]
    · simp only [KA, KP, KQ, simprocAttr, KT w, KI, hw.KF, htm, t3, t6, t7, t31, t32, hlk]
    · simp only [KA, KP, KQ, simprocAttr, KT w, KI, hw.KF, htm, t3, t6, t7, t31, t32, hlk]
    · simp only [KA, KP, KQ, simprocAttr, KT w, KI, hw.KF, htm, t3, t6, t7, t31, t32, hlk]
    · simp only [KA, KP, KQ, simprocAttr, KT w, KI, hw.KF, htm, t3, t6, t7, t31, t32, hlk]
    · simp only [KA, KP, KQ, simprocAttr, KT w, KI, hw.KF, htm, t3, t6, t7, t31, t32, hlk]
    · rw [St.get_pushq (by rw [St.setN])]
    · rw [St.get_pushn (by rw [St.setN]; omega), St.get_setn (by omega) (by omega)]; exact g0
    · rw [St.get_pushn (by rw [St.setN]; omega), St.get_setn (by omega) (by omega)]; exact g1
    · rw [St.get_pushn (by rw [St.setN]; omega)]; exact St.get_sete hok (by omega)
  · have ho2 : o ≠ 2 := a2 _ _ _ rfl
    have hemp : R.isEmpty = false := by cases R with | nil => exact absurd rfl hr1 | cons _ _ => rfl
    have hcap' : ((j + 1 + (j + 1) / 4 + 1000) * 88 ≤ 281474976710656) = True := by simp; omega
    have gX : ∀ X, (T.set o X).get 2 = T.get 2 := fun X => St.get_setn ho (Ne.symm ho2)
    have oX : ∀ X, (T.set o X).ok := fun X => St.ok_set hok
    have bX : ∀ X, (T.set o X).base = 0 := fun X => by rw [St.setB]; exact hb
    have nX : ∀ X, (T.set o X).n = T.n := fun X => St.setN _ _ _
    refine W_regionD [[], [0], [], [], [], [4], [2, 3, 5, 4], [6, 2, 3, 5, 4], [1, 0, 7, 6, 2, 3, 5, 4], [0, 1, 2, 3, 4, 5, 6, 7, 8], [9, 0, 1, 2, 3, 4, 5, 6, 7, 8]] (by decide +kernel) (by decide +kernel) (by decide +kernel) fun K hK => ?_
    simp only [KA, KB, KP, KQ, KM, simprocAttr, KT w, KI, hw.KF, A58, A59, A5a, A5b, A5c, A5d, A5e, A5f, A5g, A5h, KX, Foot.big, A5i, opP, rfoot, refsO, refs, wfoot, A5j, A5k, noisyOk, pairOk, Foot.isQuiet, Foot.apart, Ft.apart, Foot.none, A5l, A5m, A48, A49, A5n, A5o, A5p, A5q, Nat.reduceBEq, fillR_one1, htm, t3, t7, g0, g2, hok, hb, hn, hrec, hcl, hct, hcd, hnrA, hnrL, hog, hemp, hhd, hcap', hrl, gX, oX, bX, nX, splice]
    refine hK _ _ ?_
    clear hK
    clear K
    repeat with_reducible (first | refine E0 ?_ | refine E1 ?_ | refine E2 ?_ | refine E3 ?_ | refine E4 ?_ | refine E5 (by decide) ?_ | refine E6 ?_ | refine E7 ?_ | refine E8 ?_ | refine E9 ?_ | refine Ea ?_ | refine Eb ?_ | refine Ec ?_ | refine Ed ?_)
    refine W_region fun K hK => ?_
    simp only [KA, KB, KP, KQ, KM, simprocAttr, KT w, KI, hw.KF, htm, t33, e1]
    refine hK _ _ ?_
    clear hK
    clear K
    have h20 : 2 < (T.set o (.tail (g + 1))).n := by rw [St.setN]; omega
    have ho0 : o ≠ 0 := a0 _ _ _ rfl
    have ho1 : o ≠ 1 := a1 _ _ _ rfl
    refine fin _ (.own (R ++ [UC]) o (g + 1)) _ ?_ ?_ ?_ ?_ ?_ ?_ ?_ (St.ok_set (St.ok_set hok)) (by rw [St.setB, St.setB]; exact hb) (by rw [St.setN, St.setN]; omega) (.inr ⟨by simp, o, g + 1, rfl, by rw [St.setN, St.setN]; exact ho, ?_⟩) (fun _ _ _ e => by cases e; exact ho0) (fun _ _ _ e => by cases e; exact ho1) (fun _ _ _ e => by cases e; exact ho2) ?_ ?_ ?_
    · simp only [KA, KP, KQ, simprocAttr, KT w, KI, hw.KF, htm, t3, t6, t7, t31, t32, hlk]
    · simp only [KA, KP, KQ, simprocAttr, KT w, KI, hw.KF, htm, t3, t6, t7, t31, t32, hlk]
    · simp only [KA, KP, KQ, simprocAttr, KT w, KI, hw.KF, htm, t3, t6, t7, t31, t32, hlk]
    · simp only [KA, KP, KQ, simprocAttr, KT w, KI, hw.KF, htm, t3, t6, t7, t31, t32, hlk]
    · simp only [KA, KP, KQ, simprocAttr, KT w, KI, hw.KF, htm, t3, t6, t7, t31, t32, hlk]
    · simp only [KA, KP, KQ, simprocAttr, KT w, KI, hw.KF, htm, t3, t6, t7, t31, t32, hlk]
    · simp only [KA, KP, KQ, simprocAttr, KT w, KI, hw.KF, htm, t3, t6, t7, t31, t32, hlk]
    · rw [St.get_setn h20 ho2]; exact St.get_sete hok ho
    · rw [St.get_setn h20 (by omega), St.get_setn ho (Ne.symm ho0)]; exact g0
    · rw [St.get_setn h20 (by omega), St.get_setn ho (Ne.symm ho1)]; exact g1
    · exact St.get_sete (St.ok_set hok) h20
end Go.Am.R
