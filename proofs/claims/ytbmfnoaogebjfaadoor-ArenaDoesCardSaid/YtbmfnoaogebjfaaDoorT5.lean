/- THE BUILDER: taking in a tree, walked. -/
import Derived.Test.YtbmfnoaogebjfaaDoorT4
set_option linter.unusedSimpArgs false
set_option linter.unusedVariables false
set_option maxRecDepth 20000
namespace Go.Am.R
open Go.Proofs Go.IntWalk

variable {w : Ways}

/-- What taking in a tree leaves. -/
def LayQ (o : Nat) (S : St) (r : Option (Nat × Ar)) : AV → St → Prop := fun v S' => Kq o S S' ∧ match r with
  | none => v = .int .i64 (-1) ∧ ∃ c1 c2 c3 c4, S'.get o = some (.row [c1, c2, c3, c4, .bool true] false)
  | some (i, B) => v = .int .i64 (i : Nat) ∧ BD o B false S'

theorem set_set {S : St} {i : Nat} {a b : AObj} : (S.set i a).set i b = S.set i b := by simp [St.set, List.set_set]
theorem keyC_len (K : Key) : (keyC K).length = 7 := rfl
theorem keyC_take (K : Key) : (keyC K).take 7 = keyC K := rfl
theorem keyC_drop (K : Key) : (keyC K).drop 7 = [] := rfl
theorem fits80 (hw : Std w) (K : Key) : keyFits (cfg w) 80 (.agg (keyC K)) = true := by
  have hk : (leavesEq (keyC K) (keyC K)).isSome = true := by rw [keyC_eq]; rfl
  have hf : fitsT (cfg w) 80 (keyC K) = true := by simp only [KA, KP, KQ, simprocAttr, KT w, KI, hw.KF, keyC, fitsT, sameLeaves, sameLeaf]
  simp only [keyFits, Tc80, Option.map_some, cfgP_eqt, hw.eq80, hf, hk, Bool.and_self]
theorem look64 (hw : Std w) {m clock : Nat} {es : List (AV × AV × Nat)} {S : St} (K : Key) (hg : S.get m = some (.map es clock)) {r : Option (Nat × AV)} (hf : findKey (.agg (keyC K)) es 0 = some r) :
    alookup (cfg w) S 64 (.map m) (.agg (keyC K)) true = some (match r with | some x => .tup [x.2, .bool true] | none => .tup [.int .i64 0, .bool false]) := by
  unfold alookup
  rw [Tk64]
  have hz : zeroOf (cfg w) 3 = some (.int .i64 0) := by simp [zeroOf, Tc3, isAggK]
  simp only [fits80 hw, if_true, hg, Option.bind_some, hf]
  cases r with
  | none => simp only [hz, Option.map_some, if_true]
  | some x => simp only [Option.map_some, if_true]
theorem setBorn_last {k z v : AV} {n : Nat} : ∀ {es : List (AV × AV × Nat)}, (∀ e ∈ es, e.2.2 < n) → setBorn v n (es ++ [(k, z, n)]) = some (es ++ [(k, v, n)])
  | [], _ => by simp [setBorn]
  | e :: es, h => by
    have he := h e List.mem_cons_self
    rw [List.cons_append, setBorn, if_neg (by omega), setBorn_last (fun x hx => h x (List.mem_cons_of_mem _ hx))]
    rfl
theorem MapOk.congr {es : List (AV × AV × Nat)} {clock : Nat} {S S' : List Sl} (h : MapOk es clock S) (hc : ∀ (i : Nat) (K : Key), (∃ s, S'[i]? = some s ∧ s.refs ≠ 0 ∧ s.key = K) ↔ ∃ s, S[i]? = some s ∧ s.refs ≠ 0 ∧ s.key = K) : MapOk es clock S' := by
  obtain ⟨M, h1, h2, h3⟩ := h.ex
  exact ⟨⟨M, h1, h2, fun K i => by rw [h3, hc]⟩, h.born⟩
theorem MapOk.put {es : List (AV × AV × Nat)} {clock : Nat} {S : List Sl} {K : Key} {i : Nat} {z : Sl} (h : MapOk es clock S) (hl : look S K = none) (hz : S[i]? = some z) (hz0 : z.refs = 0) (n : Sl) (hn : n.refs ≠ 0) (hk : n.key = K) :
    MapOk (es ++ [(.agg (keyC K), .int .i64 (i : Nat), clock)]) (clock + 1) (S.set i n) := by
  obtain ⟨M, h1, h2, h3⟩ := h.ex
  have hlt := (List.getElem?_eq_some_iff.1 hz).1
  refine ⟨⟨M ++ [(K, i)], by simp [h1, proj, keyE], ?_, fun L j => ?_⟩, fun e he => ?_⟩
  · rw [List.map_append, List.nodup_append]
    refine ⟨h2, by simp, fun a ha b hb e => ?_⟩
    simp at hb; subst hb; subst e
    obtain ⟨x, hx, rfl⟩ := List.mem_map.1 ha
    obtain ⟨s, a1, a2, a3⟩ := (h3 x.1 x.2).1 hx
    exact look_none hl x.2 s a1 a2 a3
  · rw [List.mem_append, h3]
    constructor
    · rintro (⟨s, a1, a2, a3⟩ | hm)
      · have hji : i ≠ j := fun e => by subst e; rw [hz] at a1; cases a1; exact a2 hz0
        exact ⟨s, by rw [List.getElem?_set_ne hji]; exact a1, a2, a3⟩
      · simp at hm
        obtain ⟨rfl, rfl⟩ := hm
        exact ⟨n, List.getElem?_set_self hlt, hn, hk⟩
    · rintro ⟨s, a1, a2, a3⟩
      by_cases hji : i = j
      · subst hji
        rw [List.getElem?_set_self hlt] at a1; cases a1
        exact .inr (by simp [← a3, hk])
      · rw [List.getElem?_set_ne hji] at a1
        exact .inl ⟨s, a1, a2, a3⟩
  · rcases List.mem_append.1 he with h' | h'
    · have := h.born e h'; omega
    · simp at h'; subst h'; simp
theorem room_facts {A B : Ar} {p : List Nat} {i : Nat} (h : Inv A p []) (hr : room A = some (i, B)) : (∃ z, B.slots[i]? = some z ∧ z.refs = 0) ∧ (∀ j, j ≠ i → B.slots[j]? = A.slots[j]?) ∧ (∀ s, A.slots[i]? = some s → s.refs = 0) ∧ B.roots = A.roots := by
  unfold room at hr
  split at hr
  · rename_i i' hf
    cases hr
    obtain ⟨l, c1, c2, c3⟩ := h.free
    rw [hf] at c1
    cases c1 with
    | cons hs _ =>
      obtain ⟨u, hu, hu0⟩ := (c3 i).1 List.mem_cons_self
      exact ⟨⟨u, hu, hu0⟩, fun j hj => rfl, fun s hs => by rw [hu] at hs; cases hs; exact hu0, rfl⟩
  · split at hr
    · cases hr
      refine ⟨⟨zs (some 0), by simp, rfl⟩, fun j hj => ?_, fun s hs => by simp at hs, rfl⟩
      by_cases hjl : j < A.slots.length
      · simp only; rw [List.getElem?_append_left hjl]
      · simp only; rw [List.getElem?_eq_none (by simp; omega), List.getElem?_eq_none (by omega)]
    · cases hr
theorem look_room {A B : Ar} {p : List Nat} {i : Nat} {K : Key} (h : Inv A p []) (hr : room A = some (i, B)) (hl : look A.slots K = none) : look B.slots K = none := by
  obtain ⟨⟨z, h1, h2⟩, h3, h4, h5⟩ := room_facts h hr
  unfold look
  rw [List.findIdx?_eq_none_iff]
  intro s hs
  obtain ⟨j, hj⟩ := List.mem_iff_getElem?.1 hs
  by_cases e : j = i
  · subst e
    rw [h1] at hj; cases hj
    simp [h2]
  · rw [h3 j e] at hj
    by_cases hr0 : s.refs = 0
    · simp [hr0]
    · have := look_none hl j s hj hr0
      simp [this]
theorem ref_set {S : List Sl} {i : Nat} {s : Sl} (h : S[i]? = some s) : refS S i = S.set i { s with refs := max s.refs 0 + 1 } := by
  apply List.ext_getElem?
  intro j
  rw [refS_get]
  by_cases hij : i = j
  · subst hij
    rw [List.getElem?_set_self (List.getElem?_eq_some_iff.1 h).1, h]; simp
  · rw [List.getElem?_set_ne hij]; simp [hij]
theorem MapOk.refs {es : List (AV × AV × Nat)} {clock : Nat} {S : List Sl} (h : MapOk es clock S) {x : Nat} {s : Sl} (hs : S[x]? = some s) (hr : s.refs ≠ 0) {r : Int} (hr' : r ≠ 0) : MapOk es clock (S.set x { s with refs := r }) := by
  refine h.congr fun i K => ?_
  by_cases e : x = i
  · subst e
    rw [List.getElem?_set_self (List.getElem?_eq_some_iff.1 hs).1]
    constructor
    · rintro ⟨u, a1, a2, a3⟩
      cases a1; exact ⟨s, hs, hr, a3⟩
    · rintro ⟨u, a1, a2, a3⟩
      rw [hs] at a1; cases a1; exact ⟨_, rfl, hr', a3⟩
  · rw [List.getElem?_set_ne e]
/-- A slot is written. -/
theorem Bd.put {o m so sg n : Nat} {rv : AV} {R : Rows} {es : List (AV × AV × Nat)} {clock : Nat} {A : Ar} {full : Bool} {S : St} (h : Bd o m (.sref so sg 0 n) rv R es clock A full S) (hso : so < S.n) (hsg : S.get so = some (.seq sg 10 R 0)) {x : Nat} {s' : Sl} {row' : List AV} (hr : SlRow s' row') (hm : MapOk es clock (A.slots.set x s')) :
    Bd o m (.sref so sg 0 n) rv (R.set x row') es clock ⟨A.slots.set x s', A.free, A.roots⟩ full (S.set so (.seq sg 10 (R.set x row') 0)) ∧ Kq o S (S.set so (.seq sg 10 (R.set x row') 0)) := by
  have hso' : so ≠ o := fun e => by have := h.g; rw [← e, hsg] at this; cases this
  have hsm : so ≠ m := fun e => by have := h.mg; rw [← e, hsg] at this; cases this
  refine ⟨⟨St.ok_set h.ok, by rw [St.setB]; exact h.base, by rw [St.setN]; exact h.n, by rw [St.get_setn hso (Ne.symm hso')]; exact h.g, by rw [St.setN]; exact h.mn, by rw [St.get_setn hso (Ne.symm hsm)]; exact h.mg, hm, ?_, h.rows.set hr x, ?_⟩, Kq.seq h.ok hso hsg _⟩
  · rcases h.sv with ⟨_, h2 | h2⟩ | ⟨o', g', e1, _, _⟩
    · cases h2
    · cases h2
    · cases e1
      exact .inr ⟨so, sg, by rw [List.length_set], by rw [St.setN]; exact hso, St.get_sete h.ok hso⟩
  · refine h.rv.kp (by rw [St.setN]; omega) fun q g rows e hq hg => ?_
    rw [St.get_setn hso (fun e1 => by rw [e1, hsg] at hg; cases hg)]; exact hg
theorem isL_snoc {S : List Sl} {i : Nat} {t : Tr} (ht : Is S i t) : ∀ (ts : List Tr) (l : List Nat), IsL S l ts → IsL S (l ++ [i]) (ts ++ [t])
  | [], [], _ => by simp only [List.nil_append, IsL]; exact ⟨ht, trivial⟩
  | [], i :: l, h => by simp [IsL] at h
  | t :: ts, [], h => by simp [IsL] at h
  | u :: ts, j :: l, h => by
    rw [IsL] at h
    simp only [List.cons_append, IsL]
    exact ⟨h.1, isL_snoc ht ts l h.2⟩
theorem ntL_snoc (x : Node) (a : Int) : ∀ (ks : List Node), ntL (ks ++ [x]) a = ntL ks a ++ [nt x a]
  | [] => by simp [ntL]
  | k :: ks => by simp [ntL, ntL_snoc x a ks]
theorem nnL_snoc (x : Node) : ∀ (ks : List Node), nnL (ks ++ [x]) = nnL ks + nn x
  | [] => by simp [nnL]
  | k :: ks => by simp [nnL, nnL_snoc x ks]; omega
theorem Ow.kq {o : Nat} {rows : Rows} {v : AV} {S S' : St} (h : Ow rows v S) (hk : Kq o S S') (ho : ∃ c, S.get o = some (.row c false)) : Ow rows v S' := by
  rcases h with h | ⟨h1, q, g, h2, h3, h4⟩
  · exact .inl h
  · refine .inr ⟨h1, q, g, h2, by have := hk.n; omega, hk.get _ _ h3 (fun e => ?_) (fun g es rows e h => by cases h) (fun es c h => by cases h) h4⟩
    obtain ⟨c, hc⟩ := ho
    rw [e, hc] at h4; cases h4

set_option maxHeartbeats 8000000 in
theorem lay33 (hw : Std w) (hkey : w.ext 46 = some (.val keyF)) {o : Nat} : ∀ (n : Node) (base : Int) (A : Ar) (p : List Nat) (c : Int) (S : St), Inv A p [] → RB c A.slots → 0 ≤ c → c + nn n ≤ 1000000000000 → BD o A false S →
    CallQ (cfg w) 33 [.ptr o 0, n.av, .int .i64 base] S (LayQ o S (lay n base A)) := by
  intro n
  induction n using Node.ind with
  | h n ih =>
  obtain ⟨k, nm, fl, a, b, d, kids⟩ := n
  simp only [Node.kids] at ih
  intro base A p c S hA hRB hc0 hcn hBD
  obtain ⟨hok, hb, hon, -⟩ := hBD.facts
  have hav : (Node.mk k nm fl a b d kids).av = .agg [.str k, .bool nm, .str fl, .int .i64 a, .int .i64 b, .int .i64 d, .vec (Node.rows kids)] := by simp [Node.av, Node.cells, Node.rows]
  rw [hav]
  rw [nn] at hcn
  have hkl := len_nnL kids
  have hrl := Node.rows_len kids
  obtain ⟨N, hN⟩ : ∃ N, S.n = N := ⟨_, rfl⟩
  obtain ⟨RZ, hRZ⟩ : ∃ RZ, layL kids a A = RZ := ⟨_, rfl⟩
  obtain ⟨Q, hQ⟩ : ∃ Q, lay (.mk k nm fl a b d kids) base A = Q := ⟨_, rfl⟩
  rw [hQ]
  rw [lay, hRZ] at hQ
  refine call_of_W (fn33 w) rfl ?_
  simp only [Tryd.f33, List.length_cons, List.length_nil, Nat.reduceAdd, Nat.reduceSub, List.cons_append, List.nil_append]
  repeat with_reducible (first | apply E0 | apply E1 | apply E2 | apply E3 | apply E4 | refine E5 (by decide) ?_ | apply E6 | apply E7 | apply E8 | apply E9 | apply Ea | apply Eb | apply Ec | apply Ed)
  refine W_region fun K hK => ?_
  simp only [KA, KB, KP, KQ, KM, simprocAttr, KT w, KI, hw.KF]
  refine hK _ _ ?_
  clear hK
  clear K
  repeat with_reducible (first | apply E0 | apply E1 | apply E2 | apply E3 | apply E4 | refine E5 (by decide) ?_ | apply E6 | apply E7 | apply E8 | apply E9 | apply Ea | apply Eb | apply Ec | apply Ed)
  refine W_region fun K hK => ?_
  simp only [KA, KB, KP, KQ, KM, simprocAttr, KT w, KI, hw.KF, hok, hb, splice, A3p]
  refine hK _ _ ?_
  clear hK
  clear K
  repeat with_reducible (first | apply E0 | apply E1 | apply E2 | apply E3 | apply E4 | refine E5 (by decide) ?_ | apply E6 | apply E7 | apply E8 | apply E9 | apply Ea | apply Eb | apply Ec | apply Ed)
  refine W_region fun K hK => ?_
  simp only [KA, KB, KP, KQ, KM, simprocAttr, KT w, KI, hw.KF, hok, A3p]
  refine hK _ _ ?_
  clear hK
  clear K
  repeat with_reducible (first | apply E0 | apply E1 | apply E2 | apply E3 | apply E4 | refine E5 (by decide) ?_ | apply E6 | apply E7 | apply E8 | apply E9 | apply Ea | apply Eb | apply Ec | apply Ed)
  have hNo : N ≠ o := by omega
  have hN1o : N + 1 ≠ o := by omega
  have hzr : S.n = N := hN
  rw [hN]
  refine W_loop (fun k0 fr T => ∃ (tm : List AV) (j : Nat) (l : List Nat) (B : Ar) (p' : List Nat) (c' : Int) (kv : AV), fr = ⟨tm, [], none, 33⟩ ∧ k0 = kids.length - j ∧ j ≤ kids.length ∧ l.length = j ∧ BD o B false T ∧ Inv B p' [] ∧ RB c' B.slots ∧ 0 ≤ c' ∧ c' + nnL (kids.drop j) ≤ 1000000000000 - 1 ∧ c' = c + nnL (kids.take j) - (kids.take j).length ∧
      (match layL (kids.drop j) a B with | none => RZ = none | some (l', C) => RZ = some (l ++ l', C)) ∧ Ow (ks l) kv T ∧ IsL B.slots l (ntL (kids.take j) a) ∧ (∀ i ∈ p', i ∈ p ∨ i ∈ l) ∧
      T.get N = some (.row [.str k, .bool nm, .str fl, .int .i64 a, .int .i64 b, .int .i64 d, .vec (Node.rows kids)] false) ∧ T.get (N + 1) = some (.row [.str [], .bool false, .str [], .int .i64 0, .int .i64 0, .int .i64 0, .nils, kv, .int .i64 0, .int .i64 (-1)] false) ∧ N + 1 < T.n ∧ Kq o S T ∧ (∀ r oo g, kv = .own r oo g → N ≤ oo) ∧
      tm.length = 113 ∧ tget tm 0 = .ptr o 0 ∧ tget tm 2 = .int .i64 base ∧ tget tm 4 = .ptr N 0 ∧ tget tm 7 = .ptr (N + 1) 0 ∧ tget tm 19 = .vec (Node.rows kids) ∧ tget tm 20 = .int .i64 (kids.length : Nat) ∧ tget tm 21 = .int .i64 (j : Nat)) kids.length
    ⟨_, 0, [], A, p, c, .nils, rfl, by omega, by omega, rfl, (hBD.push _).push _, hA, hRB, hc0, by simp only [List.drop_zero]; omega, by simp [nnL], ?_, .inl ⟨rfl, rfl⟩, by rw [List.take_zero, ntL, IsL]; trivial, fun i hi => .inl hi, ?_, ?_, ?_, (Kq.push hok _).trans (Kq.push (St.ok_push hok) _), (fun r oo g e => by cases e), ?_⟩ ?_
  · rw [List.drop_zero, hRZ]
    cases RZ with
    | none => rfl
    | some q => rfl
  · rw [St.get_pushn (by rw [St.pushN]; omega), St.get_pushq hN.symm]
  · rw [St.get_pushq (by rw [St.pushN]; omega)]
  · simp only [St.pushN]; omega
  · simp only [KA, KP, KQ, simprocAttr, KT w, KI, hw.KF, hN, Int.ofNat_zero]
    try simp
  clear hBD hRB hok hb
  rintro k0 fr T ⟨tm, j, l, B, p', c', kv, rfl, rfl, hj, hlj, hBD, hB, hRB, hc0', hcb, hcc, hrest, hkv, hIL, hpp, gN, gN1, hTn, hKq, hkN, htm, t0, t2, t4, t7, t19, t20, t21⟩
  obtain ⟨hok, hb, hon', -⟩ := hBD.facts
  repeat with_reducible (first | apply E0 | apply E1 | apply E2 | apply E3 | apply E4 | refine E5 (by decide) ?_ | apply E6 | apply E7 | apply E8 | apply E9 | apply Ea | apply Eb | apply Ec | apply Ed)
  by_cases hjl : (j : Int) < (kids.length : Int)
  case neg =>
    have hje : j = kids.length := by omega
    rw [hje, List.drop_length, layL] at hrest
    simp only [List.append_nil] at hrest
    rw [hje, List.take_length] at hIL hcc
    rw [hrest] at hQ
    simp only at hQ
    clear hrest
    have hkal := hkv.alen (w := w) (t := 23) (e := 3) (Tk23 w)
    rw [ks_len] at hkal
    refine W_region fun K hK => ?_
    simp only [KA, KB, KP, KQ, KM, simprocAttr, KT w, KI, hw.KF, htm, t20, t21, hjl]
    refine hK _ _ ?_
    clear hK
    clear K
    repeat with_reducible (first | apply E0 | apply E1 | apply E2 | apply E3 | apply E4 | refine E5 (by decide) ?_ | apply E6 | apply E7 | apply E8 | apply E9 | apply Ea | apply Eb | apply Ec | apply Ed)
    refine W_condF (by simp only [KA, KP, KQ, simprocAttr, KT w, KI, hw.KF, htm]) ?_
    repeat with_reducible (first | apply E0 | apply E1 | apply E2 | apply E3 | apply E4 | refine E5 (by decide) ?_ | apply E6 | apply E7 | apply E8 | apply E9 | apply Ea | apply Eb | apply Ec | apply Ed)
    refine W_region fun K hK => ?_
    simp only [KA, KB, KP, KQ, KM, simprocAttr, KT w, KI, hw.KF, htm, t4, t7, gN, gN1, hok, hb, hTn, splice]
    refine hK _ _ ?_
    clear hK
    clear K
    repeat with_reducible (first | apply E0 | apply E1 | apply E2 | apply E3 | apply E4 | refine E5 (by decide) ?_ | apply E6 | apply E7 | apply E8 | apply E9 | apply Ea | apply Eb | apply Ec | apply Ed)
    have gX : ∀ X, (T.set (N + 1) X).get (N + 1) = some X := fun X => St.get_sete hok hTn
    have gY : ∀ X, (T.set (N + 1) X).get N = T.get N := fun X => St.get_setn hTn (by omega)
    have oX : ∀ X, (T.set (N + 1) X).ok := fun X => St.ok_set hok
    have bX : ∀ X, (T.set (N + 1) X).base = 0 := fun X => by rw [St.setB]; exact hb
    have nX : ∀ X, (T.set (N + 1) X).n = T.n := fun X => St.setN _ _ _
    refine W_regionD [[], [0], [], [1, 0, 2], [], [4], [], [5, 4, 6], [0, 1, 2, 3], [8, 0, 1, 2, 3], [9, 8, 0, 1, 2, 3], [0, 1, 2, 3, 4, 5, 6, 7, 8, 9, 10], [11, 0, 1, 2, 3, 4, 5, 6, 7, 8, 9, 10], [12, 11, 0, 1, 2, 3, 4, 5, 6, 7, 8, 9, 10], [0, 1, 2, 3, 4, 5, 6, 7, 8, 9, 10, 11, 12, 13], [14, 0, 1, 2, 3, 4, 5, 6, 7, 8, 9, 10, 11, 12, 13], [15, 14, 0, 1, 2, 3, 4, 5, 6, 7, 8, 9, 10, 11, 12, 13]] (by decide +kernel) (by decide +kernel) (by decide +kernel) fun K hK => ?_
    simp only [KA, KB, KP, KQ, KM, simprocAttr, KT w, KI, hw.KF, A58, A59, A5a, A5b, A5c, A5d, A5e, A5f, A5g, A5h, KX, Foot.big, A5i, opP, rfoot, refsO, refs, wfoot, A5j, A5k, noisyOk, pairOk, Foot.isQuiet, Foot.apart, Ft.apart, Foot.none, A5l, A5m, A48, A49, A5n, A5o, A5p, A5q, Nat.reduceBEq, htm, t2, t4, t7, gX, gY, gN, oX, bX, nX, hok, hb, hTn, splice]
    refine hK _ _ ?_
    clear hK
    clear K
    repeat with_reducible (first | apply E0 | apply E1 | apply E2 | apply E3 | apply E4 | refine E5 (by decide) ?_ | apply E6 | apply E7 | apply E8 | apply E9 | apply Ea | apply Eb | apply Ec | apply Ed)
    simp only [set_set]
    have hKok : Kok l := ⟨by omega, fun i hi => by
      obtain ⟨s, hs, _⟩ := isL_used hIL hi
      have := (List.getElem?_eq_some_iff.1 hs).1
      have := hB.len
      omega⟩
    have hkc := fun S => key_call (w := w) hkey hKok (fs := ⟨k, nm, fl, w64 (a - base), w64 (b - base), d⟩) (l := l) (c6 := .nils) (c7 := kv) (r := 0) (x := -1) (.inl rfl) hkv.isK S
    simp only at hkc
    have hBD2 := hBD.setRow hTn hN1o gN1 (.row [.str k, .bool nm, .str fl, .int .i64 (w64 (a - base)), .int .i64 (w64 (b - base)), .int .i64 d, .nils, kv, .int .i64 0, .int .i64 (-1)] false)
    have g2N1 := gX (.row [.str k, .bool nm, .str fl, .int .i64 (w64 (a - base)), .int .i64 (w64 (b - base)), .int .i64 d, .nils, kv, .int .i64 0, .int .i64 (-1)] false)
    have n2 := nX (.row [.str k, .bool nm, .str fl, .int .i64 (w64 (a - base)), .int .i64 (w64 (b - base)), .int .i64 d, .nils, kv, .int .i64 0, .int .i64 (-1)] false)
    have K2 : Kq o S (T.set (N + 1) (.row [.str k, .bool nm, .str fl, .int .i64 (w64 (a - base)), .int .i64 (w64 (b - base)), .int .i64 d, .nils, kv, .int .i64 0, .int .i64 (-1)] false)) :=
      ⟨oX _, by rw [bX, ← hKq.base]; exact hb.symm, by rw [nX]; have := hKq.n; omega, fun q y hq hqo hx hy hg => by rw [St.get_setn hTn (by omega)]; exact hKq.get q y hq hqo hx hy hg⟩
    generalize T.set (N + 1) (.row [.str k, .bool nm, .str fl, .int .i64 (w64 (a - base)), .int .i64 (w64 (b - base)), .int .i64 d, .nils, kv, .int .i64 0, .int .i64 (-1)] false) = T2 at *
    clear gX gY oX bX nX gN gN1
    obtain ⟨ok2, b2, on2, -⟩ := hBD2.facts
    obtain ⟨K, hK⟩ : ∃ K : Key, ((⟨k, nm, fl, w64 (a - base), w64 (b - base), d⟩ : Fs), l) = K := ⟨_, rfl⟩
    rw [hK] at hQ hkc
    have hkcl := keyC_len K
    have hkct := keyC_take K
    have hkcd := keyC_drop K
    obtain ⟨KC, hKC⟩ : ∃ KC, keyC K = KC := ⟨_, rfl⟩
    rw [hKC] at hkc hkcl hkct hkcd
    refine W_region fun K hK => ?_
    simp only [KA, KB, KP, KQ, KM, simprocAttr, KT w, KI, hw.KF, htm, t7, g2N1, hkc, hkcl, hkct, hkcd, ok2, b2, A3p, splice]
    refine hK _ _ ?_
    clear hK
    clear K
    repeat with_reducible (first | apply E0 | apply E1 | apply E2 | apply E3 | apply E4 | refine E5 (by decide) ?_ | apply E6 | apply E7 | apply E8 | apply E9 | apply Ea | apply Eb | apply Ec | apply Ed)
    have hBD3 := hBD2.push (.row KC false)
    have g3N1 : (T2.push (.row KC false)).get (N + 1) = _ := (St.get_pushn (by omega)).trans g2N1
    have g3k : (T2.push (.row KC false)).get T2.n = some (.row KC false) := St.get_pushe
    have n3 : (T2.push (.row KC false)).n = T2.n + 1 := St.pushN _ _
    have K3 := K2.trans (Kq.push ok2 (.row KC false))
    obtain ⟨KN, hKN⟩ : ∃ KN, T2.n = KN := ⟨_, rfl⟩
    rw [hKN] at g3k n3
    rw [hKN]
    generalize T2.push (.row KC false) = T3 at *
    obtain ⟨m, sv, rv, R, es, clock, hBd⟩ := hBD3
    have g3 := hBd.g
    have m3 := hBd.mg
    have ok3 := hBd.ok
    have b3 := hBd.base
    have on3 := hBd.n
    refine W_cut (fun tm => tm.length = 113 ∧ tget tm 0 = .ptr o 0 ∧ tget tm 7 = .ptr (N + 1) 0 ∧ tget tm 11 = .ptr KN 0) (by simp only [KA, KP, KQ, simprocAttr, KT w, KI, hw.KF, htm, t0, t7]) fun tm ⟨htm, t0, t7, t11⟩ => ?_
    have hlk : ∀ r, findKey (.agg KC) es 0 = some r → alookup (cfg w) T3 64 (.map m) (.agg KC) true = some (match r with | some x => .tup [x.2, .bool true] | none => .tup [.int .i64 0, .bool false]) := fun r hr => by
      rw [← hKC] at hr ⊢
      cases r <;> exact look64 hw K m3 hr
    unfold place at hQ
    cases hl : look B.slots K with
    | some i =>
      rw [hl] at hQ
      simp only at hQ
      subst hQ
      obtain ⟨s, hs1, hs2, hs3⟩ := look_some hl
      obtain ⟨M1, M2, -, -, hfind⟩ := hBd.mok.yes hs1 hs2 hs3
      rw [hKC] at hfind
      have hlk1 := hlk _ hfind
      simp only at hlk1
      refine W_regionD [[], [0], [1, 0], [2, 1, 0], [], [3, 2, 1, 0, 4], [5, 3, 2, 1, 0, 4], [6, 5, 3, 2, 1, 0, 4], [6, 5, 3, 2, 1, 0, 4], [7, 6, 5, 3, 2, 1, 0, 4], [8, 6, 5, 3, 2, 1, 0, 4, 9, 7]] (by decide +kernel) (by decide +kernel) (by decide +kernel) fun K hK => ?_
      simp only [KA, KB, KP, KQ, KM, simprocAttr, KT w, KI, hw.KF, A58, A59, A5a, A5b, A5c, A5d, A5e, A5f, A5g, A5h, KX, Foot.big, A5i, opP, rfoot, refsO, refs, wfoot, A5j, A5k, noisyOk, pairOk, Foot.isQuiet, Foot.apart, Ft.apart, Foot.none, A5l, A5m, A48, A49, A5n, A5o, A5p, A5q, Nat.reduceBEq, htm, t0, t11, g3, g3k, hkcl, hkct, hkcd, hlk1, ok3, b3, splice]
      refine hK _ _ ?_
      clear hK
      clear K
      repeat with_reducible (first | apply E0 | apply E1 | apply E2 | apply E3 | apply E4 | refine E5 (by decide) ?_ | apply E6 | apply E7 | apply E8 | apply E9 | apply Ea | apply Eb | apply Ec | apply Ed)
      refine W_region fun K hK => ?_
      simp only [KA, KB, KP, KQ, KM, simprocAttr, KT w, KI, hw.KF, htm]
      refine hK _ _ ?_
      clear hK
      clear K
      repeat with_reducible (first | apply E0 | apply E1 | apply E2 | apply E3 | apply E4 | refine E5 (by decide) ?_ | apply E6 | apply E7 | apply E8 | apply E9 | apply Ea | apply Eb | apply Ec | apply Ed)
      refine W_condT (by simp only [KA, KP, KQ, simprocAttr, KT w, KI, hw.KF, htm]) ?_
      repeat with_reducible (first | apply E0 | apply E1 | apply E2 | apply E3 | apply E4 | refine E5 (by decide) ?_ | apply E6 | apply E7 | apply E8 | apply E9 | apply Ea | apply Eb | apply Ec | apply Ed)
      refine W_region fun K hK => ?_
      simp only [KA, KB, KP, KQ, KM, simprocAttr, KT w, KI, hw.KF, htm]
      refine hK _ _ ?_
      clear hK
      clear K
      repeat with_reducible (first | apply E0 | apply E1 | apply E2 | apply E3 | apply E4 | refine E5 (by decide) ?_ | apply E6 | apply E7 | apply E8 | apply E9 | apply Ea | apply Eb | apply Ec | apply Ed)
      refine AtEnd_of rfl ?_
      simp only [KA, KP, KQ, simprocAttr, KT w, KI, hw.KF, htm, RS_some, aresults_nil, aresults_tmp, aresults_cell, one]
      exact ⟨K3, rfl, m, sv, rv, R, es, clock, hBd⟩
    | none =>
      rw [hl] at hQ
      simp only at hQ
      have hfind := hBd.mok.no hl
      rw [hKC] at hfind
      have hlk1 := hlk _ hfind
      simp only at hlk1
      have hfr : ∀ i, B.free = some i → ∃ s, B.slots[i]? = some s := fun i hi => by
        obtain ⟨lc, c1, c2, c3⟩ := hB.free
        rw [hi] at c1
        cases c1 with
        | cons hs _ => exact ⟨_, hs⟩
      obtain ⟨v, S4, hc4, K4, hQ4⟩ := room62 hw (o := o) (A := B) (S := T3) ⟨m, sv, rv, R, es, clock, hBd⟩ hfr hB.len
      have hcall : callF (cfg w) (lim (cfg w)) 62 [.ptr o 0] T3 = some (v, S4) := by
        rw [callF_raw (by exact hw.e62) (by exact hw.m62)]; exact hc4
      refine W_regionD [[], [0], [1, 0], [2, 1, 0], [], [3, 2, 1, 0, 4], [5, 3, 2, 1, 0, 4], [6, 5, 3, 2, 1, 0, 4], [6, 5, 3, 2, 1, 0, 4], [7, 6, 5, 3, 2, 1, 0, 4], [8, 6, 5, 3, 2, 1, 0, 4, 9, 7]] (by decide +kernel) (by decide +kernel) (by decide +kernel) fun K hK => ?_
      simp only [KA, KB, KP, KQ, KM, simprocAttr, KT w, KI, hw.KF, A58, A59, A5a, A5b, A5c, A5d, A5e, A5f, A5g, A5h, KX, Foot.big, A5i, opP, rfoot, refsO, refs, wfoot, A5j, A5k, noisyOk, pairOk, Foot.isQuiet, Foot.apart, Ft.apart, Foot.none, A5l, A5m, A48, A49, A5n, A5o, A5p, A5q, Nat.reduceBEq, htm, t0, t11, g3, g3k, hkcl, hkct, hkcd, hlk1, ok3, b3, splice]
      refine hK _ _ ?_
      clear hK
      clear K
      repeat with_reducible (first | apply E0 | apply E1 | apply E2 | apply E3 | apply E4 | refine E5 (by decide) ?_ | apply E6 | apply E7 | apply E8 | apply E9 | apply Ea | apply Eb | apply Ec | apply Ed)
      refine W_region fun K hK => ?_
      simp only [KA, KB, KP, KQ, KM, simprocAttr, KT w, KI, hw.KF, htm]
      refine hK _ _ ?_
      clear hK
      clear K
      repeat with_reducible (first | apply E0 | apply E1 | apply E2 | apply E3 | apply E4 | refine E5 (by decide) ?_ | apply E6 | apply E7 | apply E8 | apply E9 | apply Ea | apply Eb | apply Ec | apply Ed)
      refine W_condF (by simp only [KA, KP, KQ, simprocAttr, KT w, KI, hw.KF, htm]) ?_
      repeat with_reducible (first | apply E0 | apply E1 | apply E2 | apply E3 | apply E4 | refine E5 (by decide) ?_ | apply E6 | apply E7 | apply E8 | apply E9 | apply Ea | apply Eb | apply Ec | apply Ed)
      refine W_region fun K hK => ?_
      simp only [KA, KB, KP, KQ, KM, simprocAttr, KT w, KI, hw.KF, htm, t0, hcall]
      refine hK _ _ ?_
      clear hK
      clear K
      repeat with_reducible (first | apply E0 | apply E1 | apply E2 | apply E3 | apply E4 | refine E5 (by decide) ?_ | apply E6 | apply E7 | apply E8 | apply E9 | apply Ea | apply Eb | apply Ec | apply Ed)
      cases hr : room B with
      | none =>
        rw [hr] at hQ hQ4
        simp only at hQ
        subst hQ
        obtain ⟨rfl, hBD4⟩ := hQ4
        obtain ⟨-, -, -, d1, d2, d3, d4, hful⟩ := hBD4.facts
        refine W_region fun K hK => ?_
        simp only [KA, KB, KP, KQ, KM, simprocAttr, KT w, KI, hw.KF, htm, t0, hful]
        refine hK _ _ ?_
        clear hK
        clear K
        repeat with_reducible (first | apply E0 | apply E1 | apply E2 | apply E3 | apply E4 | refine E5 (by decide) ?_ | apply E6 | apply E7 | apply E8 | apply E9 | apply Ea | apply Eb | apply Ec | apply Ed)
        refine W_condT (by simp only [KA, KP, KQ, simprocAttr, KT w, KI, hw.KF, htm]) ?_
        repeat with_reducible (first | apply E0 | apply E1 | apply E2 | apply E3 | apply E4 | refine E5 (by decide) ?_ | apply E6 | apply E7 | apply E8 | apply E9 | apply Ea | apply Eb | apply Ec | apply Ed)
        refine W_region fun K hK => ?_
        simp only [KA, KB, KP, KQ, KM, simprocAttr, KT w, KI, hw.KF, htm]
        refine hK _ _ ?_
        clear hK
        clear K
        repeat with_reducible (first | apply E0 | apply E1 | apply E2 | apply E3 | apply E4 | refine E5 (by decide) ?_ | apply E6 | apply E7 | apply E8 | apply E9 | apply Ea | apply Eb | apply Ec | apply Ed)
        refine AtEnd_of rfl ?_
        simp only [KA, KP, KQ, simprocAttr, KT w, KI, hw.KF, htm, RS_some, aresults_nil, aresults_tmp, aresults_cell, one]
        exact ⟨K3.trans K4, rfl, d1, d2, d3, d4, hful⟩
      | some q =>
        obtain ⟨i, B1⟩ := q
        rw [hr] at hQ hQ4
        simp only at hQ
        obtain ⟨rfl, hBD4⟩ := hQ4
        obtain ⟨m4, sv4, rv4, R4, es4, clock4, h4⟩ := hBD4
        have g4 := h4.g
        have m4g := h4.mg
        have ok4 := h4.ok
        have b4 := h4.base
        have on4 := h4.n
        have g4N1 := K4.get _ _ (by omega) hN1o (fun g es rows e h => by cases h) (fun es c h => by cases h) g3N1
        have g4k := K4.get _ _ (by omega) (by omega) (fun g es rows e h => by cases h) (fun es c h => by cases h) g3k
        refine W_region fun K hK => ?_
        simp only [KA, KB, KP, KQ, KM, simprocAttr, KT w, KI, hw.KF, htm, t0, g4]
        refine hK _ _ ?_
        clear hK
        clear K
        repeat with_reducible (first | apply E0 | apply E1 | apply E2 | apply E3 | apply E4 | refine E5 (by decide) ?_ | apply E6 | apply E7 | apply E8 | apply E9 | apply Ea | apply Eb | apply Ec | apply Ed)
        refine W_condF (by simp only [KA, KP, KQ, simprocAttr, KT w, KI, hw.KF, htm]) ?_
        repeat with_reducible (first | apply E0 | apply E1 | apply E2 | apply E3 | apply E4 | refine E5 (by decide) ?_ | apply E6 | apply E7 | apply E8 | apply E9 | apply Ea | apply Eb | apply Ec | apply Ed)
        obtain ⟨⟨z, hz1, hz0⟩, hrm, hri, hrr⟩ := room_facts hB hr
        have hlB := look_room hB hr hl
        obtain ⟨zrow, hzrow, hzr⟩ := h4.rows.get hz1
        have hzl := hzr.len
        have hzd : zrow.drop 10 = [] := List.drop_eq_nil_of_le (by omega)
        rcases h4.sv with ⟨hR0, -⟩ | ⟨so, sg, rfl, hso, hsg⟩
        · rw [hR0] at hzrow; simp at hzrow
        have hi1 : (i : Int) < (R4.length : Int) := by have := (List.getElem?_eq_some_iff.1 hzrow).1; omega
        have hi0 : (0 : Int) ≤ (i : Int) := by omega
        have hsm : so ≠ m4 := fun e => by rw [e, m4g] at hsg; cases hsg
        have hso' : so ≠ o := fun e => by rw [e, g4] at hsg; cases hsg
        have hmo : m4 ≠ o := fun e => by rw [e, g4] at m4g; cases m4g
        have hfind4 := h4.mok.no hlB
        rw [hKC] at hfind4
        have hfit := fits80 hw K
        rw [hKC] at hfit
        have okX : ∀ X, (S4.set so X).ok := fun X => St.ok_set ok4
        have bX : ∀ X, (S4.set so X).base = 0 := fun X => by rw [St.setB]; exact b4
        have nX : ∀ X, (S4.set so X).n = S4.n := fun X => St.setN _ _ _
        have mX : ∀ X, (S4.set so X).get m4 = some (.map es4 clock4) := fun X => by rw [St.get_setn hso (Ne.symm hsm)]; exact m4g
        have hzz : zeroOf (cfg w) 3 = some (.int .i64 0) := by simp [zeroOf, Tc3, isAggK]
        have hme : ∀ X, amapEntry (cfg w) (S4.set so X) 64 (.map m4) (.agg KC) = some (.tup [.int .i64 0, .int .i64 (clock4 : Nat)], (S4.set so X).set m4 (.map (es4 ++ [(.agg KC, .int .i64 0, clock4)]) (clock4 + 1))) := fun X => by
          simp only [amapEntry, Tk64, hfit, if_true, mX, hfind4, Option.bind_some, hzz, St.putO, bX, Nat.zero_le, Option.map_some]
        have hes : ∀ X Y, aentryStore ((S4.set so X).set m4 (.map (es4 ++ [(.agg KC, .int .i64 0, clock4)]) Y)) (.map m4) (.int .i64 (clock4 : Nat)) (.int .i64 (i : Nat)) = some (((S4.set so X).set m4 (.map (es4 ++ [(.agg KC, .int .i64 0, clock4)]) Y)).set m4 (.map (es4 ++ [(.agg KC, .int .i64 (i : Nat), clock4)]) Y)) := fun X Y => by
          have hgm : ((S4.set so X).set m4 (.map (es4 ++ [(.agg KC, .int .i64 0, clock4)]) Y)).get m4 = some (.map (es4 ++ [(.agg KC, .int .i64 0, clock4)]) Y) := St.get_sete (okX X) (by rw [nX]; exact h4.mn)
          have hbb : ((S4.set so X).set m4 (.map (es4 ++ [(.agg KC, .int .i64 0, clock4)]) Y)).base = 0 := by rw [St.setB, bX]
          have h0 : (0 : Int) ≤ (clock4 : Int) := by omega
          simp only [aentryStore, hgm, if_pos h0, Int.toNat_natCast, setBorn_last h4.mok.born, Option.bind_some, St.putO, hbb, Nat.zero_le, if_true]
        have d1 : (so == KN) = false := beq_eq_false_iff_ne.2 fun e => by rw [e, g4k] at hsg; cases hsg
        have d2 : (so == N + 1) = false := beq_eq_false_iff_ne.2 fun e => by rw [e, g4N1] at hsg; cases hsg
        refine W_regionD [[], [0], [1, 0], [2, 1, 0], [3, 2, 1, 0], [], [], [6], [7, 6], [8, 7, 6], [], [], [], [4, 3, 2, 1, 0, 5, 9, 8, 7, 6, 11], [13, 4, 3, 2, 1, 0, 5, 9, 8, 7, 6, 11], [9, 8, 7, 6, 10, 14, 13, 4, 3, 2, 1, 0, 5, 11], [15, 9, 8, 7, 6, 10, 14, 13, 4, 3, 2, 1, 0, 5, 11], [9, 8, 7, 6, 16, 15, 10, 14, 13, 4, 3, 2, 1, 0, 5, 11, 12]] (by decide +kernel) (by decide +kernel) (by decide +kernel) fun K hK => ?_
        simp only [KA, KB, KP, KQ, KM, simprocAttr, KT w, KI, hw.KF, A58, A59, A5a, A5b, A5c, A5d, A5e, A5f, A5g, A5h, KX, Foot.big, A5i, opP, rfoot, refsO, refs, wfoot, A5j, A5k, noisyOk, pairOk, Foot.isQuiet, Foot.apart, Ft.apart, Foot.none, A5l, A5m, A48, A49, A5n, A5o, A5p, A5q, Nat.reduceBEq, htm, d1, d2, A38, Bool.and_self, A2f, t0, t7, t11, g4, g4k, g4N1, hkcl, hkct, hkcd, hsg, hi0, hi1, hzrow, hzl, hzd, hme, hes, ok4, b4, hso, okX, bX, nX, splice]
        refine hK _ _ ?_
        clear hK
        clear K
        repeat with_reducible (first | apply E0 | apply E1 | apply E2 | apply E3 | apply E4 | refine E5 (by decide) ?_ | apply E6 | apply E7 | apply E8 | apply E9 | apply Ea | apply Eb | apply Ec | apply Ed)
        simp only [set_set]
        refine W_cut (fun tm => tm.length = 113 ∧ tget tm 0 = .ptr o 0 ∧ tget tm 7 = .ptr (N + 1) 0 ∧ tget tm 14 = .int .i64 (i : Nat)) (by simp only [KA, KP, KQ, simprocAttr, KT w, KI, hw.KF, htm, t0, t7]) fun tm ⟨htm, t0, t7, t14⟩ => ?_
        obtain ⟨NR, hNR⟩ : ∃ NR : List AV, [AV.str k, AV.bool nm, AV.str fl, AV.int IntKind.i64 (w64 (a - base)), AV.int IntKind.i64 (w64 (b - base)), AV.int IntKind.i64 d, AV.nils, kv, AV.int IntKind.i64 0, AV.int IntKind.i64 (-1)] = NR := ⟨_, rfl⟩
        have hNRr : SlRow ⟨K.1, K.2, -1, none⟩ NR := by
          rw [← hNR, ← hK]
          exact ⟨.nils, kv, rfl, .inl rfl, hkv.isK⟩
        have hK2 : K.2 = l := by rw [← hK]
        rw [hNR] at g4N1 ⊢
        have keep5 : ∀ q y, q < S4.n → q ≠ so → q ≠ m4 → S4.get q = some y → ((S4.set so (.seq sg 10 (R4.set i NR) 0)).set m4 (.map (es4 ++ [(.agg KC, .int .i64 (i : Nat), clock4)]) (clock4 + 1))).get q = some y := fun q y hq h1 h2 hy => by
          rw [St.get_setn (by rw [nX]; exact h4.mn) h2, St.get_setn hso h1]; exact hy
        have hmn4 := h4.mn
        have n4 := K4.n
        have Bd5 : Bd o m4 (.sref so sg 0 R4.length) rv4 (R4.set i NR) (es4 ++ [(.agg KC, .int .i64 (i : Nat), clock4)]) (clock4 + 1) ⟨B1.slots.set i ⟨K.1, K.2, -1, none⟩, B1.free, B1.roots⟩ false ((S4.set so (.seq sg 10 (R4.set i NR) 0)).set m4 (.map (es4 ++ [(.agg KC, .int .i64 (i : Nat), clock4)]) (clock4 + 1))) := by
          refine ⟨St.ok_set (okX _), by rw [St.setB, bX], by rw [St.setN, nX]; exact on4, keep5 o _ on4 (Ne.symm hso') (Ne.symm hmo) g4, by rw [St.setN, nX]; exact hmn4, St.get_sete (okX _) (by rw [nX]; exact hmn4), ?_, ?_, h4.rows.set hNRr i, ?_⟩
          · rw [← hKC]
            exact h4.mok.put hlB hz1 hz0 ⟨K.1, K.2, -1, none⟩ (by simp) rfl
          · refine .inr ⟨so, sg, by rw [List.length_set], by rw [St.setN, nX]; exact hso, ?_⟩
            rw [St.get_setn (by rw [nX]; exact hmn4) hsm]
            exact St.get_sete ok4 hso
          · refine h4.rv.kp (by rw [St.setN, nX]; omega) fun q g rows e hq hg => keep5 q _ hq (fun e1 => ?_) (fun e1 => ?_) hg
            · rw [e1, hsg] at hg; cases hg
            · rw [e1, m4g] at hg; cases hg
        have g5N1 := keep5 _ _ (by omega) (fun e1 => by rw [← e1, g4N1] at hsg; cases hsg) (fun e1 => by rw [← e1, g4N1] at m4g; cases m4g) g4N1
        have K5 : Kq o S ((S4.set so (.seq sg 10 (R4.set i NR) 0)).set m4 (.map (es4 ++ [(.agg KC, .int .i64 (i : Nat), clock4)]) (clock4 + 1))) :=
          (K3.trans K4).trans ⟨Bd5.ok, by rw [Bd5.base, b4], by rw [St.setN, nX]; omega, fun q y hq hqo hx hy hg => keep5 q y hq (fun e1 => by rw [e1, hsg] at hg; cases hg; exact absurd rfl (hx _ _ _ _)) (fun e1 => by rw [e1, m4g] at hg; cases hg; exact absurd rfl (hy _ _)) hg⟩
        have n5 : ((S4.set so (.seq sg 10 (R4.set i NR) 0)).set m4 (.map (es4 ++ [(.agg KC, .int .i64 (i : Nat), clock4)]) (clock4 + 1))).n = S4.n := by rw [St.setN, nX]
        generalize (S4.set so (.seq sg 10 (R4.set i NR) 0)).set m4 (.map (es4 ++ [(.agg KC, .int .i64 (i : Nat), clock4)]) (clock4 + 1)) = S5 at *
        have hBD5 : BD o ⟨B1.slots.set i ⟨K.1, K.2, -1, none⟩, B1.free, B1.roots⟩ false S5 := ⟨_, _, _, _, _, _, Bd5⟩
        have hRB1 : RB c' (B1.slots.set i ⟨K.1, K.2, -1, none⟩) := fun j t hjt => by
          by_cases e1 : i = j
          · subst e1
            rw [List.getElem?_set_self (List.getElem?_eq_some_iff.1 hz1).1] at hjt; cases hjt
            simp only; omega
          · rw [List.getElem?_set_ne e1, hrm j (Ne.symm e1)] at hjt
            exact hRB j t hjt
        have hg7 : NR[7]? = some kv := by rw [← hNR]; rfl
        have hNRl := hNRr.len
        clear keep5 Bd5 hme hes okX bX nX mX hlk hlk1 hfind hfind4 hzl hzd hzrow hzr d1 d2 m4g g4 hsg g4k g4N1 hfit
        refine W_region fun K hK => ?_
        simp only [KA, KB, KP, KQ, KM, simprocAttr, KT w, KI, hw.KF, htm, t7, g5N1, hg7, hNRl, hkal]
        refine hK _ _ ?_
        clear hK
        clear K
        repeat with_reducible (first | apply E0 | apply E1 | apply E2 | apply E3 | apply E4 | refine E5 (by decide) ?_ | apply E6 | apply E7 | apply E8 | apply E9 | apply Ea | apply Eb | apply Ec | apply Ed)
        obtain ⟨SL, hSL⟩ : ∃ SL, B1.slots.set i ⟨K.1, K.2, -1, none⟩ = SL := ⟨_, rfl⟩
        rw [hSL] at hBD5 hRB1 hQ
        rw [hK2] at hQ
        have husedL : ∀ x ∈ l, ∃ s, SL[x]? = some s ∧ s.refs ≠ 0 := fun x hx => by
          obtain ⟨s, q1, q2⟩ := isL_used hIL hx
          have hxi : i ≠ x := fun e1 => by subst e1; exact q2 (hri s q1)
          exact ⟨s, by rw [← hSL, List.getElem?_set_ne hxi, hrm x (Ne.symm hxi)]; exact q1, q2⟩
        refine W_loop (fun k0 fr T => ∃ (tm : List AV) (j : Nat), fr = ⟨tm, [], none, 33⟩ ∧ k0 = l.length - j ∧ j ≤ l.length ∧ BD o ⟨(l.take j).foldl refS SL, B1.free, B1.roots⟩ false T ∧ Kq o S T ∧
            tm.length = 113 ∧ tget tm 0 = .ptr o 0 ∧ tget tm 14 = .int .i64 (i : Nat) ∧ tget tm 93 = kv ∧ tget tm 94 = .int .i64 (l.length : Nat) ∧ tget tm 95 = .int .i64 (j : Nat)) l.length
          ⟨_, 0, rfl, by omega, by omega, by rw [List.take_zero]; exact hBD5, K5, ?_⟩ ?_
        · simp only [KA, KP, KQ, simprocAttr, KT w, KI, hw.KF, htm, t0, t14, Int.ofNat_zero]
          try simp
        clear htm t0 t7 t14
        rintro k0 fr T ⟨tm, j, rfl, rfl, hj, hBDj, KT', htm, t0, t14, t93, t94, t95⟩
        repeat with_reducible (first | apply E0 | apply E1 | apply E2 | apply E3 | apply E4 | refine E5 (by decide) ?_ | apply E6 | apply E7 | apply E8 | apply E9 | apply Ea | apply Eb | apply Ec | apply Ed)
        by_cases hjl2 : (j : Int) < (l.length : Int)
        case neg =>
          have hje2 : j = l.length := by omega
          rw [hje2, List.take_length] at hBDj
          refine W_region fun K hK => ?_
          simp only [KA, KB, KP, KQ, KM, simprocAttr, KT w, KI, hw.KF, htm, t94, t95, hjl2]
          refine hK _ _ ?_
          clear hK
          clear K
          repeat with_reducible (first | apply E0 | apply E1 | apply E2 | apply E3 | apply E4 | refine E5 (by decide) ?_ | apply E6 | apply E7 | apply E8 | apply E9 | apply Ea | apply Eb | apply Ec | apply Ed)
          refine W_condF (by simp only [KA, KP, KQ, simprocAttr, KT w, KI, hw.KF, htm]) ?_
          repeat with_reducible (first | apply E0 | apply E1 | apply E2 | apply E3 | apply E4 | refine E5 (by decide) ?_ | apply E6 | apply E7 | apply E8 | apply E9 | apply Ea | apply Eb | apply Ec | apply Ed)
          refine W_region fun K hK => ?_
          simp only [KA, KB, KP, KQ, KM, simprocAttr, KT w, KI, hw.KF, htm, t14]
          refine hK _ _ ?_
          clear hK
          clear K
          repeat with_reducible (first | apply E0 | apply E1 | apply E2 | apply E3 | apply E4 | refine E5 (by decide) ?_ | apply E6 | apply E7 | apply E8 | apply E9 | apply Ea | apply Eb | apply Ec | apply Ed)
          refine AtEnd_of rfl ?_
          simp only [KA, KP, KQ, simprocAttr, KT w, KI, hw.KF, htm, RS_some, aresults_nil, aresults_tmp, aresults_cell, one]
          subst hQ
          exact ⟨KT', rfl, hBDj⟩
        have hjn2 : j < l.length := by omega
        obtain ⟨x, hx⟩ : ∃ x, l[j]? = some x := ⟨_, List.getElem?_eq_getElem hjn2⟩
        have hxl := List.mem_of_getElem? hx
        have hj0 : (0 : Int) ≤ (j : Int) := by omega
        rcases hkv with ⟨hk0, -⟩ | ⟨-, ko, kg, rfl, -⟩
        · exfalso
          have := congrArg List.length hk0
          rw [ks_len, List.length_nil] at this
          omega
        obtain ⟨s0, hs0, hs0r⟩ := husedL x hxl
        have hsj := refL_get (l.take j) SL x
        rw [hs0, Option.map_some] at hsj
        obtain ⟨s, hs⟩ : ∃ s, (if x ∈ l.take j then { s0 with refs := max s0.refs 0 + ((l.take j).count x : Nat) } else s0) = s := ⟨_, rfl⟩
        rw [hs] at hsj
        have hsr : s.refs ≠ 0 := by
          rw [← hs]
          split
          · rename_i hm
            have : 1 ≤ (l.take j).count x := List.one_le_count_iff.2 hm
            simp only; omega
          · exact hs0r
        have hsb : s.refs ≤ c' + (l.take j).length := RB.refL hc0' hRB1 (l.take j) x s hsj
        rw [List.length_take] at hsb
        obtain ⟨m5, sv5, rv5, R5, es5, clock5, h5⟩ := hBDj
        have g5 := h5.g
        have ok5 := h5.ok
        have b5 := h5.base
        obtain ⟨xrow, hxrow, hxr⟩ := h5.rows.get hsj
        obtain ⟨c6, c7, rfl, hc6, hc7⟩ := hxr
        rcases h5.sv with ⟨hR0, -⟩ | ⟨so5, sg5, rfl, hso5, hsg5⟩
        · rw [hR0] at hxrow; simp at hxrow
        have hx1 : (x : Int) < (R5.length : Int) := by have := (List.getElem?_eq_some_iff.1 hxrow).1; omega
        have hx0 : (0 : Int) ≤ (x : Int) := by omega
        have ew : IntKind.i64.wrap (max s.refs 0 + 1) = max s.refs 0 + 1 := i64_in _ (by omega)
        obtain ⟨P5, PK5⟩ := h5.put hso5 hsg5 (x := x) (s' := { s with refs := max s.refs 0 + 1 }) (row' := [.str s.fs.kind, .bool s.fs.named, .str s.fs.field, .int .i64 s.fs.frm, .int .i64 s.fs.to, .int .i64 s.fs.bad, c6, c7, .int .i64 (max s.refs 0 + 1), .int .i64 (optI s.next)])
          ⟨c6, c7, by simp only [slC, show max (max s.refs 0 + 1) 0 = max s.refs 0 + 1 from by omega], hc6, hc7⟩ (h5.mok.refs hsj hsr (by omega))
        have ej : IntKind.i64.wrap ((j : Int) + 1) = ((j + 1 : Nat) : Int) := by rw [i64_in _ (by omega)]; omega
        refine W_region fun K hK => ?_
        simp only [KA, KB, KP, KQ, KM, simprocAttr, KT w, KI, hw.KF, htm, t94, t95, hjl2]
        refine hK _ _ ?_
        clear hK
        clear K
        repeat with_reducible (first | apply E0 | apply E1 | apply E2 | apply E3 | apply E4 | refine E5 (by decide) ?_ | apply E6 | apply E7 | apply E8 | apply E9 | apply Ea | apply Eb | apply Ec | apply Ed)
        refine W_condT (by simp only [KA, KP, KQ, simprocAttr, KT w, KI, hw.KF, htm]) ?_
        repeat with_reducible (first | apply E0 | apply E1 | apply E2 | apply E3 | apply E4 | refine E5 (by decide) ?_ | apply E6 | apply E7 | apply E8 | apply E9 | apply Ea | apply Eb | apply Ec | apply Ed)
        refine W_region fun K hK => ?_
        simp only [KA, KB, KP, KQ, KM, simprocAttr, KT w, KI, hw.KF, htm, t93, t95, hj0, hjl2, hx, ks_get]
        refine hK _ _ ?_
        clear hK
        clear K
        repeat with_reducible (first | apply E0 | apply E1 | apply E2 | apply E3 | apply E4 | refine E5 (by decide) ?_ | apply E6 | apply E7 | apply E8 | apply E9 | apply Ea | apply Eb | apply Ec | apply Ed)
        refine W_region fun K hK => ?_
        simp only [KA, KB, KP, KQ, KM, simprocAttr, KT w, KI, hw.KF, htm, t0, g5, hsg5, hx0, hx1, hxrow, slC, ew, ok5, b5, hso5, splice]
        refine hK _ _ ?_
        clear hK
        clear K
        repeat with_reducible (first | apply E0 | apply E1 | apply E2 | apply E3 | apply E4 | refine E5 (by decide) ?_ | apply E6 | apply E7 | apply E8 | apply E9 | apply Ea | apply Eb | apply Ec | apply Ed)
        refine W_region fun K hK => ?_
        simp only [KA, KB, KP, KQ, KM, simprocAttr, KT w, KI, hw.KF, htm, t95, ej]
        refine hK _ _ ?_
        clear hK
        clear K
        refine ⟨l.length - (j + 1), by omega, _, j + 1, rfl, rfl, by omega, ?_, KT'.trans PK5, ?_⟩
        · have htk2 : l.take (j + 1) = l.take j ++ [x] := by rw [List.take_add_one, hx]; rfl
          rw [htk2, List.foldl_append, List.foldl_cons, List.foldl_nil, ref_set hsj]
          exact ⟨_, _, _, _, _, _, P5⟩
        · simp only [KA, KP, KQ, simprocAttr, KT w, KI, hw.KF, htm, t0, t14, t93, t94]
  have hjn : j < kids.length := by omega
  obtain ⟨x, hx⟩ : ∃ x, kids[j]? = some x := ⟨_, List.getElem?_eq_getElem hjn⟩
  have hxm := List.mem_of_getElem? hx
  have hd : kids.drop j = x :: kids.drop (j + 1) := by
    rw [List.drop_eq_getElem_cons hjn]
    rw [List.getElem?_eq_getElem hjn] at hx
    simp only [Option.some.injEq] at hx; rw [hx]
  have htk : kids.take (j + 1) = kids.take j ++ [x] := by rw [List.take_add_one, hx]; rfl
  rw [hd, nnL] at hcb
  rw [hd, layL] at hrest
  have hrow : (Node.rows kids)[j]? = some x.cells := by rw [Node.rows_get, hx]; rfl
  have hj0 : (0 : Int) ≤ (j : Int) := by omega
  have hxc : x.cells.length = 7 := Node.cells_len x
  have hxt : x.cells.take 7 = x.cells := Node.cells_take x
  have hxd : x.cells.drop 7 = [] := Node.cells_drop x
  refine W_region fun K hK => ?_
  simp only [KA, KB, KP, KQ, KM, simprocAttr, KT w, KI, hw.KF, htm, t20, t21, hjl]
  refine hK _ _ ?_
  clear hK
  clear K
  repeat with_reducible (first | apply E0 | apply E1 | apply E2 | apply E3 | apply E4 | refine E5 (by decide) ?_ | apply E6 | apply E7 | apply E8 | apply E9 | apply Ea | apply Eb | apply Ec | apply Ed)
  refine W_condT (by simp only [KA, KP, KQ, simprocAttr, KT w, KI, hw.KF, htm]) ?_
  repeat with_reducible (first | apply E0 | apply E1 | apply E2 | apply E3 | apply E4 | refine E5 (by decide) ?_ | apply E6 | apply E7 | apply E8 | apply E9 | apply Ea | apply Eb | apply Ec | apply Ed)
  refine W_region fun K hK => ?_
  simp only [KA, KB, KP, KQ, KM, simprocAttr, KT w, KI, hw.KF, htm, t19, t21, hj0, hjl, hrl, hrow, hxc, hxt, hxd, hok, hb, A3p, splice]
  refine hK _ _ ?_
  clear hK
  clear K
  repeat with_reducible (first | apply E0 | apply E1 | apply E2 | apply E3 | apply E4 | refine E5 (by decide) ?_ | apply E6 | apply E7 | apply E8 | apply E9 | apply Ea | apply Eb | apply Ec | apply Ed)
  have hBD1 := hBD.push (.row x.cells false)
  have g1 : ∀ q y, q < T.n → T.get q = some y → (T.push (.row x.cells false)).get q = some y := fun q y hq hy => by rw [St.get_pushn (by omega)]; exact hy
  have g1N : (T.push (.row x.cells false)).get N = _ := g1 _ _ (by omega) gN
  have g1N1 : (T.push (.row x.cells false)).get (N + 1) = _ := g1 _ _ (by omega) gN1
  have g1x : (T.push (.row x.cells false)).get T.n = some (.row x.cells false) := St.get_pushe
  have n1 : (T.push (.row x.cells false)).n = T.n + 1 := St.pushN _ _
  have K1 : Kq o T (T.push (.row x.cells false)) := Kq.push hok _
  have hkv1 : Ow (ks l) kv (T.push (.row x.cells false)) := hkv.kq K1 (by obtain ⟨_, _, _, c1, c2, c3, c4, h⟩ := hBD.facts; exact ⟨_, h⟩)
  obtain ⟨T1, hT1⟩ : ∃ T1, T.push (.row x.cells false) = T1 := ⟨_, rfl⟩
  rw [hT1] at hBD1 g1N g1N1 g1x n1 K1 hkv1
  rw [hT1]
  obtain ⟨ok1, b1, on1, -⟩ := hBD1.facts
  have hnx : 1 ≤ nn x := by cases x; rw [nn]; omega
  obtain ⟨v, S2, hc2, hQ2⟩ := ih x hxm a B p' c' T1 hB hRB hc0' (by omega) hBD1
  have hcall : callF (cfg w) (lim (cfg w)) 33 [.ptr o 0, .agg x.cells, .int .i64 a] T1 = some (v, S2) := by
    rw [callF_raw (by exact hw.e33) (by exact hw.m33)]; exact hc2
  obtain ⟨K2, hQ2⟩ := hQ2
  have g2 : ∀ q cs lk, q < T1.n → q ≠ o → T1.get q = some (.row cs lk) → S2.get q = some (.row cs lk) := fun q cs lk hq hqo hg => K2.get q _ hq hqo (fun g es rows e h => by cases h) (fun es c h => by cases h) hg
  have g2N := g2 N _ _ (by omega) hNo g1N
  have g2N1 := g2 (N + 1) _ _ (by omega) hN1o g1N1
  have n2 := K2.n
  refine W_region fun K hK => ?_
  simp only [KA, KB, KP, KQ, KM, simprocAttr, KT w, KI, hw.KF, htm, t0, t4, g1N, g1x, hxc, hxt, hcall]
  refine hK _ _ ?_
  clear hK
  clear K
  repeat with_reducible (first | apply E0 | apply E1 | apply E2 | apply E3 | apply E4 | refine E5 (by decide) ?_ | apply E6 | apply E7 | apply E8 | apply E9 | apply Ea | apply Eb | apply Ec | apply Ed)
  rcases lay_or x a B p' hB with ⟨hl0, -⟩ | ⟨i, C, hl1, hC, hleC, hIsC, hrC, -⟩
  · rw [hl0] at hQ2 hrest
    obtain ⟨rfl, d1, d2, d3, d4, hful⟩ := hQ2
    simp only at hrest
    rw [hrest] at hQ
    simp only at hQ
    subst hQ
    refine W_region fun K hK => ?_
    simp only [KA, KB, KP, KQ, KM, simprocAttr, KT w, KI, hw.KF, htm, t0, hful]
    refine hK _ _ ?_
    clear hK
    clear K
    repeat with_reducible (first | apply E0 | apply E1 | apply E2 | apply E3 | apply E4 | refine E5 (by decide) ?_ | apply E6 | apply E7 | apply E8 | apply E9 | apply Ea | apply Eb | apply Ec | apply Ed)
    refine W_condT (by simp only [KA, KP, KQ, simprocAttr, KT w, KI, hw.KF, htm]) ?_
    repeat with_reducible (first | apply E0 | apply E1 | apply E2 | apply E3 | apply E4 | refine E5 (by decide) ?_ | apply E6 | apply E7 | apply E8 | apply E9 | apply Ea | apply Eb | apply Ec | apply Ed)
    refine W_region fun K hK => ?_
    simp only [KA, KB, KP, KQ, KM, simprocAttr, KT w, KI, hw.KF, htm]
    refine hK _ _ ?_
    clear hK
    clear K
    repeat with_reducible (first | apply E0 | apply E1 | apply E2 | apply E3 | apply E4 | refine E5 (by decide) ?_ | apply E6 | apply E7 | apply E8 | apply E9 | apply Ea | apply Eb | apply Ec | apply Ed)
    refine AtEnd_of rfl ?_
    simp only [KA, KP, KQ, simprocAttr, KT w, KI, hw.KF, htm, RS_some, aresults_nil, aresults_tmp, aresults_cell, one]
    exact ⟨hKq.trans (K1.trans K2), rfl, d1, d2, d3, d4, hful⟩
  rw [hl1] at hQ2 hrest
  simp only at hrest
  obtain ⟨rfl, hBD2⟩ := hQ2
  obtain ⟨ok2, b2, on2, d1, d2, d3, d4, hful⟩ := hBD2.facts
  have hkv2 := hkv1.kq K2 (by obtain ⟨_, _, _, c1, c2, c3, c4, h⟩ := hBD1.facts; exact ⟨_, h⟩)
  obtain ⟨kv', S3, hap, hkv3, ok3, b3, n3, lf3, cl3, fr3, aw3⟩ := app_ow (es := 1) (bytes := 8) [.int .i64 (i : Int)] hkv2 ok2 b2 rfl (ks_hd l) (by simp [capOk, ks]; omega)
  rw [ks_snoc] at hkv3
  have g3N1 := fr3 _ _ (by omega) (hkv2.aw g2N1 (fun g h => by cases h)) g2N1
  have g3N := fr3 _ _ (by omega) (hkv2.aw g2N (fun g h => by cases h)) g2N
  have hn3 : N + 1 < S3.n := by omega
  refine W_region fun K hK => ?_
  simp only [KA, KB, KP, KQ, KM, simprocAttr, KT w, KI, hw.KF, htm, t0, hful]
  refine hK _ _ ?_
  clear hK
  clear K
  repeat with_reducible (first | apply E0 | apply E1 | apply E2 | apply E3 | apply E4 | refine E5 (by decide) ?_ | apply E6 | apply E7 | apply E8 | apply E9 | apply Ea | apply Eb | apply Ec | apply Ed)
  refine W_condF (by simp only [KA, KP, KQ, simprocAttr, KT w, KI, hw.KF, htm]) ?_
  repeat with_reducible (first | apply E0 | apply E1 | apply E2 | apply E3 | apply E4 | refine E5 (by decide) ?_ | apply E6 | apply E7 | apply E8 | apply E9 | apply Ea | apply Eb | apply Ec | apply Ed)
  refine W_region fun K hK => ?_
  simp only [KA, KB, KP, KQ, KM, reduceCtorEq, ↓reduceIte, Int.reduceLT, Int.reduceLE, Int.reduceAdd, Int.reduceSub, Int.reduceNeg, Int.reduceMul, Int.reduceToNat, Int.reduceEq, Int.reduceNe, Int.reduceGT, Int.reduceGE, Nat.reducePow, Nat.reduceAdd, Nat.reduceSub, Nat.reduceLT, Nat.reduceMul, Nat.reduceDiv, Nat.reduceEqDiff, Nat.reduceLeDiff, KT w, KI, hw.KF, htm, t7, g2N1, hap, g3N1, ok3, b3, hn3, lf3, cl3, splice]
  refine hK _ _ ?_
  clear hK
  clear K
  repeat with_reducible (first | apply E0 | apply E1 | apply E2 | apply E3 | apply E4 | refine E5 (by decide) ?_ | apply E6 | apply E7 | apply E8 | apply E9 | apply Ea | apply Eb | apply Ec | apply Ed)
  have e21 : IntKind.i64.wrap ((j : Int) + 1) = ((j + 1 : Nat) : Int) := by rw [i64_in _ (by omega)]; omega
  refine W_region fun K hK => ?_
  simp only [KA, KB, KP, KQ, KM, simprocAttr, KT w, KI, hw.KF, htm, t21, e21]
  refine hK _ _ ?_
  clear hK
  clear K
  have hBD3 : BD o C false S3 := by
    obtain ⟨m, sv, rv, R, es, clock, h⟩ := hBD2
    exact ⟨m, sv, rv, R, es, clock, h.keep ok3 b3 n3 fun q y hq ht _ hg => fr3 q y hq (hkv2.aw hg ht) hg⟩
  have hBD4 := hBD3.setRow hn3 hN1o g3N1 (.row [.str [], .bool false, .str [], .int .i64 0, .int .i64 0, .int .i64 0, .nils, kv', .int .i64 0, .int .i64 (-1)] false)
  have hnn : nnL (kids.take (j + 1)) = nnL (kids.take j) + nn x := by rw [htk, nnL_snoc]
  have hlt1 : (kids.take j).length = j := by rw [List.length_take]; omega
  have hlt2 : (kids.take (j + 1)).length = j + 1 := by rw [List.length_take]; omega
  have hRB2 := lay_rb x a B c' i C hc0' hRB hl1
  refine ⟨kids.length - (j + 1), by omega, _, j + 1, l ++ [i], C, i :: p', c' + nn x - 1, kv', rfl, rfl, by omega, by simp; omega, hBD4, hC, hRB2, by omega, by omega, by rw [hnn, hlt2, hcc, hlt1]; omega, ?_, ?_, ?_, ?_, ?_, ?_, ?_, ?_, ?_, ?_⟩
  · cases hLL : layL (kids.drop (j + 1)) a C with
    | none => rw [hLL] at hrest; exact hrest
    | some q =>
      obtain ⟨l', D⟩ := q
      rw [hLL] at hrest
      simp only at hrest ⊢
      rw [hrest]; simp
  · rcases hkv3 with h | ⟨h1, q, g, h2, h3, h4⟩
    · exact .inl h
    · refine .inr ⟨h1, q, g, h2, by rw [St.setN]; exact h3, ?_⟩
      rw [St.get_setn hn3 (fun e => by rw [e, g3N1] at h4; cases h4)]; exact h4
  · rw [htk, ntL_snoc]
    exact isL_snoc hIsC _ _ (IsL.mono hleC _ _ hIL)
  · intro y hy
    rcases List.mem_cons.1 hy with rfl | hy
    · exact .inr (by simp)
    · rcases hpp y hy with h | h
      · exact .inl h
      · exact .inr (List.mem_append_left _ h)
  · rw [St.get_setn hn3 (by omega)]; exact g3N
  · exact St.get_sete ok3 hn3
  · rw [St.setN]; exact hn3
  · have hlq : ∀ q y, q < S.n → q ≠ o → (∀ g es rows e, y ≠ AObj.seq g es rows e) → (∀ es c, y ≠ AObj.map es c) → S.get q = some y → (S3.set (N + 1) (.row [.str [], .bool false, .str [], .int .i64 0, .int .i64 0, .int .i64 0, .nils, kv', .int .i64 0, .int .i64 (-1)] false)).get q = some y := fun q y hq hqo hx hy hg => by
      have h1 := (hKq.trans (K1.trans K2)).get q y hq hqo hx hy hg
      have h2 := fr3 q y (by have := hKq.n; omega) (fun r oo g e => by have := hkN r oo g e; omega) h1
      rw [St.get_setn hn3 (by omega)]; exact h2
    exact ⟨St.ok_set ok3, by rw [St.setB, b3, ← hKq.base]; exact hb.symm, by rw [St.setN]; have := hKq.n; omega, hlq⟩
  · intro r oo g e
    by_cases hlt : oo < N
    · exfalso
      exact aw3 oo (by have := hKq.n; omega) (fun r' o' g' e' h => by have := hkN r' o' g' e'; omega) r oo g e rfl
    · omega
  · simp only [KA, KP, KQ, simprocAttr, KT w, KI, hw.KF, htm, t0, t2, t4, t7, t19, t20]
    try simp
end Go.Am.R
