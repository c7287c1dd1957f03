/- THE DOCUMENT'S READER. -/
import Derived.Test.YtjdhcjhalkjamaaDoorV23
set_option linter.unusedSimpArgs false
set_option linter.unusedVariables false
set_option maxRecDepth 20000
namespace Go.Am.V
open Go.Proofs Go.IntWalk

variable {w : Ways}

/-- v isn't at q. -/
def Aw (v : AV) (q : Nat) : Prop := ∀ r o g, v = .own r o g → o ≠ q
def Ap (v u : AV) : Prop := ∀ r o g, u = .own r o g → Aw v o
theorem Ap.symm {v u : AV} (h : Ap v u) : Ap u v := fun r o g e r' o' g' e' he => h r' o' g' e' r o g e he.symm
theorem Aw.nils (q : Nat) : Aw .nils q := fun r o g h => by cases h
theorem Ap.nils (v : AV) : Ap v .nils := fun r o g h => by cases h

theorem Ow.kp {rows : Rows} {v : AV} {S S' : St} (h : Ow rows v S) (hn : S.n ≤ S'.n) (hg : ∀ r o g, v = .own r o g → ∀ x, S.get o = some x → S'.get o = some x) : Ow rows v S' := by
  rcases h with h | ⟨h1, o, g, h2, h3, h4⟩
  · exact .inl h
  · exact .inr ⟨h1, o, g, h2, by omega, hg _ _ _ h2 _ h4⟩
theorem Ow.alen {rows : Rows} {v : AV} {S : St} (h : Ow rows v S) {t e : TypeId} (ht : kindOf (cfg w) t = .slice e) (T : St) : Am.alen (cfg w) T t v = some (.int .i64 rows.length) := by
  unfold Am.alen
  rw [ht]
  rcases h with ⟨rfl, rfl⟩ | ⟨_, o, g, rfl, _⟩ <;> rfl

/-- A row is appended. -/
theorem app_ow {es bytes : Nat} {rows : Rows} {v : AV} {S : St} (row : List AV) (h : Ow rows v S) (hok : S.ok) (hb : S.base = 0) (hr : row.length = es) (hh : headOk es rows = true) (hc : capOk (rows.length + 1) bytes = true) :
    ∃ v' S', aappend es bytes false v [row] S = some (v', S') ∧ Ow (rows ++ [row]) v' S' ∧ S'.ok ∧ S'.base = 0 ∧ S.n ≤ S'.n ∧
      (∀ q x, q < S.n → Aw v q → S.get q = some x → S'.get q = some x) ∧ (∀ q, q < S.n → Aw v q → Aw v' q) := by
  have hh' : headOk es [row] = true := by simp [headOk, hr]
  rcases h with ⟨rfl, rfl⟩ | ⟨h1, o, g, rfl, h3, h4⟩
  · refine ⟨.own [row] S.n 0, S.push (.tail 0), ?_, .inr ⟨by simp, S.n, 0, rfl, by rw [St.pushN]; omega, St.get_pushe⟩, St.ok_push hok, by rw [St.pushB]; exact hb, by rw [St.pushN]; omega, fun q x hq _ hx => by rw [St.get_pushn (by omega)]; exact hx, fun q hq _ => ?_⟩
    · have hc' : capOk ([row] : Rows).length bytes = true := hc
      simp [aappend, hh', hc', aappend.fresh]
      simpa using hc'
    · intro r o g e; cases e; omega
  · refine ⟨.own (rows ++ [row]) o (g + 1), S.set o (.tail (g + 1)), ?_, .inr ⟨by simp, o, g + 1, rfl, by rw [St.setN]; exact h3, St.get_sete hok h3⟩, St.ok_set hok, by rw [St.setB]; exact hb, by rw [St.setN]; omega, fun q x hq ha hx => by rw [St.get_setn h3 (Ne.symm (ha _ _ _ rfl))]; exact hx, fun q hq ha => ?_⟩
    · have he : rows.isEmpty = false := by cases rows with | nil => exact absurd rfl h1 | cons _ _ => rfl
      have hb' : S.base ≤ o := by omega
      have hc' : capOk (rows.length + ([row] : Rows).length) bytes = true := hc
      simp [aappend, hh', h4, he, hc', hh, hb']
      simpa using hc'
    · intro r o' g' e; cases e; exact ha _ _ _ rfl

theorem Ow.others {rows R : Rows} {v v' u : AV} {S S' : St} (hu : Ow R u S) (ha : Ap v u) (hn : S.n ≤ S'.n) (hg : ∀ q x, q < S.n → Aw v q → S.get q = some x → S'.get q = some x) (hv : ∀ q, q < S.n → Aw v q → Aw v' q) : Ow R u S' ∧ Ap v' u := by
  rcases hu with ⟨h1, rfl⟩ | ⟨h1, o, g, rfl, h3, h4⟩
  · exact ⟨.inl ⟨h1, rfl⟩, Ap.nils _⟩
  · refine ⟨.inr ⟨h1, o, g, rfl, by omega, hg _ _ h3 (ha _ _ _ rfl) h4⟩, fun r o' g' e => ?_⟩
    cases e
    exact hv _ h3 (ha _ _ _ rfl)
theorem Ow.aw0 {rows : Rows} {v : AV} {S : St} {q : Nat} {c : List AV} {b : Bool} (h : Ow rows v S) (hg : S.get q = some (.row c b)) : Aw v q := by
  rcases h with ⟨_, rfl⟩ | ⟨_, o, g, rfl, _, h4⟩
  · exact Aw.nils _
  · intro r o' g' e he
    cases e; subst he
    rw [h4] at hg; cases hg

/-- Where the reader stands, behind each operation. -/
structure P9 (p : List Ins) (e : List Int) (pv ev : AV) (S : St) : Prop where
  ok : S.ok
  base : S.base = 0
  n : 0 < S.n
  g0 : S.get 0 = some (.row [.int .i64 0, .int .i64 0] false)
  hp : Ow (inRows p) pv S
  he : Ow (ints e) ev S
  ap : Ap pv ev
/-- .. among an operation's numbers. -/
structure N9 (p : List Ins) (e : List Int) (l : List Int) (pv ev nv : AV) (S : St) : Prop extends P9 p e pv ev S where
  hl : Ow (ints l) nv S
  apn : Ap nv pv
  aen : Ap nv ev

theorem N9.app {p : List Ins} {e l : List Int} {pv ev nv : AV} {S : St} (h : N9 p e l pv ev nv S) (x : Int) (hl : l.length ≤ 10) : ∃ v' S', aappend 1 8 false nv [[.int .i64 x]] S = some (v', S') ∧ N9 p e (l ++ [x]) pv ev v' S' := by
  obtain ⟨v', S', h1, h2, h3, h4, h5, h6, h7⟩ := app_ow (es := 1) (bytes := 8) [.int .i64 x] h.hl h.ok h.base rfl (by cases l <;> rfl) (by simp [capOk, ints]; omega)
  rw [ints_snoc] at h2
  obtain ⟨a1, a2⟩ := h.hp.others h.apn h5 h6 h7 (rows := [])
  obtain ⟨b1, b2⟩ := h.he.others h.aen h5 h6 h7 (rows := [])
  exact ⟨v', S', h1, ⟨h3, h4, by have := h.n; omega, h6 _ _ h.n (h.hl.aw0 h.g0) h.g0, a1, b1, h.ap⟩, h2, a2, b2⟩
theorem P9.appP {p : List Ins} {e : List Int} {pv ev : AV} {S : St} (h : P9 p e pv ev S) (x : Ins) (hl : p.length ≤ 64) : ∃ v' S', aappend 4 32 false pv [inRow x] S = some (v', S') ∧ P9 (p ++ [x]) e v' ev S' := by
  obtain ⟨v', S', h1, h2, h3, h4, h5, h6, h7⟩ := app_ow (es := 4) (bytes := 32) (inRow x) h.hp h.ok h.base rfl (by cases p <;> rfl) (by simp [capOk, inRows]; omega)
  rw [inRows_snoc] at h2
  obtain ⟨b1, b2⟩ := h.he.others h.ap h5 h6 h7 (rows := [])
  exact ⟨v', S', h1, h3, h4, by have := h.n; omega, h6 _ _ h.n (h.hp.aw0 h.g0) h.g0, h2, b1, b2⟩
theorem P9.appE {p : List Ins} {e : List Int} {pv ev : AV} {S : St} (h : P9 p e pv ev S) (x : Int) (hl : e.length ≤ 64) : ∃ v' S', aappend 1 8 false ev [[.int .i64 x]] S = some (v', S') ∧ P9 p (e ++ [x]) pv v' S' := by
  obtain ⟨v', S', h1, h2, h3, h4, h5, h6, h7⟩ := app_ow (es := 1) (bytes := 8) [.int .i64 x] h.he h.ok h.base rfl (by cases e <;> rfl) (by simp [capOk, ints]; omega)
  rw [ints_snoc] at h2
  obtain ⟨b1, b2⟩ := h.hp.others h.ap.symm h5 h6 h7 (rows := [])
  exact ⟨v', S', h1, h3, h4, by have := h.n; omega, h6 _ _ h.n (h.he.aw0 h.g0) h.g0, b1, h2, b2.symm⟩

theorem tok_wlen : ∀ (l : List UInt8) (a : Nat) (cur : List UInt8) (x : Nat × List UInt8), x ∈ tok a cur l → x.2.length ≤ cur.length + l.length + 1
  | [], a, cur, x, h => by
    rw [tok] at h
    split at h
    · simp at h
    · simp at h; subst h; simp
  | b :: l, a, cur, x, h => by
    rw [tok] at h
    have h1 := tok_wlen l (a + cur.length + 1) [] x
    have h2 := tok_wlen l a (cur ++ [b]) x
    simp only [List.length_append, List.length_cons, List.length_nil] at h1 h2 ⊢
    split at h
    · rw [List.mem_append] at h
      rcases h with h | h
      · split at h
        · simp at h
        · simp at h; subst h; simp; omega
      · have := h1 h; omega
    · split at h
      · rw [List.mem_append, List.mem_cons] at h
        rcases h with h | h | h
        · split at h
          · simp at h
          · simp at h; subst h; simp; omega
        · subst h; simp
        · have := h1 h; omega
      · have := h2 h; omega

theorem numsR_ok (n op : Int) (T : List (Nat × List UInt8)) (K : Nat) : ∀ (j i : Nat) (l l' : List Int), numsR n op T K j i l = .inr l' → j = 0 ∨ ∃ q, T[K + (i + j - 1)]? = some q
  | 0, i, l, l', h => .inl rfl
  | j + 1, i, l, l', h => by
    rw [numsR] at h
    split at h
    · cases h
    · rename_i q b wd hq
      split at h
      · cases h
      · rcases numsR_ok n op T K j (i + 1) _ _ h with rfl | h'
        · exact .inr ⟨_, hq⟩
        · right
          have : i + 1 + j - 1 = i + (j + 1) - 1 := by omega
          rw [← this]; exact h'

theorem kindR_none {wd : List UInt8} (h : findOp wd = none) : kindR wd = (0, 0) := by simp [kindR, h]
theorem kindR_some {wd : List UInt8} {x : Int × List UInt8} (h : findOp wd = some x) : kindR wd = (x.1, (x.2.length : Int)) := by simp [kindR, h]

set_option maxHeartbeats 8000000 in
theorem parse9 (hw : Std w) (s : List UInt8) (hs : s.length ≤ 1000000000) : PC (cfg w) 9 [.str s] (resP (refV s)) := by
  refine PC_of (args' := [.str s]) hw.e9 hw.m9 (by simp [nrmA, nrm]) ?_
  have hwd := words21 hw s hs
  have hTl := tok_len s 0 []
  have hTw := tok_wlen s 0 []
  unfold refV
  generalize tok 0 [] s = T at *
  have hflt := fault22 hw
  generalize hR : refR s.length T (T.length + 1) 0 [] [] = R
  refine call_of_W (fn9 w) rfl ?_
  simp only [Tryd.f9, List.length_cons, List.length_nil, ↓reduceIte, Int.reduceLT, Int.reduceLE, Int.reduceAdd, Int.reduceSub, Int.reduceNeg, Int.reduceMul, Int.reduceToNat, Int.reduceEq, Int.reduceNe, Int.reduceGT, Int.reduceGE, Nat.reducePow, IntKind.bits, Nat.reduceAdd, Nat.reduceSub, List.cons_append, List.nil_append]
  repeat with_reducible (first | refine E0 ?_ | refine E1 ?_ | refine E2 ?_ | refine E3 ?_ | refine E4 ?_ | refine E5 (by decide) ?_ | refine E6 ?_ | refine E7 ?_ | refine E8 ?_ | refine E9 ?_ | refine Ea ?_ | refine Eb ?_ | refine Ec ?_ | refine Ed ?_)
  refine W_region fun K hK => ?_
  simp only [KA, KB, KP, KQ, reduceCtorEq, ↓reduceIte, Int.reduceLT, Int.reduceLE, Int.reduceAdd, Int.reduceSub, Int.reduceNeg, Int.reduceMul, Int.reduceToNat, Int.reduceEq, Int.reduceNe, Int.reduceGT, Int.reduceGE, Nat.reducePow, Nat.reduceAdd, Nat.reduceSub, Nat.reduceLT, Nat.reduceMul, Nat.reduceDiv, Nat.reduceEqDiff, Nat.reduceLeDiff, KT w, KI, hw.KF]
  refine hK _ _ ?_
  clear hK
  clear K
  repeat with_reducible (first | refine E0 ?_ | refine E1 ?_ | refine E2 ?_ | refine E3 ?_ | refine E4 ?_ | refine E5 (by decide) ?_ | refine E6 ?_ | refine E7 ?_ | refine E8 ?_ | refine E9 ?_ | refine Ea ?_ | refine Eb ?_ | refine Ec ?_ | refine Ed ?_)
  refine W_region fun K hK => ?_
  simp only [KA, KB, KP, KQ, reduceCtorEq, ↓reduceIte, Int.reduceLT, Int.reduceLE, Int.reduceAdd, Int.reduceSub, Int.reduceNeg, Int.reduceMul, Int.reduceToNat, Int.reduceEq, Int.reduceNe, Int.reduceGT, Int.reduceGE, Nat.reducePow, Nat.reduceAdd, Nat.reduceSub, Nat.reduceLT, Nat.reduceMul, Nat.reduceDiv, Nat.reduceEqDiff, Nat.reduceLeDiff, KT w, KI, hw.KF, hwd]
  refine hK _ _ ?_
  clear hK
  clear K
  repeat with_reducible (first | refine E0 ?_ | refine E1 ?_ | refine E2 ?_ | refine E3 ?_ | refine E4 ?_ | refine E5 (by decide) ?_ | refine E6 ?_ | refine E7 ?_ | refine E8 ?_ | refine E9 ?_ | refine Ea ?_ | refine Eb ?_ | refine Ec ?_ | refine Ed ?_)
  refine W_region fun K hK => ?_
  simp only [KA, KB, KP, KQ, reduceCtorEq, ↓reduceIte, Int.reduceLT, Int.reduceLE, Int.reduceAdd, Int.reduceSub, Int.reduceNeg, Int.reduceMul, Int.reduceToNat, Int.reduceEq, Int.reduceNe, Int.reduceGT, Int.reduceGE, Nat.reducePow, Nat.reduceAdd, Nat.reduceSub, Nat.reduceLT, Nat.reduceMul, Nat.reduceDiv, Nat.reduceEqDiff, Nat.reduceLeDiff, KT w, KI, hw.KF]
  refine hK _ _ ?_
  clear hK
  clear K
  repeat with_reducible (first | refine E0 ?_ | refine E1 ?_ | refine E2 ?_ | refine E3 ?_ | refine E4 ?_ | refine E5 (by decide) ?_ | refine E6 ?_ | refine E7 ?_ | refine E8 ?_ | refine E9 ?_ | refine Ea ?_ | refine Eb ?_ | refine Ec ?_ | refine Ed ?_)
  refine W_region fun K hK => ?_
  simp only [KA, KB, KP, KQ, reduceCtorEq, ↓reduceIte, Int.reduceLT, Int.reduceLE, Int.reduceAdd, Int.reduceSub, Int.reduceNeg, Int.reduceMul, Int.reduceToNat, Int.reduceEq, Int.reduceNe, Int.reduceGT, Int.reduceGE, Nat.reducePow, Nat.reduceAdd, Nat.reduceSub, Nat.reduceLT, Nat.reduceMul, Nat.reduceDiv, Nat.reduceEqDiff, Nat.reduceLeDiff, KT w, KI, hw.KF]
  refine hK _ _ ?_
  clear hK
  clear K
  repeat with_reducible (first | refine E0 ?_ | refine E1 ?_ | refine E2 ?_ | refine E3 ?_ | refine E4 ?_ | refine E5 (by decide) ?_ | refine E6 ?_ | refine E7 ?_ | refine E8 ?_ | refine E9 ?_ | refine Ea ?_ | refine Eb ?_ | refine Ec ?_ | refine Ed ?_)
  refine W_region fun K hK => ?_
  simp only [KA, KB, KP, KQ, reduceCtorEq, ↓reduceIte, Int.reduceLT, Int.reduceLE, Int.reduceAdd, Int.reduceSub, Int.reduceNeg, Int.reduceMul, Int.reduceToNat, Int.reduceEq, Int.reduceNe, Int.reduceGT, Int.reduceGE, Nat.reducePow, Nat.reduceAdd, Nat.reduceSub, Nat.reduceLT, Nat.reduceMul, Nat.reduceDiv, Nat.reduceEqDiff, Nat.reduceLeDiff, KT w, KI, hw.KF]
  refine hK _ _ ?_
  clear hK
  clear K
  repeat with_reducible (first | refine E0 ?_ | refine E1 ?_ | refine E2 ?_ | refine E3 ?_ | refine E4 ?_ | refine E5 (by decide) ?_ | refine E6 ?_ | refine E7 ?_ | refine E8 ?_ | refine E9 ?_ | refine Ea ?_ | refine Eb ?_ | refine Ec ?_ | refine Ed ?_)
  refine W_loop (fun k fr S => ∃ (tm : List AV) (K f : Nat) (p : List Ins) (e : List Int) (pv ev : AV), fr = ⟨tm, [], none, 9⟩ ∧ P9 p e pv ev S ∧ k = T.length + 1 - K ∧ K ≤ T.length ∧ p.length ≤ 64 ∧ e.length = p.length ∧
      0 < f ∧ T.length < f + K ∧ refR s.length T f K p e = R ∧
      tm.length = 162 ∧ tget tm 0 = .str s ∧ tget tm 3 = .ptr 0 0 ∧ tget tm 4 = .vec (wrows T) ∧ tget tm 5 = pv ∧ tget tm 6 = ev ∧ tget tm 7 = .int .i64 (K : Nat)) (T.length + 1)
    ⟨_, 0, T.length + 1, [], [], .nils, .nils, rfl, ⟨St.ok_push St.ok_nil, rfl, by rw [St.pushN]; omega, St.get_pushe, .inl ⟨rfl, rfl⟩, .inl ⟨rfl, rfl⟩, Ap.nils _⟩, rfl, by omega, by simp, rfl, by omega, by omega, hR, ?_⟩ ?_
  · simp only [KA, KP, KQ, reduceCtorEq, ↓reduceIte, Int.reduceLT, Int.reduceLE, Int.reduceAdd, Int.reduceSub, Int.reduceNeg, Int.reduceMul, Int.reduceToNat, Int.reduceEq, Int.reduceNe, Int.reduceGT, Int.reduceGE, Nat.reducePow, Nat.reduceAdd, Nat.reduceSub, Nat.reduceLT, Nat.reduceMul, Nat.reduceDiv, Nat.reduceEqDiff, Nat.reduceLeDiff, KT w, KI, hw.KF, Int.ofNat_zero]
    try simp
  clear hR hwd
  rintro k fr S ⟨tm, K, f, p, e, pv, ev, rfl, hP, rfl, hK, hp64, hep, hf0, hfT, hR, htm, t0, t3, t4, t5, t6, t7⟩
  have hlw := wrows_len T
  have hok := hP.ok
  have hbs := hP.base
  have hn0 := hP.n
  have g0 := hP.g0
  have gS : ∀ X, (S.set 0 X).get 0 = some X := fun X => St.get_sete hok hn0
  obtain ⟨f, rfl⟩ : ∃ f', f = f' + 1 := ⟨f - 1, by omega⟩
  rw [refR] at hR
  repeat with_reducible (first | refine E0 ?_ | refine E1 ?_ | refine E2 ?_ | refine E3 ?_ | refine E4 ?_ | refine E5 (by decide) ?_ | refine E6 ?_ | refine E7 ?_ | refine E8 ?_ | refine E9 ?_ | refine Ea ?_ | refine Eb ?_ | refine Ec ?_ | refine Ed ?_)
  cases hT : T[K]? with
  | none =>
    rw [hT] at hR
    simp only at hR
    subst hR
    have hge : ((T.length : Nat) : Int) ≤ (K : Int) := by have := List.getElem?_eq_none_iff.1 hT; omega
    refine W_region fun K hK => ?_
    simp only [KA, KB, KP, KQ, reduceCtorEq, ↓reduceIte, Int.reduceLT, Int.reduceLE, Int.reduceAdd, Int.reduceSub, Int.reduceNeg, Int.reduceMul, Int.reduceToNat, Int.reduceEq, Int.reduceNe, Int.reduceGT, Int.reduceGE, Nat.reducePow, Nat.reduceAdd, Nat.reduceSub, Nat.reduceLT, Nat.reduceMul, Nat.reduceDiv, Nat.reduceEqDiff, Nat.reduceLeDiff, KT w, KI, hw.KF, htm, t4, t7, hlw, hge]
    refine hK _ _ ?_
    clear hK
    clear K
    repeat with_reducible (first | refine E0 ?_ | refine E1 ?_ | refine E2 ?_ | refine E3 ?_ | refine E4 ?_ | refine E5 (by decide) ?_ | refine E6 ?_ | refine E7 ?_ | refine E8 ?_ | refine E9 ?_ | refine Ea ?_ | refine Eb ?_ | refine Ec ?_ | refine Ed ?_)
    refine W_condT (by simp only [KA, KP, KQ, reduceCtorEq, ↓reduceIte, Int.reduceLT, Int.reduceLE, Int.reduceAdd, Int.reduceSub, Int.reduceNeg, Int.reduceMul, Int.reduceToNat, Int.reduceEq, Int.reduceNe, Int.reduceGT, Int.reduceGE, Nat.reducePow, Nat.reduceAdd, Nat.reduceSub, Nat.reduceLT, Nat.reduceMul, Nat.reduceDiv, Nat.reduceEqDiff, Nat.reduceLeDiff, KT w, KI, hw.KF, htm]) ?_
    repeat with_reducible (first | refine E0 ?_ | refine E1 ?_ | refine E2 ?_ | refine E3 ?_ | refine E4 ?_ | refine E5 (by decide) ?_ | refine E6 ?_ | refine E7 ?_ | refine E8 ?_ | refine E9 ?_ | refine Ea ?_ | refine Eb ?_ | refine Ec ?_ | refine Ed ?_)
    refine W_region fun K hK => ?_
    simp only [KA, KB, KP, KQ, reduceCtorEq, ↓reduceIte, Int.reduceLT, Int.reduceLE, Int.reduceAdd, Int.reduceSub, Int.reduceNeg, Int.reduceMul, Int.reduceToNat, Int.reduceEq, Int.reduceNe, Int.reduceGT, Int.reduceGE, Nat.reducePow, Nat.reduceAdd, Nat.reduceSub, Nat.reduceLT, Nat.reduceMul, Nat.reduceDiv, Nat.reduceEqDiff, Nat.reduceLeDiff, KT w, KI, hw.KF, htm, t0, t3, hflt, g0, hok, hbs, hn0, splice]
    refine hK _ _ ?_
    clear hK
    clear K
    repeat with_reducible (first | refine E0 ?_ | refine E1 ?_ | refine E2 ?_ | refine E3 ?_ | refine E4 ?_ | refine E5 (by decide) ?_ | refine E6 ?_ | refine E7 ?_ | refine E8 ?_ | refine E9 ?_ | refine Ea ?_ | refine Eb ?_ | refine Ec ?_ | refine Ed ?_)
    refine AtEnd_of rfl ?_
    simp only [KA, KP, KQ, reduceCtorEq, ↓reduceIte, Int.reduceLT, Int.reduceLE, Int.reduceAdd, Int.reduceSub, Int.reduceNeg, Int.reduceMul, Int.reduceToNat, Int.reduceEq, Int.reduceNe, Int.reduceGT, Int.reduceGE, Nat.reducePow, Nat.reduceAdd, Nat.reduceSub, Nat.reduceLT, Nat.reduceMul, Nat.reduceDiv, Nat.reduceEqDiff, Nat.reduceLeDiff, KT w, KI, hw.KF, htm, t3, gS, RS_some, aresults_nil, aresults_tmp, aresults_cell, one]
    exact FZ_tup rfl
  | some aw =>
    obtain ⟨a, wd⟩ := aw
    have hlt := (List.getElem?_eq_some_iff.1 hT).1
    have hge : ¬ ((T.length : Nat) : Int) ≤ (K : Int) := by omega
    have hK0 : (0 : Int) ≤ (K : Int) := by omega
    have hrow : (wrows T)[K]? = some [.str wd, .int .i64 (a : Nat)] := by rw [wrows_get, hT]; rfl
    have hkd := kind23 hw wd
    rw [hT] at hR
    simp only at hR
    refine W_region fun K hK => ?_
    simp only [KA, KB, KP, KQ, reduceCtorEq, ↓reduceIte, Int.reduceLT, Int.reduceLE, Int.reduceAdd, Int.reduceSub, Int.reduceNeg, Int.reduceMul, Int.reduceToNat, Int.reduceEq, Int.reduceNe, Int.reduceGT, Int.reduceGE, Nat.reducePow, Nat.reduceAdd, Nat.reduceSub, Nat.reduceLT, Nat.reduceMul, Nat.reduceDiv, Nat.reduceEqDiff, Nat.reduceLeDiff, KT w, KI, hw.KF, htm, t4, t7, hlw, hge]
    refine hK _ _ ?_
    clear hK
    clear K
    repeat with_reducible (first | refine E0 ?_ | refine E1 ?_ | refine E2 ?_ | refine E3 ?_ | refine E4 ?_ | refine E5 (by decide) ?_ | refine E6 ?_ | refine E7 ?_ | refine E8 ?_ | refine E9 ?_ | refine Ea ?_ | refine Eb ?_ | refine Ec ?_ | refine Ed ?_)
    refine W_condF (by simp only [KA, KP, KQ, reduceCtorEq, ↓reduceIte, Int.reduceLT, Int.reduceLE, Int.reduceAdd, Int.reduceSub, Int.reduceNeg, Int.reduceMul, Int.reduceToNat, Int.reduceEq, Int.reduceNe, Int.reduceGT, Int.reduceGE, Nat.reducePow, Nat.reduceAdd, Nat.reduceSub, Nat.reduceLT, Nat.reduceMul, Nat.reduceDiv, Nat.reduceEqDiff, Nat.reduceLeDiff, KT w, KI, hw.KF, htm]) ?_
    repeat with_reducible (first | refine E0 ?_ | refine E1 ?_ | refine E2 ?_ | refine E3 ?_ | refine E4 ?_ | refine E5 (by decide) ?_ | refine E6 ?_ | refine E7 ?_ | refine E8 ?_ | refine E9 ?_ | refine Ea ?_ | refine Eb ?_ | refine Ec ?_ | refine Ed ?_)
    cases hf : findOp wd with
    | none =>
      rw [hf] at hR
      simp only at hR
      subst hR
      rw [kindR_none hf] at hkd
      refine W_region fun K hK => ?_
      simp only [KA, KB, KP, KQ, reduceCtorEq, ↓reduceIte, Int.reduceLT, Int.reduceLE, Int.reduceAdd, Int.reduceSub, Int.reduceNeg, Int.reduceMul, Int.reduceToNat, Int.reduceEq, Int.reduceNe, Int.reduceGT, Int.reduceGE, Nat.reducePow, Nat.reduceAdd, Nat.reduceSub, Nat.reduceLT, Nat.reduceMul, Nat.reduceDiv, Nat.reduceEqDiff, Nat.reduceLeDiff, KT w, KI, hw.KF, htm, t4, t7, hK0, hrow, hkd]
      refine hK _ _ ?_
      clear hK
      clear K
      repeat with_reducible (first | refine E0 ?_ | refine E1 ?_ | refine E2 ?_ | refine E3 ?_ | refine E4 ?_ | refine E5 (by decide) ?_ | refine E6 ?_ | refine E7 ?_ | refine E8 ?_ | refine E9 ?_ | refine Ea ?_ | refine Eb ?_ | refine Ec ?_ | refine Ed ?_)
      refine W_region fun K hK => ?_
      simp only [KA, KB, KP, KQ, reduceCtorEq, ↓reduceIte, Int.reduceLT, Int.reduceLE, Int.reduceAdd, Int.reduceSub, Int.reduceNeg, Int.reduceMul, Int.reduceToNat, Int.reduceEq, Int.reduceNe, Int.reduceGT, Int.reduceGE, Nat.reducePow, Nat.reduceAdd, Nat.reduceSub, Nat.reduceLT, Nat.reduceMul, Nat.reduceDiv, Nat.reduceEqDiff, Nat.reduceLeDiff, KT w, KI, hw.KF, htm]
      refine hK _ _ ?_
      clear hK
      clear K
      repeat with_reducible (first | refine E0 ?_ | refine E1 ?_ | refine E2 ?_ | refine E3 ?_ | refine E4 ?_ | refine E5 (by decide) ?_ | refine E6 ?_ | refine E7 ?_ | refine E8 ?_ | refine E9 ?_ | refine Ea ?_ | refine Eb ?_ | refine Ec ?_ | refine Ed ?_)
      refine W_condT (by simp only [KA, KP, KQ, reduceCtorEq, ↓reduceIte, Int.reduceLT, Int.reduceLE, Int.reduceAdd, Int.reduceSub, Int.reduceNeg, Int.reduceMul, Int.reduceToNat, Int.reduceEq, Int.reduceNe, Int.reduceGT, Int.reduceGE, Nat.reducePow, Nat.reduceAdd, Nat.reduceSub, Nat.reduceLT, Nat.reduceMul, Nat.reduceDiv, Nat.reduceEqDiff, Nat.reduceLeDiff, KT w, KI, hw.KF, htm]) ?_
      repeat with_reducible (first | refine E0 ?_ | refine E1 ?_ | refine E2 ?_ | refine E3 ?_ | refine E4 ?_ | refine E5 (by decide) ?_ | refine E6 ?_ | refine E7 ?_ | refine E8 ?_ | refine E9 ?_ | refine Ea ?_ | refine Eb ?_ | refine Ec ?_ | refine Ed ?_)
      refine W_region fun K hK => ?_
      simp only [KA, KB, KP, KQ, reduceCtorEq, ↓reduceIte, Int.reduceLT, Int.reduceLE, Int.reduceAdd, Int.reduceSub, Int.reduceNeg, Int.reduceMul, Int.reduceToNat, Int.reduceEq, Int.reduceNe, Int.reduceGT, Int.reduceGE, Nat.reducePow, Nat.reduceAdd, Nat.reduceSub, Nat.reduceLT, Nat.reduceMul, Nat.reduceDiv, Nat.reduceEqDiff, Nat.reduceLeDiff, KT w, KI, hw.KF, htm, t3, t4, t7, hK0, hrow, hflt, g0, hok, hbs, hn0, splice]
      refine hK _ _ ?_
      clear hK
      clear K
      repeat with_reducible (first | refine E0 ?_ | refine E1 ?_ | refine E2 ?_ | refine E3 ?_ | refine E4 ?_ | refine E5 (by decide) ?_ | refine E6 ?_ | refine E7 ?_ | refine E8 ?_ | refine E9 ?_ | refine Ea ?_ | refine Eb ?_ | refine Ec ?_ | refine Ed ?_)
      refine AtEnd_of rfl ?_
      simp only [KA, KP, KQ, reduceCtorEq, ↓reduceIte, Int.reduceLT, Int.reduceLE, Int.reduceAdd, Int.reduceSub, Int.reduceNeg, Int.reduceMul, Int.reduceToNat, Int.reduceEq, Int.reduceNe, Int.reduceGT, Int.reduceGE, Nat.reducePow, Nat.reduceAdd, Nat.reduceSub, Nat.reduceLT, Nat.reduceMul, Nat.reduceDiv, Nat.reduceEqDiff, Nat.reduceLeDiff, KT w, KI, hw.KF, htm, t3, gS, RS_some, aresults_nil, aresults_tmp, aresults_cell, one]
      exact FZ_tup rfl
    | some x =>
      rw [hf] at hR
      simp only at hR
      rw [kindR_some hf] at hkd
      have hx1 : ¬ (x.1 = 0) := by rcases findOp_mem hf with rfl | rfl | rfl | rfl | rfl | rfl | rfl <;> simp
      have hx3 : x.2.length ≤ 3 := by rcases findOp_mem hf with rfl | rfl | rfl | rfl | rfl | rfl | rfl <;> simp
      have hlp := hP.hp.alen (w := w) (t := 22) (e := 39) (Tk22 w)
      rw [inRows_len] at hlp
      refine W_region fun K hK => ?_
      simp only [KA, KB, KP, KQ, reduceCtorEq, ↓reduceIte, Int.reduceLT, Int.reduceLE, Int.reduceAdd, Int.reduceSub, Int.reduceNeg, Int.reduceMul, Int.reduceToNat, Int.reduceEq, Int.reduceNe, Int.reduceGT, Int.reduceGE, Nat.reducePow, Nat.reduceAdd, Nat.reduceSub, Nat.reduceLT, Nat.reduceMul, Nat.reduceDiv, Nat.reduceEqDiff, Nat.reduceLeDiff, KT w, KI, hw.KF, htm, t4, t7, hK0, hrow, hkd]
      refine hK _ _ ?_
      clear hK
      clear K
      repeat with_reducible (first | refine E0 ?_ | refine E1 ?_ | refine E2 ?_ | refine E3 ?_ | refine E4 ?_ | refine E5 (by decide) ?_ | refine E6 ?_ | refine E7 ?_ | refine E8 ?_ | refine E9 ?_ | refine Ea ?_ | refine Eb ?_ | refine Ec ?_ | refine Ed ?_)
      refine W_region fun K hK => ?_
      simp only [KA, KB, KP, KQ, reduceCtorEq, ↓reduceIte, Int.reduceLT, Int.reduceLE, Int.reduceAdd, Int.reduceSub, Int.reduceNeg, Int.reduceMul, Int.reduceToNat, Int.reduceEq, Int.reduceNe, Int.reduceGT, Int.reduceGE, Nat.reducePow, Nat.reduceAdd, Nat.reduceSub, Nat.reduceLT, Nat.reduceMul, Nat.reduceDiv, Nat.reduceEqDiff, Nat.reduceLeDiff, KT w, KI, hw.KF, htm, hx1]
      refine hK _ _ ?_
      clear hK
      clear K
      repeat with_reducible (first | refine E0 ?_ | refine E1 ?_ | refine E2 ?_ | refine E3 ?_ | refine E4 ?_ | refine E5 (by decide) ?_ | refine E6 ?_ | refine E7 ?_ | refine E8 ?_ | refine E9 ?_ | refine Ea ?_ | refine Eb ?_ | refine Ec ?_ | refine Ed ?_)
      refine W_condF (by simp only [KA, KP, KQ, reduceCtorEq, ↓reduceIte, Int.reduceLT, Int.reduceLE, Int.reduceAdd, Int.reduceSub, Int.reduceNeg, Int.reduceMul, Int.reduceToNat, Int.reduceEq, Int.reduceNe, Int.reduceGT, Int.reduceGE, Nat.reducePow, Nat.reduceAdd, Nat.reduceSub, Nat.reduceLT, Nat.reduceMul, Nat.reduceDiv, Nat.reduceEqDiff, Nat.reduceLeDiff, KT w, KI, hw.KF, htm, hx1]) ?_
      repeat with_reducible (first | refine E0 ?_ | refine E1 ?_ | refine E2 ?_ | refine E3 ?_ | refine E4 ?_ | refine E5 (by decide) ?_ | refine E6 ?_ | refine E7 ?_ | refine E8 ?_ | refine E9 ?_ | refine Ea ?_ | refine Eb ?_ | refine Ec ?_ | refine Ed ?_)
      by_cases h64 : p.length = 64
      · have h64' : ((p.length : Nat) : Int) = 64 := by omega
        rw [if_pos h64] at hR
        subst hR
        refine W_region fun K hK => ?_
        simp only [KA, KB, KP, KQ, reduceCtorEq, ↓reduceIte, Int.reduceLT, Int.reduceLE, Int.reduceAdd, Int.reduceSub, Int.reduceNeg, Int.reduceMul, Int.reduceToNat, Int.reduceEq, Int.reduceNe, Int.reduceGT, Int.reduceGE, Nat.reducePow, Nat.reduceAdd, Nat.reduceSub, Nat.reduceLT, Nat.reduceMul, Nat.reduceDiv, Nat.reduceEqDiff, Nat.reduceLeDiff, KT w, KI, hw.KF, htm, t5, hlp, h64']
        refine hK _ _ ?_
        clear hK
        clear K
        repeat with_reducible (first | refine E0 ?_ | refine E1 ?_ | refine E2 ?_ | refine E3 ?_ | refine E4 ?_ | refine E5 (by decide) ?_ | refine E6 ?_ | refine E7 ?_ | refine E8 ?_ | refine E9 ?_ | refine Ea ?_ | refine Eb ?_ | refine Ec ?_ | refine Ed ?_)
        refine W_condT (by simp only [KA, KP, KQ, reduceCtorEq, ↓reduceIte, Int.reduceLT, Int.reduceLE, Int.reduceAdd, Int.reduceSub, Int.reduceNeg, Int.reduceMul, Int.reduceToNat, Int.reduceEq, Int.reduceNe, Int.reduceGT, Int.reduceGE, Nat.reducePow, Nat.reduceAdd, Nat.reduceSub, Nat.reduceLT, Nat.reduceMul, Nat.reduceDiv, Nat.reduceEqDiff, Nat.reduceLeDiff, KT w, KI, hw.KF, htm]) ?_
        repeat with_reducible (first | refine E0 ?_ | refine E1 ?_ | refine E2 ?_ | refine E3 ?_ | refine E4 ?_ | refine E5 (by decide) ?_ | refine E6 ?_ | refine E7 ?_ | refine E8 ?_ | refine E9 ?_ | refine Ea ?_ | refine Eb ?_ | refine Ec ?_ | refine Ed ?_)
        refine W_region fun K hK => ?_
        simp only [KA, KB, KP, KQ, reduceCtorEq, ↓reduceIte, Int.reduceLT, Int.reduceLE, Int.reduceAdd, Int.reduceSub, Int.reduceNeg, Int.reduceMul, Int.reduceToNat, Int.reduceEq, Int.reduceNe, Int.reduceGT, Int.reduceGE, Nat.reducePow, Nat.reduceAdd, Nat.reduceSub, Nat.reduceLT, Nat.reduceMul, Nat.reduceDiv, Nat.reduceEqDiff, Nat.reduceLeDiff, KT w, KI, hw.KF, htm, t3, t4, t7, hK0, hrow, hflt, g0, hok, hbs, hn0, splice]
        refine hK _ _ ?_
        clear hK
        clear K
        repeat with_reducible (first | refine E0 ?_ | refine E1 ?_ | refine E2 ?_ | refine E3 ?_ | refine E4 ?_ | refine E5 (by decide) ?_ | refine E6 ?_ | refine E7 ?_ | refine E8 ?_ | refine E9 ?_ | refine Ea ?_ | refine Eb ?_ | refine Ec ?_ | refine Ed ?_)
        refine AtEnd_of rfl ?_
        simp only [KA, KP, KQ, reduceCtorEq, ↓reduceIte, Int.reduceLT, Int.reduceLE, Int.reduceAdd, Int.reduceSub, Int.reduceNeg, Int.reduceMul, Int.reduceToNat, Int.reduceEq, Int.reduceNe, Int.reduceGT, Int.reduceGE, Nat.reducePow, Nat.reduceAdd, Nat.reduceSub, Nat.reduceLT, Nat.reduceMul, Nat.reduceDiv, Nat.reduceEqDiff, Nat.reduceLeDiff, KT w, KI, hw.KF, htm, t3, gS, RS_some, aresults_nil, aresults_tmp, aresults_cell, one]
        exact FZ_tup rfl
      have h64' : ¬ ((p.length : Nat) : Int) = 64 := by omega
      rw [if_neg h64] at hR
      refine W_region fun K hK => ?_
      simp only [KA, KB, KP, KQ, reduceCtorEq, ↓reduceIte, Int.reduceLT, Int.reduceLE, Int.reduceAdd, Int.reduceSub, Int.reduceNeg, Int.reduceMul, Int.reduceToNat, Int.reduceEq, Int.reduceNe, Int.reduceGT, Int.reduceGE, Nat.reducePow, Nat.reduceAdd, Nat.reduceSub, Nat.reduceLT, Nat.reduceMul, Nat.reduceDiv, Nat.reduceEqDiff, Nat.reduceLeDiff, KT w, KI, hw.KF, htm, t5, hlp, h64']
      refine hK _ _ ?_
      clear hK
      clear K
      repeat with_reducible (first | refine E0 ?_ | refine E1 ?_ | refine E2 ?_ | refine E3 ?_ | refine E4 ?_ | refine E5 (by decide) ?_ | refine E6 ?_ | refine E7 ?_ | refine E8 ?_ | refine E9 ?_ | refine Ea ?_ | refine Eb ?_ | refine Ec ?_ | refine Ed ?_)
      refine W_condF (by simp only [KA, KP, KQ, reduceCtorEq, ↓reduceIte, Int.reduceLT, Int.reduceLE, Int.reduceAdd, Int.reduceSub, Int.reduceNeg, Int.reduceMul, Int.reduceToNat, Int.reduceEq, Int.reduceNe, Int.reduceGT, Int.reduceGE, Nat.reducePow, Nat.reduceAdd, Nat.reduceSub, Nat.reduceLT, Nat.reduceMul, Nat.reduceDiv, Nat.reduceEqDiff, Nat.reduceLeDiff, KT w, KI, hw.KF, htm, h64']) ?_
      repeat with_reducible (first | refine E0 ?_ | refine E1 ?_ | refine E2 ?_ | refine E3 ?_ | refine E4 ?_ | refine E5 (by decide) ?_ | refine E6 ?_ | refine E7 ?_ | refine E8 ?_ | refine E9 ?_ | refine Ea ?_ | refine Eb ?_ | refine Ec ?_ | refine Ed ?_)
      refine W_region fun K hK => ?_
      simp only [KA, KB, KP, KQ, reduceCtorEq, ↓reduceIte, Int.reduceLT, Int.reduceLE, Int.reduceAdd, Int.reduceSub, Int.reduceNeg, Int.reduceMul, Int.reduceToNat, Int.reduceEq, Int.reduceNe, Int.reduceGT, Int.reduceGE, Nat.reducePow, Nat.reduceAdd, Nat.reduceSub, Nat.reduceLT, Nat.reduceMul, Nat.reduceDiv, Nat.reduceEqDiff, Nat.reduceLeDiff, KT w, KI, hw.KF, htm]
      refine hK _ _ ?_
      clear hK
      clear K
      repeat with_reducible (first | refine E0 ?_ | refine E1 ?_ | refine E2 ?_ | refine E3 ?_ | refine E4 ?_ | refine E5 (by decide) ?_ | refine E6 ?_ | refine E7 ?_ | refine E8 ?_ | refine E9 ?_ | refine Ea ?_ | refine Eb ?_ | refine Ec ?_ | refine Ed ?_)
      refine W_region fun K hK => ?_
      simp only [KA, KB, KP, KQ, reduceCtorEq, ↓reduceIte, Int.reduceLT, Int.reduceLE, Int.reduceAdd, Int.reduceSub, Int.reduceNeg, Int.reduceMul, Int.reduceToNat, Int.reduceEq, Int.reduceNe, Int.reduceGT, Int.reduceGE, Nat.reducePow, Nat.reduceAdd, Nat.reduceSub, Nat.reduceLT, Nat.reduceMul, Nat.reduceDiv, Nat.reduceEqDiff, Nat.reduceLeDiff, KT w, KI, hw.KF, htm]
      refine hK _ _ ?_
      clear hK
      clear K
      repeat with_reducible (first | refine E0 ?_ | refine E1 ?_ | refine E2 ?_ | refine E3 ?_ | refine E4 ?_ | refine E5 (by decide) ?_ | refine E6 ?_ | refine E7 ?_ | refine E8 ?_ | refine E9 ?_ | refine Ea ?_ | refine Eb ?_ | refine Ec ?_ | refine Ed ?_)
      generalize hN : numsR (s.length : Int) x.1 T K x.2.length 1 [] = N at hR
      refine W_loop (fun k fr S => ∃ (tm : List AV) (i j : Nat) (l : List Int) (nv : AV), fr = ⟨tm, [], none, 9⟩ ∧ N9 p e l pv ev nv S ∧ k = j ∧ i + j = x.2.length + 1 ∧ l.length + 1 = i ∧
          numsR (s.length : Int) x.1 T K j i l = N ∧
          tm.length = 162 ∧ tget tm 0 = .str s ∧ tget tm 3 = .ptr 0 0 ∧ tget tm 4 = .vec (wrows T) ∧ tget tm 5 = pv ∧ tget tm 6 = ev ∧ tget tm 7 = .int .i64 (K : Nat) ∧ tget tm 8 = .int .i64 x.1 ∧ tget tm 9 = .int .i64 (x.2.length : Nat) ∧ tget tm 10 = nv ∧ tget tm 11 = .int .i64 (i : Nat)) x.2.length
        ⟨_, 1, x.2.length, [], .nils, rfl, ⟨hP, .inl ⟨rfl, rfl⟩, (fun r o g _ => Aw.nils _), (fun r o g _ => Aw.nils _)⟩, rfl, by omega, rfl, hN, ?_⟩ ?_
      · simp only [KA, KP, KQ, reduceCtorEq, ↓reduceIte, Int.reduceLT, Int.reduceLE, Int.reduceAdd, Int.reduceSub, Int.reduceNeg, Int.reduceMul, Int.reduceToNat, Int.reduceEq, Int.reduceNe, Int.reduceGT, Int.reduceGE, Nat.reducePow, Nat.reduceAdd, Nat.reduceSub, Nat.reduceLT, Nat.reduceMul, Nat.reduceDiv, Nat.reduceEqDiff, Nat.reduceLeDiff, KT w, KI, hw.KF, htm, t0, t3, t4, t5, t6, t7, Int.ofNat_one]
        try simp
      rintro k fr S ⟨tm, i, j, l, nv, rfl, hN9, rfl, hij, hli, hN2, htm, t0, t3, t4, t5, t6, t7, t8, t9, t10, t11⟩
      clear hP hok hbs hn0 g0 gS hlp
      have hok := hN9.ok
      have hbs := hN9.base
      have hn0 := hN9.n
      have g0 := hN9.g0
      have gS : ∀ X, (S.set 0 X).get 0 = some X := fun X => St.get_sete hok hn0
      repeat with_reducible (first | refine E0 ?_ | refine E1 ?_ | refine E2 ?_ | refine E3 ?_ | refine E4 ?_ | refine E5 (by decide) ?_ | refine E6 ?_ | refine E7 ?_ | refine E8 ?_ | refine E9 ?_ | refine Ea ?_ | refine Eb ?_ | refine Ec ?_ | refine Ed ?_)
      cases k with
      | succ j =>
        have hle : (i : Int) ≤ (x.2.length : Int) := by omega
        have eKi : IntKind.i64.wrap ((K : Int) + (i : Int)) = ((K + i : Nat) : Int) := by rw [i64_in _ (by omega)]; omega
        rw [numsR] at hN2
        refine W_region fun K hK => ?_
        simp only [KA, KB, KP, KQ, reduceCtorEq, ↓reduceIte, Int.reduceLT, Int.reduceLE, Int.reduceAdd, Int.reduceSub, Int.reduceNeg, Int.reduceMul, Int.reduceToNat, Int.reduceEq, Int.reduceNe, Int.reduceGT, Int.reduceGE, Nat.reducePow, Nat.reduceAdd, Nat.reduceSub, Nat.reduceLT, Nat.reduceMul, Nat.reduceDiv, Nat.reduceEqDiff, Nat.reduceLeDiff, KT w, KI, hw.KF, htm, t9, t11, hle]
        refine hK _ _ ?_
        clear hK
        clear K
        repeat with_reducible (first | refine E0 ?_ | refine E1 ?_ | refine E2 ?_ | refine E3 ?_ | refine E4 ?_ | refine E5 (by decide) ?_ | refine E6 ?_ | refine E7 ?_ | refine E8 ?_ | refine E9 ?_ | refine Ea ?_ | refine Eb ?_ | refine Ec ?_ | refine Ed ?_)
        refine W_condT (by simp only [KA, KP, KQ, reduceCtorEq, ↓reduceIte, Int.reduceLT, Int.reduceLE, Int.reduceAdd, Int.reduceSub, Int.reduceNeg, Int.reduceMul, Int.reduceToNat, Int.reduceEq, Int.reduceNe, Int.reduceGT, Int.reduceGE, Nat.reducePow, Nat.reduceAdd, Nat.reduceSub, Nat.reduceLT, Nat.reduceMul, Nat.reduceDiv, Nat.reduceEqDiff, Nat.reduceLeDiff, KT w, KI, hw.KF, htm]) ?_
        repeat with_reducible (first | refine E0 ?_ | refine E1 ?_ | refine E2 ?_ | refine E3 ?_ | refine E4 ?_ | refine E5 (by decide) ?_ | refine E6 ?_ | refine E7 ?_ | refine E8 ?_ | refine E9 ?_ | refine Ea ?_ | refine Eb ?_ | refine Ec ?_ | refine Ed ?_)
        cases hTi : T[K + i]? with
        | none =>
          rw [hTi] at hN2
          simp only at hN2
          subst hN2
          simp only at hR
          subst hR
          have hge : ((T.length : Nat) : Int) ≤ ((K + i : Nat) : Int) := by have := List.getElem?_eq_none_iff.1 hTi; omega
          refine W_region fun K hK => ?_
          simp only [KA, KB, KP, KQ, reduceCtorEq, ↓reduceIte, Int.reduceLT, Int.reduceLE, Int.reduceAdd, Int.reduceSub, Int.reduceNeg, Int.reduceMul, Int.reduceToNat, Int.reduceEq, Int.reduceNe, Int.reduceGT, Int.reduceGE, Nat.reducePow, Nat.reduceAdd, Nat.reduceSub, Nat.reduceLT, Nat.reduceMul, Nat.reduceDiv, Nat.reduceEqDiff, Nat.reduceLeDiff, KT w, KI, hw.KF, htm, t4, t7, t11, eKi, hlw, hge]
          refine hK _ _ ?_
          clear hK
          clear K
          repeat with_reducible (first | refine E0 ?_ | refine E1 ?_ | refine E2 ?_ | refine E3 ?_ | refine E4 ?_ | refine E5 (by decide) ?_ | refine E6 ?_ | refine E7 ?_ | refine E8 ?_ | refine E9 ?_ | refine Ea ?_ | refine Eb ?_ | refine Ec ?_ | refine Ed ?_)
          refine W_condT (by simp only [KA, KP, KQ, reduceCtorEq, ↓reduceIte, Int.reduceLT, Int.reduceLE, Int.reduceAdd, Int.reduceSub, Int.reduceNeg, Int.reduceMul, Int.reduceToNat, Int.reduceEq, Int.reduceNe, Int.reduceGT, Int.reduceGE, Nat.reducePow, Nat.reduceAdd, Nat.reduceSub, Nat.reduceLT, Nat.reduceMul, Nat.reduceDiv, Nat.reduceEqDiff, Nat.reduceLeDiff, KT w, KI, hw.KF, htm]) ?_
          repeat with_reducible (first | refine E0 ?_ | refine E1 ?_ | refine E2 ?_ | refine E3 ?_ | refine E4 ?_ | refine E5 (by decide) ?_ | refine E6 ?_ | refine E7 ?_ | refine E8 ?_ | refine E9 ?_ | refine Ea ?_ | refine Eb ?_ | refine Ec ?_ | refine Ed ?_)
          refine W_region fun K hK => ?_
          simp only [KA, KB, KP, KQ, reduceCtorEq, ↓reduceIte, Int.reduceLT, Int.reduceLE, Int.reduceAdd, Int.reduceSub, Int.reduceNeg, Int.reduceMul, Int.reduceToNat, Int.reduceEq, Int.reduceNe, Int.reduceGT, Int.reduceGE, Nat.reducePow, Nat.reduceAdd, Nat.reduceSub, Nat.reduceLT, Nat.reduceMul, Nat.reduceDiv, Nat.reduceEqDiff, Nat.reduceLeDiff, KT w, KI, hw.KF, htm, t0, t3, hflt, g0, hok, hbs, hn0, splice]
          refine hK _ _ ?_
          clear hK
          clear K
          repeat with_reducible (first | refine E0 ?_ | refine E1 ?_ | refine E2 ?_ | refine E3 ?_ | refine E4 ?_ | refine E5 (by decide) ?_ | refine E6 ?_ | refine E7 ?_ | refine E8 ?_ | refine E9 ?_ | refine Ea ?_ | refine Eb ?_ | refine Ec ?_ | refine Ed ?_)
          refine AtEnd_of rfl ?_
          simp only [KA, KP, KQ, reduceCtorEq, ↓reduceIte, Int.reduceLT, Int.reduceLE, Int.reduceAdd, Int.reduceSub, Int.reduceNeg, Int.reduceMul, Int.reduceToNat, Int.reduceEq, Int.reduceNe, Int.reduceGT, Int.reduceGE, Nat.reducePow, Nat.reduceAdd, Nat.reduceSub, Nat.reduceLT, Nat.reduceMul, Nat.reduceDiv, Nat.reduceEqDiff, Nat.reduceLeDiff, KT w, KI, hw.KF, htm, t3, gS, RS_some, aresults_nil, aresults_tmp, aresults_cell, one]
          exact FZ_tup rfl
        | some q =>
          obtain ⟨b, wd2⟩ := q
          rw [hTi] at hN2
          simp only at hN2
          have hlt2 := (List.getElem?_eq_some_iff.1 hTi).1
          have hge : ¬ ((T.length : Nat) : Int) ≤ ((K + i : Nat) : Int) := by omega
          have hKi0 : (0 : Int) ≤ ((K + i : Nat) : Int) := by omega
          have hrow2 : (wrows T)[K + i]? = some [.str wd2, .int .i64 (b : Nat)] := by rw [wrows_get, hTi]; rfl
          have hwl := hTw _ (List.mem_of_getElem? hTi)
          simp only [List.length_nil] at hwl
          have hnum := num24 hw wd2 (by omega)
          obtain ⟨v, hv⟩ : ∃ v, (numL wd2).1 = v := ⟨_, rfl⟩
          obtain ⟨okb, hokb⟩ : ∃ okb, (numL wd2).2 = okb := ⟨_, rfl⟩
          rw [hv, hokb] at hnum hN2
          refine W_region fun K hK => ?_
          simp only [KA, KB, KP, KQ, reduceCtorEq, ↓reduceIte, Int.reduceLT, Int.reduceLE, Int.reduceAdd, Int.reduceSub, Int.reduceNeg, Int.reduceMul, Int.reduceToNat, Int.reduceEq, Int.reduceNe, Int.reduceGT, Int.reduceGE, Nat.reducePow, Nat.reduceAdd, Nat.reduceSub, Nat.reduceLT, Nat.reduceMul, Nat.reduceDiv, Nat.reduceEqDiff, Nat.reduceLeDiff, KT w, KI, hw.KF, htm, t4, t7, t11, eKi, hlw, hge]
          refine hK _ _ ?_
          clear hK
          clear K
          repeat with_reducible (first | refine E0 ?_ | refine E1 ?_ | refine E2 ?_ | refine E3 ?_ | refine E4 ?_ | refine E5 (by decide) ?_ | refine E6 ?_ | refine E7 ?_ | refine E8 ?_ | refine E9 ?_ | refine Ea ?_ | refine Eb ?_ | refine Ec ?_ | refine Ed ?_)
          refine W_condF (by simp only [KA, KP, KQ, reduceCtorEq, ↓reduceIte, Int.reduceLT, Int.reduceLE, Int.reduceAdd, Int.reduceSub, Int.reduceNeg, Int.reduceMul, Int.reduceToNat, Int.reduceEq, Int.reduceNe, Int.reduceGT, Int.reduceGE, Nat.reducePow, Nat.reduceAdd, Nat.reduceSub, Nat.reduceLT, Nat.reduceMul, Nat.reduceDiv, Nat.reduceEqDiff, Nat.reduceLeDiff, KT w, KI, hw.KF, htm]) ?_
          repeat with_reducible (first | refine E0 ?_ | refine E1 ?_ | refine E2 ?_ | refine E3 ?_ | refine E4 ?_ | refine E5 (by decide) ?_ | refine E6 ?_ | refine E7 ?_ | refine E8 ?_ | refine E9 ?_ | refine Ea ?_ | refine Eb ?_ | refine Ec ?_ | refine Ed ?_)
          refine W_region fun K hK => ?_
          simp only [KA, KB, KP, KQ, reduceCtorEq, ↓reduceIte, Int.reduceLT, Int.reduceLE, Int.reduceAdd, Int.reduceSub, Int.reduceNeg, Int.reduceMul, Int.reduceToNat, Int.reduceEq, Int.reduceNe, Int.reduceGT, Int.reduceGE, Nat.reducePow, Nat.reduceAdd, Nat.reduceSub, Nat.reduceLT, Nat.reduceMul, Nat.reduceDiv, Nat.reduceEqDiff, Nat.reduceLeDiff, KT w, KI, hw.KF, htm, t4, t7, t11, eKi, hKi0, hrow2, hnum]
          refine hK _ _ ?_
          clear hK
          clear K
          repeat with_reducible (first | refine E0 ?_ | refine E1 ?_ | refine E2 ?_ | refine E3 ?_ | refine E4 ?_ | refine E5 (by decide) ?_ | refine E6 ?_ | refine E7 ?_ | refine E8 ?_ | refine E9 ?_ | refine Ea ?_ | refine Eb ?_ | refine Ec ?_ | refine Ed ?_)
          refine W.mono (Q := fun ex fr S' => ex = .nrm ∧ S' = S ∧ ∃ tm, fr = ⟨tm, [], none, 9⟩ ∧ tm.length = 162 ∧ tget tm 0 = .str s ∧ tget tm 3 = .ptr 0 0 ∧ tget tm 4 = .vec (wrows T) ∧ tget tm 5 = pv ∧ tget tm 6 = ev ∧ tget tm 7 = .int .i64 (K : Nat) ∧ tget tm 8 = .int .i64 x.1 ∧ tget tm 9 = .int .i64 (x.2.length : Nat) ∧ tget tm 10 = nv ∧ tget tm 11 = .int .i64 (i : Nat) ∧ tget tm 12 = .int .i64 v ∧ tget tm 91 = .bool (decide (okb = false ∨ x.1 = 1 ∧ i = 2 ∧ v < l.getD 0 0))) ?_ ?_
          · cases okb
            · refine W_region fun K hK => ?_
              simp only [KA, KB, KP, KQ, reduceCtorEq, ↓reduceIte, Int.reduceLT, Int.reduceLE, Int.reduceAdd, Int.reduceSub, Int.reduceNeg, Int.reduceMul, Int.reduceToNat, Int.reduceEq, Int.reduceNe, Int.reduceGT, Int.reduceGE, Nat.reducePow, Nat.reduceAdd, Nat.reduceSub, Nat.reduceLT, Nat.reduceMul, Nat.reduceDiv, Nat.reduceEqDiff, Nat.reduceLeDiff, KT w, KI, hw.KF, htm]
              refine hK _ _ ?_
              clear hK
              clear K
              refine ⟨rfl, rfl, _, rfl, ?_⟩
              simp only [KA, KP, KQ, reduceCtorEq, ↓reduceIte, Int.reduceLT, Int.reduceLE, Int.reduceAdd, Int.reduceSub, Int.reduceNeg, Int.reduceMul, Int.reduceToNat, Int.reduceEq, Int.reduceNe, Int.reduceGT, Int.reduceGE, Nat.reducePow, Nat.reduceAdd, Nat.reduceSub, Nat.reduceLT, Nat.reduceMul, Nat.reduceDiv, Nat.reduceEqDiff, Nat.reduceLeDiff, KT w, KI, hw.KF, htm, t0, t3, t4, t5, t6, t7, t8, t9, t10, t11]
              try simp
            · by_cases ho : x.1 = 1
              · by_cases hi2 : i = 2
                · have hi2' : (i : Int) = 2 := by omega
                  obtain ⟨y, rfl⟩ : ∃ y, l = [y] := by
                    match l, (show l.length = 1 by omega) with
                    | [y], _ => exact ⟨y, rfl⟩
                  rcases hN9.hl with ⟨hr0, -⟩ | ⟨-, o, g, rfl, ho2, hg⟩
                  · cases hr0
                  have hy : (ints [y])[0]? = some [.int .i64 y] := rfl
                  generalize ints [y] = L at *
                  by_cases hvy : v < y
                  · refine W_region fun K hK => ?_
                    simp only [KA, KB, KP, KQ, reduceCtorEq, ↓reduceIte, Int.reduceLT, Int.reduceLE, Int.reduceAdd, Int.reduceSub, Int.reduceNeg, Int.reduceMul, Int.reduceToNat, Int.reduceEq, Int.reduceNe, Int.reduceGT, Int.reduceGE, Nat.reducePow, Nat.reduceAdd, Nat.reduceSub, Nat.reduceLT, Nat.reduceMul, Nat.reduceDiv, Nat.reduceEqDiff, Nat.reduceLeDiff, KT w, KI, hw.KF, htm, t8, t10, t11, ho, hi2', hy, hvy]
                    refine hK _ _ ?_
                    clear hK
                    clear K
                    refine ⟨rfl, rfl, _, rfl, ?_⟩
                    simp only [KA, KP, KQ, reduceCtorEq, ↓reduceIte, Int.reduceLT, Int.reduceLE, Int.reduceAdd, Int.reduceSub, Int.reduceNeg, Int.reduceMul, Int.reduceToNat, Int.reduceEq, Int.reduceNe, Int.reduceGT, Int.reduceGE, Nat.reducePow, Nat.reduceAdd, Nat.reduceSub, Nat.reduceLT, Nat.reduceMul, Nat.reduceDiv, Nat.reduceEqDiff, Nat.reduceLeDiff, KT w, KI, hw.KF, htm, t0, t3, t4, t5, t6, t7, t8, t9, t10, t11]
                    simp [ho, hi2, hvy]
                  · refine W_region fun K hK => ?_
                    simp only [KA, KB, KP, KQ, reduceCtorEq, ↓reduceIte, Int.reduceLT, Int.reduceLE, Int.reduceAdd, Int.reduceSub, Int.reduceNeg, Int.reduceMul, Int.reduceToNat, Int.reduceEq, Int.reduceNe, Int.reduceGT, Int.reduceGE, Nat.reducePow, Nat.reduceAdd, Nat.reduceSub, Nat.reduceLT, Nat.reduceMul, Nat.reduceDiv, Nat.reduceEqDiff, Nat.reduceLeDiff, KT w, KI, hw.KF, htm, t8, t10, t11, ho, hi2', hy, hvy]
                    refine hK _ _ ?_
                    clear hK
                    clear K
                    refine ⟨rfl, rfl, _, rfl, ?_⟩
                    simp only [KA, KP, KQ, reduceCtorEq, ↓reduceIte, Int.reduceLT, Int.reduceLE, Int.reduceAdd, Int.reduceSub, Int.reduceNeg, Int.reduceMul, Int.reduceToNat, Int.reduceEq, Int.reduceNe, Int.reduceGT, Int.reduceGE, Nat.reducePow, Nat.reduceAdd, Nat.reduceSub, Nat.reduceLT, Nat.reduceMul, Nat.reduceDiv, Nat.reduceEqDiff, Nat.reduceLeDiff, KT w, KI, hw.KF, htm, t0, t3, t4, t5, t6, t7, t8, t9, t10, t11]
                    simp [ho, hi2, hvy]
                · have hi2' : ¬ (i : Int) = 2 := by omega
                  refine W_region fun K hK => ?_
                  simp only [KA, KB, KP, KQ, reduceCtorEq, ↓reduceIte, Int.reduceLT, Int.reduceLE, Int.reduceAdd, Int.reduceSub, Int.reduceNeg, Int.reduceMul, Int.reduceToNat, Int.reduceEq, Int.reduceNe, Int.reduceGT, Int.reduceGE, Nat.reducePow, Nat.reduceAdd, Nat.reduceSub, Nat.reduceLT, Nat.reduceMul, Nat.reduceDiv, Nat.reduceEqDiff, Nat.reduceLeDiff, KT w, KI, hw.KF, htm, t8, t11, ho, hi2']
                  refine hK _ _ ?_
                  clear hK
                  clear K
                  refine ⟨rfl, rfl, _, rfl, ?_⟩
                  simp only [KA, KP, KQ, reduceCtorEq, ↓reduceIte, Int.reduceLT, Int.reduceLE, Int.reduceAdd, Int.reduceSub, Int.reduceNeg, Int.reduceMul, Int.reduceToNat, Int.reduceEq, Int.reduceNe, Int.reduceGT, Int.reduceGE, Nat.reducePow, Nat.reduceAdd, Nat.reduceSub, Nat.reduceLT, Nat.reduceMul, Nat.reduceDiv, Nat.reduceEqDiff, Nat.reduceLeDiff, KT w, KI, hw.KF, htm, t0, t3, t4, t5, t6, t7, t8, t9, t10, t11]
                  simp [ho, hi2]
              · refine W_region fun K hK => ?_
                simp only [KA, KB, KP, KQ, reduceCtorEq, ↓reduceIte, Int.reduceLT, Int.reduceLE, Int.reduceAdd, Int.reduceSub, Int.reduceNeg, Int.reduceMul, Int.reduceToNat, Int.reduceEq, Int.reduceNe, Int.reduceGT, Int.reduceGE, Nat.reducePow, Nat.reduceAdd, Nat.reduceSub, Nat.reduceLT, Nat.reduceMul, Nat.reduceDiv, Nat.reduceEqDiff, Nat.reduceLeDiff, KT w, KI, hw.KF, htm, t8, ho]
                refine hK _ _ ?_
                clear hK
                clear K
                refine ⟨rfl, rfl, _, rfl, ?_⟩
                simp only [KA, KP, KQ, reduceCtorEq, ↓reduceIte, Int.reduceLT, Int.reduceLE, Int.reduceAdd, Int.reduceSub, Int.reduceNeg, Int.reduceMul, Int.reduceToNat, Int.reduceEq, Int.reduceNe, Int.reduceGT, Int.reduceGE, Nat.reducePow, Nat.reduceAdd, Nat.reduceSub, Nat.reduceLT, Nat.reduceMul, Nat.reduceDiv, Nat.reduceEqDiff, Nat.reduceLeDiff, KT w, KI, hw.KF, htm, t0, t3, t4, t5, t6, t7, t8, t9, t10, t11]
                simp [ho]
          clear htm t0 t3 t4 t5 t6 t7 t8 t9 t10 t11 tm
          rintro ex fr S' ⟨rfl, rfl, tm, rfl, htm, t0, t3, t4, t5, t6, t7, t8, t9, t10, t11, t12, t91⟩
          repeat with_reducible (first | refine E0 ?_ | refine E1 ?_ | refine E2 ?_ | refine E3 ?_ | refine E4 ?_ | refine E5 (by decide) ?_ | refine E6 ?_ | refine E7 ?_ | refine E8 ?_ | refine E9 ?_ | refine Ea ?_ | refine Eb ?_ | refine Ec ?_ | refine Ed ?_)
          by_cases hbad : okb = false ∨ x.1 = 1 ∧ i = 2 ∧ v < l.getD 0 0
          · rw [if_pos hbad] at hN2
            rw [decide_eq_true hbad] at t91
            subst hN2
            simp only at hR
            subst hR
            refine W_condT (by simp only [KA, KP, KQ, reduceCtorEq, ↓reduceIte, Int.reduceLT, Int.reduceLE, Int.reduceAdd, Int.reduceSub, Int.reduceNeg, Int.reduceMul, Int.reduceToNat, Int.reduceEq, Int.reduceNe, Int.reduceGT, Int.reduceGE, Nat.reducePow, Nat.reduceAdd, Nat.reduceSub, Nat.reduceLT, Nat.reduceMul, Nat.reduceDiv, Nat.reduceEqDiff, Nat.reduceLeDiff, KT w, KI, hw.KF, htm, t91]) ?_
            repeat with_reducible (first | refine E0 ?_ | refine E1 ?_ | refine E2 ?_ | refine E3 ?_ | refine E4 ?_ | refine E5 (by decide) ?_ | refine E6 ?_ | refine E7 ?_ | refine E8 ?_ | refine E9 ?_ | refine Ea ?_ | refine Eb ?_ | refine Ec ?_ | refine Ed ?_)
            refine W_region fun K hK => ?_
            simp only [KA, KB, KP, KQ, reduceCtorEq, ↓reduceIte, Int.reduceLT, Int.reduceLE, Int.reduceAdd, Int.reduceSub, Int.reduceNeg, Int.reduceMul, Int.reduceToNat, Int.reduceEq, Int.reduceNe, Int.reduceGT, Int.reduceGE, Nat.reducePow, Nat.reduceAdd, Nat.reduceSub, Nat.reduceLT, Nat.reduceMul, Nat.reduceDiv, Nat.reduceEqDiff, Nat.reduceLeDiff, KT w, KI, hw.KF, htm, t3, t4, t7, t11, eKi, hKi0, hrow2, hflt, g0, hok, hbs, hn0, splice]
            refine hK _ _ ?_
            clear hK
            clear K
            repeat with_reducible (first | refine E0 ?_ | refine E1 ?_ | refine E2 ?_ | refine E3 ?_ | refine E4 ?_ | refine E5 (by decide) ?_ | refine E6 ?_ | refine E7 ?_ | refine E8 ?_ | refine E9 ?_ | refine Ea ?_ | refine Eb ?_ | refine Ec ?_ | refine Ed ?_)
            refine AtEnd_of rfl ?_
            simp only [KA, KP, KQ, reduceCtorEq, ↓reduceIte, Int.reduceLT, Int.reduceLE, Int.reduceAdd, Int.reduceSub, Int.reduceNeg, Int.reduceMul, Int.reduceToNat, Int.reduceEq, Int.reduceNe, Int.reduceGT, Int.reduceGE, Nat.reducePow, Nat.reduceAdd, Nat.reduceSub, Nat.reduceLT, Nat.reduceMul, Nat.reduceDiv, Nat.reduceEqDiff, Nat.reduceLeDiff, KT w, KI, hw.KF, htm, t3, gS, RS_some, aresults_nil, aresults_tmp, aresults_cell, one]
            exact FZ_tup rfl
          · rw [if_neg hbad] at hN2
            rw [decide_eq_false hbad] at t91
            obtain ⟨nv2, S2, hap, hN92⟩ := hN9.app v (by omega)
            have eI : IntKind.i64.wrap ((i : Int) + 1) = ((i + 1 : Nat) : Int) := by rw [i64_in _ (by omega)]; omega
            refine W_condF (by simp only [KA, KP, KQ, reduceCtorEq, ↓reduceIte, Int.reduceLT, Int.reduceLE, Int.reduceAdd, Int.reduceSub, Int.reduceNeg, Int.reduceMul, Int.reduceToNat, Int.reduceEq, Int.reduceNe, Int.reduceGT, Int.reduceGE, Nat.reducePow, Nat.reduceAdd, Nat.reduceSub, Nat.reduceLT, Nat.reduceMul, Nat.reduceDiv, Nat.reduceEqDiff, Nat.reduceLeDiff, KT w, KI, hw.KF, htm, t91]) ?_
            repeat with_reducible (first | refine E0 ?_ | refine E1 ?_ | refine E2 ?_ | refine E3 ?_ | refine E4 ?_ | refine E5 (by decide) ?_ | refine E6 ?_ | refine E7 ?_ | refine E8 ?_ | refine E9 ?_ | refine Ea ?_ | refine Eb ?_ | refine Ec ?_ | refine Ed ?_)
            refine W_region fun K hK => ?_
            simp only [KA, KB, KP, KQ, reduceCtorEq, ↓reduceIte, Int.reduceLT, Int.reduceLE, Int.reduceAdd, Int.reduceSub, Int.reduceNeg, Int.reduceMul, Int.reduceToNat, Int.reduceEq, Int.reduceNe, Int.reduceGT, Int.reduceGE, Nat.reducePow, Nat.reduceAdd, Nat.reduceSub, Nat.reduceLT, Nat.reduceMul, Nat.reduceDiv, Nat.reduceEqDiff, Nat.reduceLeDiff, KT w, KI, hw.KF, htm, t10, t12, hap, splice]
            refine hK _ _ ?_
            clear hK
            clear K
            repeat with_reducible (first | refine E0 ?_ | refine E1 ?_ | refine E2 ?_ | refine E3 ?_ | refine E4 ?_ | refine E5 (by decide) ?_ | refine E6 ?_ | refine E7 ?_ | refine E8 ?_ | refine E9 ?_ | refine Ea ?_ | refine Eb ?_ | refine Ec ?_ | refine Ed ?_)
            refine W_region fun K hK => ?_
            simp only [KA, KB, KP, KQ, reduceCtorEq, ↓reduceIte, Int.reduceLT, Int.reduceLE, Int.reduceAdd, Int.reduceSub, Int.reduceNeg, Int.reduceMul, Int.reduceToNat, Int.reduceEq, Int.reduceNe, Int.reduceGT, Int.reduceGE, Nat.reducePow, Nat.reduceAdd, Nat.reduceSub, Nat.reduceLT, Nat.reduceMul, Nat.reduceDiv, Nat.reduceEqDiff, Nat.reduceLeDiff, KT w, KI, hw.KF, htm, t11, eI]
            refine hK _ _ ?_
            clear hK
            clear K
            refine ⟨j, by omega, _, i + 1, j, l ++ [v], nv2, rfl, hN92, rfl, by omega, by simp; omega, hN2, ?_⟩
            simp only [KA, KP, KQ, reduceCtorEq, ↓reduceIte, Int.reduceLT, Int.reduceLE, Int.reduceAdd, Int.reduceSub, Int.reduceNeg, Int.reduceMul, Int.reduceToNat, Int.reduceEq, Int.reduceNe, Int.reduceGT, Int.reduceGE, Nat.reducePow, Nat.reduceAdd, Nat.reduceSub, Nat.reduceLT, Nat.reduceMul, Nat.reduceDiv, Nat.reduceEqDiff, Nat.reduceLeDiff, KT w, KI, hw.KF, htm, t0, t3, t4, t5, t6, t7, t8, t9]
      | zero =>
        have hle : ¬ (i : Int) ≤ (x.2.length : Int) := by omega
        have hll : l.length = x.2.length := by omega
        rw [numsR] at hN2
        subst hN2
        simp only at hR
        obtain ⟨q, hq⟩ : ∃ q, T[K + x.2.length]? = some q := by
          rcases numsR_ok _ _ _ _ _ _ _ _ hN with h | h
          · rw [h, Nat.add_zero]; exact ⟨_, hT⟩
          · rwa [Nat.add_sub_cancel_left] at h
        obtain ⟨qa, qw⟩ := q
        rw [hq] at hR
        simp only [Option.getD_some] at hR
        have hltq := (List.getElem?_eq_some_iff.1 hq).1
        obtain ⟨K2, hK2⟩ : ∃ K2, K + x.2.length = K2 := ⟨_, rfl⟩
        rw [hK2] at hR hq hltq
        have eK2 : IntKind.i64.wrap ((K : Int) + (x.2.length : Int)) = ((K2 : Nat) : Int) := by rw [i64_in _ (by omega)]; omega
        have eK3 : IntKind.i64.wrap ((K2 : Int) + 1) = ((K2 + 1 : Nat) : Int) := by rw [i64_in _ (by omega)]; omega
        have hrow2 : (wrows T)[K2]? = some [.str qw, .int .i64 (qa : Nat)] := by rw [wrows_get, hq]; rfl
        have hK20 : (0 : Int) ≤ (K2 : Int) := by omega
        have hmk := made25 hw x.1 l (by rcases findOp_mem hf with rfl | rfl | rfl | rfl | rfl | rfl | rfl <;> simp at hll ⊢ <;> omega)
        have hmk2 := PC_nrm (args := [.int .i64 x.1, nv]) hw.e25 hw.m25 (by simp only [nrmA, nrm, hN9.hl.nrm (nrmR_ints l)]; rfl) (by simp [nrmA, nrm, nrmR_ints]) hmk
        clear hmk
        obtain ⟨I, hI⟩ : ∃ I, madeR x.1 l = I := ⟨_, rfl⟩
        rw [hI] at hR hmk2
        obtain ⟨pv2, S2, hap, hP2⟩ := hN9.toP9.appP I hp64
        obtain ⟨ev2, S3, hae, hP3⟩ := hP2.appE (qa : Nat) (by omega)
        refine W_region fun K hK => ?_
        simp only [KA, KB, KP, KQ, reduceCtorEq, ↓reduceIte, Int.reduceLT, Int.reduceLE, Int.reduceAdd, Int.reduceSub, Int.reduceNeg, Int.reduceMul, Int.reduceToNat, Int.reduceEq, Int.reduceNe, Int.reduceGT, Int.reduceGE, Nat.reducePow, Nat.reduceAdd, Nat.reduceSub, Nat.reduceLT, Nat.reduceMul, Nat.reduceDiv, Nat.reduceEqDiff, Nat.reduceLeDiff, KT w, KI, hw.KF, htm, t9, t11, hle]
        refine hK _ _ ?_
        clear hK
        clear K
        repeat with_reducible (first | refine E0 ?_ | refine E1 ?_ | refine E2 ?_ | refine E3 ?_ | refine E4 ?_ | refine E5 (by decide) ?_ | refine E6 ?_ | refine E7 ?_ | refine E8 ?_ | refine E9 ?_ | refine Ea ?_ | refine Eb ?_ | refine Ec ?_ | refine Ed ?_)
        refine W_condF (by simp only [KA, KP, KQ, reduceCtorEq, ↓reduceIte, Int.reduceLT, Int.reduceLE, Int.reduceAdd, Int.reduceSub, Int.reduceNeg, Int.reduceMul, Int.reduceToNat, Int.reduceEq, Int.reduceNe, Int.reduceGT, Int.reduceGE, Nat.reducePow, Nat.reduceAdd, Nat.reduceSub, Nat.reduceLT, Nat.reduceMul, Nat.reduceDiv, Nat.reduceEqDiff, Nat.reduceLeDiff, KT w, KI, hw.KF, htm]) ?_
        repeat with_reducible (first | refine E0 ?_ | refine E1 ?_ | refine E2 ?_ | refine E3 ?_ | refine E4 ?_ | refine E5 (by decide) ?_ | refine E6 ?_ | refine E7 ?_ | refine E8 ?_ | refine E9 ?_ | refine Ea ?_ | refine Eb ?_ | refine Ec ?_ | refine Ed ?_)
        refine W_region fun K hK => ?_
        simp only [KA, KB, KP, KQ, reduceCtorEq, ↓reduceIte, Int.reduceLT, Int.reduceLE, Int.reduceAdd, Int.reduceSub, Int.reduceNeg, Int.reduceMul, Int.reduceToNat, Int.reduceEq, Int.reduceNe, Int.reduceGT, Int.reduceGE, Nat.reducePow, Nat.reduceAdd, Nat.reduceSub, Nat.reduceLT, Nat.reduceMul, Nat.reduceDiv, Nat.reduceEqDiff, Nat.reduceLeDiff, KT w, KI, hw.KF, htm, t7, t9, eK2]
        refine hK _ _ ?_
        clear hK
        clear K
        repeat with_reducible (first | refine E0 ?_ | refine E1 ?_ | refine E2 ?_ | refine E3 ?_ | refine E4 ?_ | refine E5 (by decide) ?_ | refine E6 ?_ | refine E7 ?_ | refine E8 ?_ | refine E9 ?_ | refine Ea ?_ | refine Eb ?_ | refine Ec ?_ | refine Ed ?_)
        refine W_region fun K hK => ?_
        simp only [KA, KB, KP, KQ, reduceCtorEq, ↓reduceIte, Int.reduceLT, Int.reduceLE, Int.reduceAdd, Int.reduceSub, Int.reduceNeg, Int.reduceMul, Int.reduceToNat, Int.reduceEq, Int.reduceNe, Int.reduceGT, Int.reduceGE, Nat.reducePow, Nat.reduceAdd, Nat.reduceSub, Nat.reduceLT, Nat.reduceMul, Nat.reduceDiv, Nat.reduceEqDiff, Nat.reduceLeDiff, KT w, KI, hw.KF, htm, t5, t8, t10, hmk2, hap, splice, inRow_len, inRow_take, inRow_drop]
        refine hK _ _ ?_
        clear hK
        clear K
        repeat with_reducible (first | refine E0 ?_ | refine E1 ?_ | refine E2 ?_ | refine E3 ?_ | refine E4 ?_ | refine E5 (by decide) ?_ | refine E6 ?_ | refine E7 ?_ | refine E8 ?_ | refine E9 ?_ | refine Ea ?_ | refine Eb ?_ | refine Ec ?_ | refine Ed ?_)
        refine W_region fun K hK => ?_
        simp only [KA, KB, KP, KQ, reduceCtorEq, ↓reduceIte, Int.reduceLT, Int.reduceLE, Int.reduceAdd, Int.reduceSub, Int.reduceNeg, Int.reduceMul, Int.reduceToNat, Int.reduceEq, Int.reduceNe, Int.reduceGT, Int.reduceGE, Nat.reducePow, Nat.reduceAdd, Nat.reduceSub, Nat.reduceLT, Nat.reduceMul, Nat.reduceDiv, Nat.reduceEqDiff, Nat.reduceLeDiff, KT w, KI, hw.KF, htm, t4, t6, hK20, hrow2, hae, splice]
        refine hK _ _ ?_
        clear hK
        clear K
        repeat with_reducible (first | refine E0 ?_ | refine E1 ?_ | refine E2 ?_ | refine E3 ?_ | refine E4 ?_ | refine E5 (by decide) ?_ | refine E6 ?_ | refine E7 ?_ | refine E8 ?_ | refine E9 ?_ | refine Ea ?_ | refine Eb ?_ | refine Ec ?_ | refine Ed ?_)
        refine W_region fun K hK => ?_
        simp only [KA, KB, KP, KQ, reduceCtorEq, ↓reduceIte, Int.reduceLT, Int.reduceLE, Int.reduceAdd, Int.reduceSub, Int.reduceNeg, Int.reduceMul, Int.reduceToNat, Int.reduceEq, Int.reduceNe, Int.reduceGT, Int.reduceGE, Nat.reducePow, Nat.reduceAdd, Nat.reduceSub, Nat.reduceLT, Nat.reduceMul, Nat.reduceDiv, Nat.reduceEqDiff, Nat.reduceLeDiff, KT w, KI, hw.KF, htm, eK3]
        refine hK _ _ ?_
        clear hK
        clear K
        repeat with_reducible (first | refine E0 ?_ | refine E1 ?_ | refine E2 ?_ | refine E3 ?_ | refine E4 ?_ | refine E5 (by decide) ?_ | refine E6 ?_ | refine E7 ?_ | refine E8 ?_ | refine E9 ?_ | refine Ea ?_ | refine Eb ?_ | refine Ec ?_ | refine Ed ?_)
        clear hok hbs hn0 g0 gS
        have hok := hP3.ok
        have hbs := hP3.base
        have hn0 := hP3.n
        have g0 := hP3.g0
        have gS : ∀ X, (S3.set 0 X).get 0 = some X := fun X => St.get_sete hok hn0
        have hp2l : (p ++ [I]).length ≤ 64 := by simp; omega
        have hep2 : (e ++ [((qa : Nat) : Int)]).length = (p ++ [I]).length := by simp; omega
        generalize p ++ [I] = p2 at *
        generalize e ++ [((qa : Nat) : Int)] = e2 at *
        cases hT2 : T[K2 + 1]? with
        | some q2 =>
          obtain ⟨b2, w2⟩ := q2
          rw [hT2] at hR
          simp only at hR
          have hlt3 := (List.getElem?_eq_some_iff.1 hT2).1
          have hge2 : ¬ ((T.length : Nat) : Int) ≤ ((K2 + 1 : Nat) : Int) := by omega
          have hrow3 : (wrows T)[K2 + 1]? = some [.str w2, .int .i64 (b2 : Nat)] := by rw [wrows_get, hT2]; rfl
          have hK30 : (0 : Int) ≤ ((K2 + 1 : Nat) : Int) := by omega
          refine W_region fun K hK => ?_
          simp only [KA, KB, KP, KQ, reduceCtorEq, ↓reduceIte, Int.reduceLT, Int.reduceLE, Int.reduceAdd, Int.reduceSub, Int.reduceNeg, Int.reduceMul, Int.reduceToNat, Int.reduceEq, Int.reduceNe, Int.reduceGT, Int.reduceGE, Nat.reducePow, Nat.reduceAdd, Nat.reduceSub, Nat.reduceLT, Nat.reduceMul, Nat.reduceDiv, Nat.reduceEqDiff, Nat.reduceLeDiff, KT w, KI, hw.KF, htm, t4, hlw, hge2]
          refine hK _ _ ?_
          clear hK
          clear K
          repeat with_reducible (first | refine E0 ?_ | refine E1 ?_ | refine E2 ?_ | refine E3 ?_ | refine E4 ?_ | refine E5 (by decide) ?_ | refine E6 ?_ | refine E7 ?_ | refine E8 ?_ | refine E9 ?_ | refine Ea ?_ | refine Eb ?_ | refine Ec ?_ | refine Ed ?_)
          refine W_condF (by simp only [KA, KP, KQ, reduceCtorEq, ↓reduceIte, Int.reduceLT, Int.reduceLE, Int.reduceAdd, Int.reduceSub, Int.reduceNeg, Int.reduceMul, Int.reduceToNat, Int.reduceEq, Int.reduceNe, Int.reduceGT, Int.reduceGE, Nat.reducePow, Nat.reduceAdd, Nat.reduceSub, Nat.reduceLT, Nat.reduceMul, Nat.reduceDiv, Nat.reduceEqDiff, Nat.reduceLeDiff, KT w, KI, hw.KF, htm]) ?_
          repeat with_reducible (first | refine E0 ?_ | refine E1 ?_ | refine E2 ?_ | refine E3 ?_ | refine E4 ?_ | refine E5 (by decide) ?_ | refine E6 ?_ | refine E7 ?_ | refine E8 ?_ | refine E9 ?_ | refine Ea ?_ | refine Eb ?_ | refine Ec ?_ | refine Ed ?_)
          refine W_region fun K hK => ?_
          simp only [KA, KB, KP, KQ, reduceCtorEq, ↓reduceIte, Int.reduceLT, Int.reduceLE, Int.reduceAdd, Int.reduceSub, Int.reduceNeg, Int.reduceMul, Int.reduceToNat, Int.reduceEq, Int.reduceNe, Int.reduceGT, Int.reduceGE, Nat.reducePow, Nat.reduceAdd, Nat.reduceSub, Nat.reduceLT, Nat.reduceMul, Nat.reduceDiv, Nat.reduceEqDiff, Nat.reduceLeDiff, KT w, KI, hw.KF, htm, t4, hK30, hrow3]
          refine hK _ _ ?_
          clear hK
          clear K
          repeat with_reducible (first | refine E0 ?_ | refine E1 ?_ | refine E2 ?_ | refine E3 ?_ | refine E4 ?_ | refine E5 (by decide) ?_ | refine E6 ?_ | refine E7 ?_ | refine E8 ?_ | refine E9 ?_ | refine Ea ?_ | refine Eb ?_ | refine Ec ?_ | refine Ed ?_)
          by_cases hw2 : w2 = [59]
          · rw [if_pos hw2] at hR
            have eK4 : IntKind.i64.wrap (((K2 + 1 : Nat) : Int) + 1) = ((K2 + 2 : Nat) : Int) := by rw [i64_in _ (by omega)]; omega
            refine W_condF (by simp only [KA, KP, KQ, reduceCtorEq, ↓reduceIte, Int.reduceLT, Int.reduceLE, Int.reduceAdd, Int.reduceSub, Int.reduceNeg, Int.reduceMul, Int.reduceToNat, Int.reduceEq, Int.reduceNe, Int.reduceGT, Int.reduceGE, Nat.reducePow, Nat.reduceAdd, Nat.reduceSub, Nat.reduceLT, Nat.reduceMul, Nat.reduceDiv, Nat.reduceEqDiff, Nat.reduceLeDiff, KT w, KI, hw.KF, htm, hw2]) ?_
            repeat with_reducible (first | refine E0 ?_ | refine E1 ?_ | refine E2 ?_ | refine E3 ?_ | refine E4 ?_ | refine E5 (by decide) ?_ | refine E6 ?_ | refine E7 ?_ | refine E8 ?_ | refine E9 ?_ | refine Ea ?_ | refine Eb ?_ | refine Ec ?_ | refine Ed ?_)
            refine W_region fun K hK => ?_
            simp only [KA, KB, KP, KQ, reduceCtorEq, ↓reduceIte, Int.reduceLT, Int.reduceLE, Int.reduceAdd, Int.reduceSub, Int.reduceNeg, Int.reduceMul, Int.reduceToNat, Int.reduceEq, Int.reduceNe, Int.reduceGT, Int.reduceGE, Nat.reducePow, Nat.reduceAdd, Nat.reduceSub, Nat.reduceLT, Nat.reduceMul, Nat.reduceDiv, Nat.reduceEqDiff, Nat.reduceLeDiff, KT w, KI, hw.KF, htm, eK4]
            refine hK _ _ ?_
            clear hK
            clear K
            refine ⟨T.length + 1 - (K2 + 2), by omega, _, K2 + 2, f, p2, e2, pv2, ev2, rfl, hP3, rfl, by omega, hp2l, hep2, ?_, by omega, ?_, ?_⟩
            · omega
            · exact hR
            · simp only [KA, KP, KQ, reduceCtorEq, ↓reduceIte, Int.reduceLT, Int.reduceLE, Int.reduceAdd, Int.reduceSub, Int.reduceNeg, Int.reduceMul, Int.reduceToNat, Int.reduceEq, Int.reduceNe, Int.reduceGT, Int.reduceGE, Nat.reducePow, Nat.reduceAdd, Nat.reduceSub, Nat.reduceLT, Nat.reduceMul, Nat.reduceDiv, Nat.reduceEqDiff, Nat.reduceLeDiff, KT w, KI, hw.KF, htm, t0, t3, t4]
          · rw [if_neg hw2] at hR
            subst hR
            refine W_condT (by simp only [KA, KP, KQ, reduceCtorEq, ↓reduceIte, Int.reduceLT, Int.reduceLE, Int.reduceAdd, Int.reduceSub, Int.reduceNeg, Int.reduceMul, Int.reduceToNat, Int.reduceEq, Int.reduceNe, Int.reduceGT, Int.reduceGE, Nat.reducePow, Nat.reduceAdd, Nat.reduceSub, Nat.reduceLT, Nat.reduceMul, Nat.reduceDiv, Nat.reduceEqDiff, Nat.reduceLeDiff, KT w, KI, hw.KF, htm, hw2]) ?_
            repeat with_reducible (first | refine E0 ?_ | refine E1 ?_ | refine E2 ?_ | refine E3 ?_ | refine E4 ?_ | refine E5 (by decide) ?_ | refine E6 ?_ | refine E7 ?_ | refine E8 ?_ | refine E9 ?_ | refine Ea ?_ | refine Eb ?_ | refine Ec ?_ | refine Ed ?_)
            refine W_region fun K hK => ?_
            simp only [KA, KB, KP, KQ, reduceCtorEq, ↓reduceIte, Int.reduceLT, Int.reduceLE, Int.reduceAdd, Int.reduceSub, Int.reduceNeg, Int.reduceMul, Int.reduceToNat, Int.reduceEq, Int.reduceNe, Int.reduceGT, Int.reduceGE, Nat.reducePow, Nat.reduceAdd, Nat.reduceSub, Nat.reduceLT, Nat.reduceMul, Nat.reduceDiv, Nat.reduceEqDiff, Nat.reduceLeDiff, KT w, KI, hw.KF, htm, t3, t4, hK30, hrow3, hflt, g0, hok, hbs, hn0, splice]
            refine hK _ _ ?_
            clear hK
            clear K
            repeat with_reducible (first | refine E0 ?_ | refine E1 ?_ | refine E2 ?_ | refine E3 ?_ | refine E4 ?_ | refine E5 (by decide) ?_ | refine E6 ?_ | refine E7 ?_ | refine E8 ?_ | refine E9 ?_ | refine Ea ?_ | refine Eb ?_ | refine Ec ?_ | refine Ed ?_)
            refine AtEnd_of rfl ?_
            simp only [KA, KP, KQ, reduceCtorEq, ↓reduceIte, Int.reduceLT, Int.reduceLE, Int.reduceAdd, Int.reduceSub, Int.reduceNeg, Int.reduceMul, Int.reduceToNat, Int.reduceEq, Int.reduceNe, Int.reduceGT, Int.reduceGE, Nat.reducePow, Nat.reduceAdd, Nat.reduceSub, Nat.reduceLT, Nat.reduceMul, Nat.reduceDiv, Nat.reduceEqDiff, Nat.reduceLeDiff, KT w, KI, hw.KF, htm, t3, gS, RS_some, aresults_nil, aresults_tmp, aresults_cell, one]
            exact FZ_tup rfl
        | none =>
          rw [hT2] at hR
          simp only at hR
          have hge2 : ((T.length : Nat) : Int) ≤ ((K2 + 1 : Nat) : Int) := by have := List.getElem?_eq_none_iff.1 hT2; omega
          have hlp2 := hP3.hp.alen (w := w) (t := 22) (e := 39) (Tk22 w)
          rw [inRows_len] at hlp2
          refine W_region fun K hK => ?_
          simp only [KA, KB, KP, KQ, reduceCtorEq, ↓reduceIte, Int.reduceLT, Int.reduceLE, Int.reduceAdd, Int.reduceSub, Int.reduceNeg, Int.reduceMul, Int.reduceToNat, Int.reduceEq, Int.reduceNe, Int.reduceGT, Int.reduceGE, Nat.reducePow, Nat.reduceAdd, Nat.reduceSub, Nat.reduceLT, Nat.reduceMul, Nat.reduceDiv, Nat.reduceEqDiff, Nat.reduceLeDiff, KT w, KI, hw.KF, htm, t4, hlw, hge2]
          refine hK _ _ ?_
          clear hK
          clear K
          repeat with_reducible (first | refine E0 ?_ | refine E1 ?_ | refine E2 ?_ | refine E3 ?_ | refine E4 ?_ | refine E5 (by decide) ?_ | refine E6 ?_ | refine E7 ?_ | refine E8 ?_ | refine E9 ?_ | refine Ea ?_ | refine Eb ?_ | refine Ec ?_ | refine Ed ?_)
          refine W_condT (by simp only [KA, KP, KQ, reduceCtorEq, ↓reduceIte, Int.reduceLT, Int.reduceLE, Int.reduceAdd, Int.reduceSub, Int.reduceNeg, Int.reduceMul, Int.reduceToNat, Int.reduceEq, Int.reduceNe, Int.reduceGT, Int.reduceGE, Nat.reducePow, Nat.reduceAdd, Nat.reduceSub, Nat.reduceLT, Nat.reduceMul, Nat.reduceDiv, Nat.reduceEqDiff, Nat.reduceLeDiff, KT w, KI, hw.KF, htm]) ?_
          repeat with_reducible (first | refine E0 ?_ | refine E1 ?_ | refine E2 ?_ | refine E3 ?_ | refine E4 ?_ | refine E5 (by decide) ?_ | refine E6 ?_ | refine E7 ?_ | refine E8 ?_ | refine E9 ?_ | refine Ea ?_ | refine Eb ?_ | refine Ec ?_ | refine Ed ?_)
          refine W_region fun K hK => ?_
          simp only [KA, KB, KP, KQ, reduceCtorEq, ↓reduceIte, Int.reduceLT, Int.reduceLE, Int.reduceAdd, Int.reduceSub, Int.reduceNeg, Int.reduceMul, Int.reduceToNat, Int.reduceEq, Int.reduceNe, Int.reduceGT, Int.reduceGE, Nat.reducePow, Nat.reduceAdd, Nat.reduceSub, Nat.reduceLT, Nat.reduceMul, Nat.reduceDiv, Nat.reduceEqDiff, Nat.reduceLeDiff, KT w, KI, hw.KF, htm]
          refine hK _ _ ?_
          clear hK
          clear K
          repeat with_reducible (first | refine E0 ?_ | refine E1 ?_ | refine E2 ?_ | refine E3 ?_ | refine E4 ?_ | refine E5 (by decide) ?_ | refine E6 ?_ | refine E7 ?_ | refine E8 ?_ | refine E9 ?_ | refine Ea ?_ | refine Eb ?_ | refine Ec ?_ | refine Ed ?_)
          unfold finR at hR
          obtain ⟨Bz, hBz⟩ : ∃ Bz, badZ p2.length p2 e2 = Bz := ⟨_, rfl⟩
          rw [hBz] at hR
          refine W_loop (fun k fr S' => ∃ (tm : List AV) (j : Nat), fr = ⟨tm, [], none, 9⟩ ∧ S' = S3 ∧ k = p2.length - j ∧ j ≤ p2.length ∧ badZ p2.length (p2.drop j) (e2.drop j) = Bz ∧
             tm.length = 162 ∧ tget tm 3 = .ptr 0 0 ∧ tget tm 5 = pv2 ∧ tget tm 6 = ev2 ∧ tget tm 14 = .int .i64 (j : Nat)) p2.length
            ⟨_, 0, rfl, rfl, rfl, Nat.zero_le _, hBz, ?_⟩ ?_
          · simp only [KA, KP, KQ, reduceCtorEq, ↓reduceIte, Int.reduceLT, Int.reduceLE, Int.reduceAdd, Int.reduceSub, Int.reduceNeg, Int.reduceMul, Int.reduceToNat, Int.reduceEq, Int.reduceNe, Int.reduceGT, Int.reduceGE, Nat.reducePow, Nat.reduceAdd, Nat.reduceSub, Nat.reduceLT, Nat.reduceMul, Nat.reduceDiv, Nat.reduceEqDiff, Nat.reduceLeDiff, KT w, KI, hw.KF, htm, t3, Int.ofNat_zero]
            try simp
          clear htm t0 t3 t4 t5 t6 t7 t8 t9 t10 t11 tm hBz
          rintro k fr S' ⟨tm, j, rfl, rfl, rfl, hj, hBz, htm, t3, t5, t6, t14⟩
          repeat with_reducible (first | refine E0 ?_ | refine E1 ?_ | refine E2 ?_ | refine E3 ?_ | refine E4 ?_ | refine E5 (by decide) ?_ | refine E6 ?_ | refine E7 ?_ | refine E8 ?_ | refine E9 ?_ | refine Ea ?_ | refine Eb ?_ | refine Ec ?_ | refine Ed ?_)
          by_cases hjl : (j : Int) < (p2.length : Int)
          case neg =>
            have hjp : p2.length ≤ j := by omega
            have hd1 : p2.drop j = [] := List.drop_eq_nil_of_le hjp
            have hb0 : badZ p2.length [] (e2.drop j) = none := by simp [badZ]
            rw [hd1, hb0] at hBz
            subst hBz
            simp only at hR
            have hnv := hP3.hp.nrm (nrmR_inRows p2)
            refine W_region fun K hK => ?_
            simp only [KA, KB, KP, KQ, reduceCtorEq, ↓reduceIte, Int.reduceLT, Int.reduceLE, Int.reduceAdd, Int.reduceSub, Int.reduceNeg, Int.reduceMul, Int.reduceToNat, Int.reduceEq, Int.reduceNe, Int.reduceGT, Int.reduceGE, Nat.reducePow, Nat.reduceAdd, Nat.reduceSub, Nat.reduceLT, Nat.reduceMul, Nat.reduceDiv, Nat.reduceEqDiff, Nat.reduceLeDiff, KT w, KI, hw.KF, htm, t5, t14, hlp2, hjl]
            refine hK _ _ ?_
            clear hK
            clear K
            repeat with_reducible (first | refine E0 ?_ | refine E1 ?_ | refine E2 ?_ | refine E3 ?_ | refine E4 ?_ | refine E5 (by decide) ?_ | refine E6 ?_ | refine E7 ?_ | refine E8 ?_ | refine E9 ?_ | refine Ea ?_ | refine Eb ?_ | refine Ec ?_ | refine Ed ?_)
            refine W_condF (by simp only [KA, KP, KQ, reduceCtorEq, ↓reduceIte, Int.reduceLT, Int.reduceLE, Int.reduceAdd, Int.reduceSub, Int.reduceNeg, Int.reduceMul, Int.reduceToNat, Int.reduceEq, Int.reduceNe, Int.reduceGT, Int.reduceGE, Nat.reducePow, Nat.reduceAdd, Nat.reduceSub, Nat.reduceLT, Nat.reduceMul, Nat.reduceDiv, Nat.reduceEqDiff, Nat.reduceLeDiff, KT w, KI, hw.KF, htm]) ?_
            repeat with_reducible (first | refine E0 ?_ | refine E1 ?_ | refine E2 ?_ | refine E3 ?_ | refine E4 ?_ | refine E5 (by decide) ?_ | refine E6 ?_ | refine E7 ?_ | refine E8 ?_ | refine E9 ?_ | refine Ea ?_ | refine Eb ?_ | refine Ec ?_ | refine Ed ?_)
            refine W_region fun K hK => ?_
            simp only [KA, KB, KP, KQ, reduceCtorEq, ↓reduceIte, Int.reduceLT, Int.reduceLE, Int.reduceAdd, Int.reduceSub, Int.reduceNeg, Int.reduceMul, Int.reduceToNat, Int.reduceEq, Int.reduceNe, Int.reduceGT, Int.reduceGE, Nat.reducePow, Nat.reduceAdd, Nat.reduceSub, Nat.reduceLT, Nat.reduceMul, Nat.reduceDiv, Nat.reduceEqDiff, Nat.reduceLeDiff, KT w, KI, hw.KF, htm, t3, t5, g0, hok, hbs, hn0, splice]
            refine hK _ _ ?_
            clear hK
            clear K
            repeat with_reducible (first | refine E0 ?_ | refine E1 ?_ | refine E2 ?_ | refine E3 ?_ | refine E4 ?_ | refine E5 (by decide) ?_ | refine E6 ?_ | refine E7 ?_ | refine E8 ?_ | refine E9 ?_ | refine Ea ?_ | refine Eb ?_ | refine Ec ?_ | refine Ed ?_)
            refine AtEnd_of rfl ?_
            simp only [KA, KP, KQ, reduceCtorEq, ↓reduceIte, Int.reduceLT, Int.reduceLE, Int.reduceAdd, Int.reduceSub, Int.reduceNeg, Int.reduceMul, Int.reduceToNat, Int.reduceEq, Int.reduceNe, Int.reduceGT, Int.reduceGE, Nat.reducePow, Nat.reduceAdd, Nat.reduceSub, Nat.reduceLT, Nat.reduceMul, Nat.reduceDiv, Nat.reduceEqDiff, Nat.reduceLeDiff, KT w, KI, hw.KF, htm, t3, gS, RS_some, aresults_nil, aresults_tmp, aresults_cell, one]
            rw [← hR]
            exact FZ_tup (by simp [nrmA, nrm, nrmL, hnv])
          have hjn : j < p2.length := by omega
          obtain ⟨ins, hi⟩ : ∃ ins, p2[j]? = some ins := ⟨_, List.getElem?_eq_getElem hjn⟩
          obtain ⟨ee, hee⟩ : ∃ ee, e2[j]? = some ee := ⟨_, List.getElem?_eq_getElem (by omega)⟩
          have hd1 : p2.drop j = ins :: p2.drop (j + 1) := by
            rw [List.drop_eq_getElem_cons hjn]
            rw [List.getElem?_eq_getElem hjn] at hi
            simp only [Option.some.injEq] at hi; rw [hi]
          have hd2 : e2.drop j = ee :: e2.drop (j + 1) := by
            rw [List.drop_eq_getElem_cons (by omega)]
            rw [List.getElem?_eq_getElem (by omega)] at hee
            simp only [Option.some.injEq] at hee; rw [hee]
          rw [hd1, hd2, badZ] at hBz
          have hrowp : (inRows p2)[j]? = some (inRow ins) := by rw [inRows_get, hi]; rfl
          have hrowe : (ints e2)[j]? = some [.int .i64 ee] := by rw [ints_get, hee]; rfl
          have hpne : p2 ≠ [] := fun h => by subst h; simp at hjn
          have hene : e2 ≠ [] := fun h => by subst h; simp at hee
          have hj0 : (0 : Int) ≤ (j : Int) := by omega
          have i3 : (inRow ins)[3]? = some (.int .i64 ins.z) := rfl
          rcases hP3.hp with ⟨hr0, -⟩ | ⟨-, op, gp, hpv, -⟩
          · cases p2 with
            | nil => exact absurd rfl hpne
            | cons _ _ => cases hr0
          rcases hP3.he with ⟨hr0, -⟩ | ⟨-, oe, ge, hev, -⟩
          · cases e2 with
            | nil => exact absurd rfl hene
            | cons _ _ => cases hr0
          subst hpv hev
          refine W_region fun K hK => ?_
          simp only [KA, KB, KP, KQ, reduceCtorEq, ↓reduceIte, Int.reduceLT, Int.reduceLE, Int.reduceAdd, Int.reduceSub, Int.reduceNeg, Int.reduceMul, Int.reduceToNat, Int.reduceEq, Int.reduceNe, Int.reduceGT, Int.reduceGE, Nat.reducePow, Nat.reduceAdd, Nat.reduceSub, Nat.reduceLT, Nat.reduceMul, Nat.reduceDiv, Nat.reduceEqDiff, Nat.reduceLeDiff, KT w, KI, hw.KF, htm, t5, t14, hlp2, hjl]
          refine hK _ _ ?_
          clear hK
          clear K
          repeat with_reducible (first | refine E0 ?_ | refine E1 ?_ | refine E2 ?_ | refine E3 ?_ | refine E4 ?_ | refine E5 (by decide) ?_ | refine E6 ?_ | refine E7 ?_ | refine E8 ?_ | refine E9 ?_ | refine Ea ?_ | refine Eb ?_ | refine Ec ?_ | refine Ed ?_)
          refine W_condT (by simp only [KA, KP, KQ, reduceCtorEq, ↓reduceIte, Int.reduceLT, Int.reduceLE, Int.reduceAdd, Int.reduceSub, Int.reduceNeg, Int.reduceMul, Int.reduceToNat, Int.reduceEq, Int.reduceNe, Int.reduceGT, Int.reduceGE, Nat.reducePow, Nat.reduceAdd, Nat.reduceSub, Nat.reduceLT, Nat.reduceMul, Nat.reduceDiv, Nat.reduceEqDiff, Nat.reduceLeDiff, KT w, KI, hw.KF, htm]) ?_
          repeat with_reducible (first | refine E0 ?_ | refine E1 ?_ | refine E2 ?_ | refine E3 ?_ | refine E4 ?_ | refine E5 (by decide) ?_ | refine E6 ?_ | refine E7 ?_ | refine E8 ?_ | refine E9 ?_ | refine Ea ?_ | refine Eb ?_ | refine Ec ?_ | refine Ed ?_)
          refine W_region fun K hK => ?_
          simp only [KA, KB, KP, KQ, reduceCtorEq, ↓reduceIte, Int.reduceLT, Int.reduceLE, Int.reduceAdd, Int.reduceSub, Int.reduceNeg, Int.reduceMul, Int.reduceToNat, Int.reduceEq, Int.reduceNe, Int.reduceGT, Int.reduceGE, Nat.reducePow, Nat.reduceAdd, Nat.reduceSub, Nat.reduceLT, Nat.reduceMul, Nat.reduceDiv, Nat.reduceEqDiff, Nat.reduceLeDiff, KT w, KI, hw.KF, htm, t5, t14, hlp2, hj0, hrowp, i3, inRow_len]
          refine hK _ _ ?_
          clear hK
          clear K
          repeat with_reducible (first | refine E0 ?_ | refine E1 ?_ | refine E2 ?_ | refine E3 ?_ | refine E4 ?_ | refine E5 (by decide) ?_ | refine E6 ?_ | refine E7 ?_ | refine E8 ?_ | refine E9 ?_ | refine Ea ?_ | refine Eb ?_ | refine Ec ?_ | refine Ed ?_)
          by_cases hz : (p2.length : Int) < ins.z
          · rw [if_pos hz] at hBz
            subst hBz
            simp only at hR
            subst hR
            refine W_condT (by simp only [KA, KP, KQ, reduceCtorEq, ↓reduceIte, Int.reduceLT, Int.reduceLE, Int.reduceAdd, Int.reduceSub, Int.reduceNeg, Int.reduceMul, Int.reduceToNat, Int.reduceEq, Int.reduceNe, Int.reduceGT, Int.reduceGE, Nat.reducePow, Nat.reduceAdd, Nat.reduceSub, Nat.reduceLT, Nat.reduceMul, Nat.reduceDiv, Nat.reduceEqDiff, Nat.reduceLeDiff, KT w, KI, hw.KF, htm, hz]) ?_
            repeat with_reducible (first | refine E0 ?_ | refine E1 ?_ | refine E2 ?_ | refine E3 ?_ | refine E4 ?_ | refine E5 (by decide) ?_ | refine E6 ?_ | refine E7 ?_ | refine E8 ?_ | refine E9 ?_ | refine Ea ?_ | refine Eb ?_ | refine Ec ?_ | refine Ed ?_)
            refine W_region fun K hK => ?_
            simp only [KA, KB, KP, KQ, reduceCtorEq, ↓reduceIte, Int.reduceLT, Int.reduceLE, Int.reduceAdd, Int.reduceSub, Int.reduceNeg, Int.reduceMul, Int.reduceToNat, Int.reduceEq, Int.reduceNe, Int.reduceGT, Int.reduceGE, Nat.reducePow, Nat.reduceAdd, Nat.reduceSub, Nat.reduceLT, Nat.reduceMul, Nat.reduceDiv, Nat.reduceEqDiff, Nat.reduceLeDiff, KT w, KI, hw.KF, htm, t3, t6, t14, hj0, hrowe, hflt, g0, hok, hbs, hn0, splice]
            refine hK _ _ ?_
            clear hK
            clear K
            repeat with_reducible (first | refine E0 ?_ | refine E1 ?_ | refine E2 ?_ | refine E3 ?_ | refine E4 ?_ | refine E5 (by decide) ?_ | refine E6 ?_ | refine E7 ?_ | refine E8 ?_ | refine E9 ?_ | refine Ea ?_ | refine Eb ?_ | refine Ec ?_ | refine Ed ?_)
            refine AtEnd_of rfl ?_
            simp only [KA, KP, KQ, reduceCtorEq, ↓reduceIte, Int.reduceLT, Int.reduceLE, Int.reduceAdd, Int.reduceSub, Int.reduceNeg, Int.reduceMul, Int.reduceToNat, Int.reduceEq, Int.reduceNe, Int.reduceGT, Int.reduceGE, Nat.reducePow, Nat.reduceAdd, Nat.reduceSub, Nat.reduceLT, Nat.reduceMul, Nat.reduceDiv, Nat.reduceEqDiff, Nat.reduceLeDiff, KT w, KI, hw.KF, htm, t3, gS, RS_some, aresults_nil, aresults_tmp, aresults_cell, one]
            exact FZ_tup rfl
          · rw [if_neg hz] at hBz
            have ej : IntKind.i64.wrap ((j : Int) + 1) = ((j + 1 : Nat) : Int) := by rw [i64_in _ (by omega)]; omega
            refine W_condF (by simp only [KA, KP, KQ, reduceCtorEq, ↓reduceIte, Int.reduceLT, Int.reduceLE, Int.reduceAdd, Int.reduceSub, Int.reduceNeg, Int.reduceMul, Int.reduceToNat, Int.reduceEq, Int.reduceNe, Int.reduceGT, Int.reduceGE, Nat.reducePow, Nat.reduceAdd, Nat.reduceSub, Nat.reduceLT, Nat.reduceMul, Nat.reduceDiv, Nat.reduceEqDiff, Nat.reduceLeDiff, KT w, KI, hw.KF, htm, hz]) ?_
            repeat with_reducible (first | refine E0 ?_ | refine E1 ?_ | refine E2 ?_ | refine E3 ?_ | refine E4 ?_ | refine E5 (by decide) ?_ | refine E6 ?_ | refine E7 ?_ | refine E8 ?_ | refine E9 ?_ | refine Ea ?_ | refine Eb ?_ | refine Ec ?_ | refine Ed ?_)
            refine W_region fun K hK => ?_
            simp only [KA, KB, KP, KQ, reduceCtorEq, ↓reduceIte, Int.reduceLT, Int.reduceLE, Int.reduceAdd, Int.reduceSub, Int.reduceNeg, Int.reduceMul, Int.reduceToNat, Int.reduceEq, Int.reduceNe, Int.reduceGT, Int.reduceGE, Nat.reducePow, Nat.reduceAdd, Nat.reduceSub, Nat.reduceLT, Nat.reduceMul, Nat.reduceDiv, Nat.reduceEqDiff, Nat.reduceLeDiff, KT w, KI, hw.KF, htm, t14, ej]
            refine hK _ _ ?_
            clear hK
            clear K
            refine ⟨p2.length - (j + 1), by omega, _, j + 1, rfl, rfl, rfl, by omega, hBz, ?_⟩
            simp only [KA, KP, KQ, reduceCtorEq, ↓reduceIte, Int.reduceLT, Int.reduceLE, Int.reduceAdd, Int.reduceSub, Int.reduceNeg, Int.reduceMul, Int.reduceToNat, Int.reduceEq, Int.reduceNe, Int.reduceGT, Int.reduceGE, Nat.reducePow, Nat.reduceAdd, Nat.reduceSub, Nat.reduceLT, Nat.reduceMul, Nat.reduceDiv, Nat.reduceEqDiff, Nat.reduceLeDiff, KT w, KI, hw.KF, htm, t3, t5, t6]
end Go.Am.V
