/- THE BUILDER MADE OF AN ARENA. -/
import Derived.Test.YtbmfnoaogebjfaaDoorT7
set_option linter.unusedSimpArgs false
set_option linter.unusedVariables false
set_option maxRecDepth 20000
namespace Go.Am.R
open Go.Proofs Go.IntWalk

variable {w : Ways}

def pushP (x : Option (AV × AObj)) (S : St) (r : Option (AV × St × Foot)) : Option (AV × St × Foot) :=
  match x with
  | some z => some (z.1, S.push z.2, ⟨.ids [S.n], .ids [S.n], true⟩)
  | none => r
theorem pushP_some (z : AV × AObj) (S : St) (r : Option (AV × St × Foot)) : pushP (some z) S r = some (z.1, S.push z.2, ⟨.ids [S.n], .ids [S.n], true⟩) := (rfl)
theorem opX_push {c : Cfg} {R : Rec} {f r : Nat} {tm : List AV} {d : Option Tmp} {ty : TypeId} {p : String} {a : Array Edge} {g : Option (Nat × Bool)} {S : St} {fn : FuncId} {F : List AV → Nat → Option (AV × AObj)} {x : Array Operand} {t : Array TypeId} (he : c.ext fn = some (.push F)) :
    opX c R f r tm ⟨d, .call { callee := .value (.func fn), args := x, argTypes := t }, ty, p, a, g⟩ S = pushP ((evalL tm x.toList).bind fun l => F l S.n) S ((aeff c R f r tm ⟨d, .call { callee := .value (.func fn), args := x, argTypes := t }, ty, p, a, g⟩ S).map fun z => (z.1, z.2, wfoot c tm ⟨d, .call { callee := .value (.func fn), args := x, argTypes := t }, ty, p, a, g⟩ S)) := by
  have hq : opQ c R tm ⟨d, .call { callee := .value (.func fn), args := x, argTypes := t }, ty, p, a, g⟩ S = none := by simp [opQ, aval_callv, he]
  have hc : calmable c tm ⟨d, .call { callee := .value (.func fn), args := x, argTypes := t }, ty, p, a, g⟩ = false := by simp [calmable, he]
  unfold opX
  simp only [hq, hc, Bool.false_eq_true, if_false]
  cases hl : evalL tm x.toList with
  | none => rfl
  | some l =>
    cases hF : F l S.n with
    | none => simp only [Option.bind_some, hF, pushP]
    | some z =>
      simp only [Option.bind_some, hF, pushP]
      simp [aeff, evalT, hl, callV, callF, he, XT.run, hF, wfoot]

/-- All that was there is there. -/
structure Ext (S S' : St) : Prop where
  ok : S'.ok
  base : S'.base = S.base
  n : S.n ≤ S'.n
  get : ∀ q x, q < S.n → S.get q = some x → S'.get q = some x
theorem Ext.push {S S' : St} (h : Ext S S') (a : AObj) : Ext S (S'.push a) := ⟨St.ok_push h.ok, by rw [St.pushB]; exact h.base, by rw [St.pushN]; have := h.n; omega, fun q x hq hx => by rw [St.get_pushn (by have := h.n; omega)]; exact h.get q x hq hx⟩
theorem Ext.set {S S' : St} (h : Ext S S') {o : Nat} (ho : S.n ≤ o) (hn : o < S'.n) (a : AObj) : Ext S (S'.set o a) := ⟨St.ok_set h.ok, by rw [St.setB]; exact h.base, by rw [St.setN]; exact h.n, fun q x hq hx => by rw [St.get_setn hn (by omega)]; exact h.get q x hq hx⟩

theorem MapOk.add {es : List (AV × AV × Nat)} {clock : Nat} {S : List Sl} (h : MapOk es clock S) {s : Sl} (hr : s.refs ≠ 0) (hn : ∀ (i : Nat) (u : Sl), S[i]? = some u → u.refs ≠ 0 → u.key ≠ s.key) : findKey (.agg (keyC s.key)) es 0 = some none ∧ MapOk (es ++ [(.agg (keyC s.key), .int .i64 (S.length : Nat), clock)]) (clock + 1) (S ++ [s]) := by
  have hl : look S s.key = none := by
    unfold look
    rw [List.findIdx?_eq_none_iff]
    intro u hu
    obtain ⟨j, hj⟩ := List.mem_iff_getElem?.1 hu
    by_cases hr0 : u.refs = 0
    · simp [hr0]
    · simp [hn j u hj hr0]
  refine ⟨h.no hl, ?_⟩
  have hz : (S ++ [zs none])[S.length]? = some (zs none) := by simp
  have hl2 : look (S ++ [zs none]) s.key = none := by
    unfold look at hl ⊢
    rw [List.findIdx?_eq_none_iff] at hl ⊢
    intro u hu
    rcases List.mem_append.1 hu with hu | hu
    · exact hl u hu
    · simp at hu; subst hu; simp [zs]
  have := (h.snoc (z := zs none) rfl).put hl2 hz rfl s hr rfl
  have e : (S ++ [zs none]).set S.length s = S ++ [s] := by
    rw [List.set_append_right _ _ (Nat.le_refl _), Nat.sub_self]; rfl
  rw [e] at this
  exact this
theorem MapOk.nil : MapOk [] 0 [] := ⟨⟨[], rfl, List.nodup_nil, fun K i => by simp⟩, fun e h => by cases h⟩
set_option maxHeartbeats 8000000 in
theorem build32 (hw : Std w) (hkey : w.ext 46 = some (.val keyF)) (h60 : w.ext 60 = some (.push (cloneF 10 128))) (h61 : w.ext 61 = some (.push (cloneF 1 8))) (A : Ar) (hap : Apart A.slots) (hz : ∀ (i : Nat) (s : Sl), A.slots[i]? = some s → 0 ≤ s.refs) (hl : A.slots.length ≤ 100000) (hr : A.roots.length ≤ 100000) (hK : ∀ (i : Nat) (s : Sl), A.slots[i]? = some s → Kok s.kids) (S : St) (hok : S.ok) (hb : S.base = 0) :
    CallQ (cfg w) 32 [arV A] S fun v S' => ∃ o, v = .ptr o 0 ∧ S.n ≤ o ∧ BD o A false S' ∧ Ext S S' := by
  obtain ⟨SL, FR, RT⟩ := A
  simp only at hap hz hl hr hK
  have hsl : (SL.map slCan).length = SL.length := List.length_map _
  have hrl := rs_len RT
  obtain ⟨v1, o1, hc1⟩ := cloneF_ex (es := 10) (bytes := 128) (R := SL.map slCan) (SlRows.can SL).hd (by simp [capOk, hsl]; omega) (S.n + 1)
  obtain ⟨v2, o2, hc2⟩ := cloneF_ex (es := 1) (bytes := 8) (R := rs RT) (by cases RT <;> rfl) (by simp [capOk, hrl]; omega) (S.n + 1 + 1)
  have he60 : (cfg w).ext 60 = some (.push (cloneF 10 128)) := by rw [cfgP_ext]; exact h60
  have he61 : (cfg w).ext 61 = some (.push (cloneF 1 8)) := by rw [cfgP_ext]; exact h61
  have hX0 := @opX_push (cfg w) (lim (cfg w)) 32 1 (fn := 60) (F := cloneF 10 128) (he := he60)
  have hX1 := @opX_push (cfg w) (lim (cfg w)) 32 1 (fn := 61) (F := cloneF 1 8) (he := he61)
  unfold arV arC
  simp only
  refine call_of_W (fn32 w) rfl ?_
  simp only [Tryd.f32, List.length_cons, List.length_nil, Nat.reduceAdd, Nat.reduceSub, List.cons_append, List.nil_append]
  repeat with_reducible (first | apply E0 | apply E1 | apply E2 | apply E3 | apply E4 | refine E5 (by decide) ?_ | apply E6 | apply E7 | apply E8 | apply E9 | apply Ea | apply Eb | apply Ec | apply Ed)
  refine W_region fun K hK => ?_
  simp only [KA, KB, KP, KQ, KM, simprocAttr, KT w, KI, hw.KF, hok, hb]
  refine hK _ _ ?_
  clear hK
  clear K
  repeat with_reducible (first | apply E0 | apply E1 | apply E2 | apply E3 | apply E4 | refine E5 (by decide) ?_ | apply E6 | apply E7 | apply E8 | apply E9 | apply Ea | apply Eb | apply Ec | apply Ed)
  obtain ⟨mv1, lf1, cl1⟩ := cloneF_mv (S := S.push (.row [.vec (SL.map slCan), .int .i64 (optI FR), .vec (rs RT)] false)) (by rw [St.pushN]; exact hc1)
  obtain ⟨mv2, lf2, cl2⟩ := cloneF_mv (S := (S.push (.row [.vec (SL.map slCan), .int .i64 (optI FR), .vec (rs RT)] false)).push o1) (by rw [St.pushN, St.pushN]; exact hc2)
  refine W_regionD [[], [0], [1, 0], [], [3], [4, 3, 2, 1, 0], [0, 1, 2, 3, 4], [6, 0, 1, 2, 3, 4, 5], [0, 1, 2, 3, 4, 5, 6, 7], [8, 0, 1, 2, 3, 4, 5, 6, 7]] (by decide +kernel) (by decide +kernel) (by decide +kernel) fun K hK => ?_
  simp only [KA, KB, KP, KQ, KM, simprocAttr, KT w, KI, hw.KF, A58, A59, A5a, A5b, A5c, A5d, A5e, A5f, A5g, A5h, KX, Foot.big, A5i, opP, rfoot, refsO, refs, wfoot, A5j, A5k, noisyOk, pairOk, Foot.isQuiet, Foot.apart, Ft.apart, Foot.none, A5l, A5m, A48, A49, A5n, A5o, A5p, A5q, Nat.reduceBEq, hX0, hX1, pushP_some, hc1, hc2, lf1, cl1, lf2, cl2, hok, hb, A3p, splice]
  refine hK _ _ ?_
  clear hK
  clear K
  repeat with_reducible (first | apply E0 | apply E1 | apply E2 | apply E3 | apply E4 | refine E5 (by decide) ?_ | apply E6 | apply E7 | apply E8 | apply E9 | apply Ea | apply Eb | apply Ec | apply Ed)
  obtain ⟨mw1, -, -⟩ := cloneF_mv (S := S.push (.row [v1, .int .i64 (optI FR), v2] false)) (by rw [St.pushN]; exact hc1)
  obtain ⟨mw2, -, -⟩ := cloneF_mv (S := (S.push (.row [v1, .int .i64 (optI FR), v2] false)).push o1) (by rw [St.pushN, St.pushN]; exact hc2)
  have mw1' : MV 10 v1 (SL.map slCan) (((S.push (.row [v1, .int .i64 (optI FR), v2] false)).push o1).push o2) := mw1.kp (by simp only [St.pushN]; omega) fun q g rows e hq hg => by rw [St.get_pushn (by simp only [St.pushN] at hq ⊢; omega)]; exact hg
  have ext1 : Ext S (((S.push (.row [v1, .int .i64 (optI FR), v2] false)).push o1).push o2) := (((⟨hok, rfl, Nat.le_refl _, fun q x _ h => h⟩ : Ext S S).push _).push _).push _
  have gN : (((S.push (.row [v1, .int .i64 (optI FR), v2] false)).push o1).push o2).get S.n = some (.row [v1, .int .i64 (optI FR), v2] false) := by
    rw [St.get_pushn (by simp only [St.pushN]; omega), St.get_pushn (by simp only [St.pushN]; omega)]; exact St.get_pushe
  have n1 : (((S.push (.row [v1, .int .i64 (optI FR), v2] false)).push o1).push o2).n = S.n + 3 := by simp only [St.pushN]
  obtain ⟨N, hN⟩ : ∃ N, S.n = N := ⟨_, rfl⟩
  rw [hN] at gN n1
  try rw [hN]
  generalize ((S.push (.row [v1, .int .i64 (optI FR), v2] false)).push o1).push o2 = T1 at *
  have ok1 := ext1.ok
  have b1 : T1.base = 0 := by rw [ext1.base]; exact hb
  have hal := mw1'.alen (w := w) (t := 22) (e := 60) (Tk22 w)
  rw [hsl] at hal
  refine W_region fun K hK => ?_
  simp only [KA, KB, KP, KQ, KM, simprocAttr, KT w, KI, hw.KF, gN, ok1, b1, n1, A3p, splice]
  refine hK _ _ ?_
  clear hK
  clear K
  repeat with_reducible (first | apply E0 | apply E1 | apply E2 | apply E3 | apply E4 | refine E5 (by decide) ?_ | apply E6 | apply E7 | apply E8 | apply E9 | apply Ea | apply Eb | apply Ec | apply Ed)
  have gN2 : ((T1.push (.map [] 0)).push (.row [v1, .int .i64 (optI FR), v2, .map (N + 3), .bool false] false)).get N = some (.row [v1, .int .i64 (optI FR), v2] false) := by
    rw [St.get_pushn (by rw [St.pushN]; omega), St.get_pushn (by omega)]; exact gN
  have gm2 : ((T1.push (.map [] 0)).push (.row [v1, .int .i64 (optI FR), v2, .map (N + 3), .bool false] false)).get (N + 3) = some (.map [] 0) := by
    rw [St.get_pushn (by rw [St.pushN]; omega), ← n1]; exact St.get_pushe
  have go2 : ((T1.push (.map [] 0)).push (.row [v1, .int .i64 (optI FR), v2, .map (N + 3), .bool false] false)).get (N + 4) = some (.row [v1, .int .i64 (optI FR), v2, .map (N + 3), .bool false] false) := St.get_pushq (by rw [St.pushN]; omega)
  have ext2 : Ext S ((T1.push (.map [] 0)).push (.row [v1, .int .i64 (optI FR), v2, .map (N + 3), .bool false] false)) := (ext1.push _).push _
  have n2 : ((T1.push (.map [] 0)).push (.row [v1, .int .i64 (optI FR), v2, .map (N + 3), .bool false] false)).n = N + 5 := by simp only [St.pushN]; omega
  have keep : ∀ q x, q < T1.n → T1.get q = some x → ((T1.push (.map [] 0)).push (.row [v1, .int .i64 (optI FR), v2, .map (N + 3), .bool false] false)).get q = some x := fun q x hq hx => by
    rw [St.get_pushn (by rw [St.pushN]; omega), St.get_pushn (by omega)]; exact hx
  have mx1 := mw1'.kp (S' := (T1.push (.map [] 0)).push (.row [v1, .int .i64 (optI FR), v2, .map (N + 3), .bool false] false)) (by omega) fun q g rows e hq hg => keep q _ hq hg
  have mx2 := mw2.kp (S' := (T1.push (.map [] 0)).push (.row [v1, .int .i64 (optI FR), v2, .map (N + 3), .bool false] false)) (by omega) fun q g rows e hq hg => keep q _ hq hg
  generalize (T1.push (.map [] 0)).push (.row [v1, .int .i64 (optI FR), v2, .map (N + 3), .bool false] false) = T2 at *
  have e4 : N + 3 + 1 = N + 4 := rfl
  rw [e4]
  have ok2 := ext2.ok
  have b2 : T2.base = 0 := by rw [ext2.base]; exact hb
  refine W_region fun K hK => ?_
  simp only [KA, KB, KP, KQ, KM, simprocAttr, KT w, KI, hw.KF, gN2, hal]
  refine hK _ _ ?_
  clear hK
  clear K
  repeat with_reducible (first | apply E0 | apply E1 | apply E2 | apply E3 | apply E4 | refine E5 (by decide) ?_ | apply E6 | apply E7 | apply E8 | apply E9 | apply Ea | apply Eb | apply Ec | apply Ed)
  refine W_loop (fun k0 fr T => Ext S T ∧ ∃ (tm : List AV) (j : Nat) (es : List (AV × AV × Nat)) (clock : Nat), fr = ⟨tm, [], none, 32⟩ ∧ k0 = SL.length - j ∧ j ≤ SL.length ∧ N + 4 < T.n ∧ T.get (N + 3) = some (.map es clock) ∧ T.get (N + 4) = some (.row [v1, .int .i64 (optI FR), v2, .map (N + 3), .bool false] false) ∧ MapOk es clock (SL.take j) ∧ MV 10 v1 (SL.map slCan) T ∧ MV 1 v2 (rs RT) T ∧
      tm.length = 38 ∧ tget tm 3 = .ptr (N + 4) 0 ∧ tget tm 19 = v1 ∧ tget tm 20 = .int .i64 (SL.length : Nat) ∧ tget tm 21 = .int .i64 (j : Nat)) SL.length
    ⟨ext2, _, 0, [], 0, rfl, by omega, by omega, by omega, gm2, go2, by rw [List.take_zero]; exact MapOk.nil, mx1, mx2, ?_⟩ ?_
  · simp only [KA, KP, KQ, simprocAttr, KT w, KI, hw.KF, Int.ofNat_zero]
    try simp
  rintro k0 fr T ⟨ET, tm, j, es, clock, rfl, rfl, hj, hTn, gm, go, hmok, mv10, mv1', htm, t3, t19, t20, t21⟩
  have okT := ET.ok
  have bT : T.base = 0 := by rw [ET.base]; exact hb
  repeat with_reducible (first | apply E0 | apply E1 | apply E2 | apply E3 | apply E4 | refine E5 (by decide) ?_ | apply E6 | apply E7 | apply E8 | apply E9 | apply Ea | apply Eb | apply Ec | apply Ed)
  by_cases hjl : (j : Int) < (SL.length : Int)
  case neg =>
    rw [List.take_of_length_le (by omega)] at hmok
    refine W_region fun K hK => ?_
    simp only [KA, KB, KP, KQ, KM, simprocAttr, KT w, KI, hw.KF, htm, t20, t21, hjl]
    refine hK _ _ ?_
    clear hK
    clear K
    repeat with_reducible (first | apply E0 | apply E1 | apply E2 | apply E3 | apply E4 | refine E5 (by decide) ?_ | apply E6 | apply E7 | apply E8 | apply E9 | apply Ea | apply Eb | apply Ec | apply Ed)
    refine W_condF (by simp only [KA, KP, KQ, simprocAttr, KT w, KI, hw.KF, htm]) ?_
    repeat with_reducible (first | apply E0 | apply E1 | apply E2 | apply E3 | apply E4 | refine E5 (by decide) ?_ | apply E6 | apply E7 | apply E8 | apply E9 | apply Ea | apply Eb | apply Ec | apply Ed)
    refine W_region fun K hK => ?_
    simp only [KA, KB, KP, KQ, KM, simprocAttr, KT w, KI, hw.KF, htm, t3]
    refine hK _ _ ?_
    clear hK
    clear K
    repeat with_reducible (first | apply E0 | apply E1 | apply E2 | apply E3 | apply E4 | refine E5 (by decide) ?_ | apply E6 | apply E7 | apply E8 | apply E9 | apply Ea | apply Eb | apply Ec | apply Ed)
    refine AtEnd_of rfl ?_
    simp only [KA, KP, KQ, simprocAttr, KT w, KI, hw.KF, htm, RS_some, aresults_nil, aresults_tmp, aresults_cell, one]
    exact ⟨N + 4, rfl, by omega, ⟨N + 3, v1, v2, _, es, clock, ⟨okT, bT, hTn, go, by omega, gm, hmok, mv10, SlRows.can SL, mv1'⟩⟩, ET⟩
  have hjn : j < SL.length := by omega
  obtain ⟨s, hs⟩ : ∃ s, SL[j]? = some s := ⟨_, List.getElem?_eq_getElem hjn⟩
  have hs0 := hz j s hs
  have hrow : (SL.map slCan)[j]? = some (slCan s) := by rw [List.getElem?_map, hs]; rfl
  have hj0 : (0 : Int) ≤ (j : Int) := by omega
  have hjm : (j : Int) < ((SL.map slCan).length : Int) := by rw [hsl]; exact hjl
  have hcl : (slCan s).length = 10 := rfl
  have hct : (slCan s).take 10 = slCan s := rfl
  have hcd : (slCan s).drop 10 = [] := rfl
  have hc8 : (slCan s)[8]? = some (.int .i64 (max s.refs 0)) := rfl
  have htk : SL.take (j + 1) = SL.take j ++ [s] := by rw [List.take_add_one, hs]; rfl
  have htl : (SL.take j).length = j := by rw [List.length_take]; omega
  have ej : IntKind.i64.wrap ((j : Int) + 1) = ((j + 1 : Nat) : Int) := by rw [i64_in _ (by omega)]; omega
  have hkf : keyF [.agg (slCan s)] = some (.agg (keyC s.key)) := keyF_eq (hK j s hs) (fs := s.fs) (l := s.kids) (.inr rfl) (.inl rfl)
  rcases mv10 with ⟨hR0, -⟩ | ⟨so, sg, rfl, hso, hsg⟩
  · have := congrArg List.length hR0
    rw [hsl, List.length_nil] at this; omega
  refine W_region fun K hK => ?_
  simp only [KA, KB, KP, KQ, KM, simprocAttr, KT w, KI, hw.KF, htm, t20, t21, hjl]
  refine hK _ _ ?_
  clear hK
  clear K
  repeat with_reducible (first | apply E0 | apply E1 | apply E2 | apply E3 | apply E4 | refine E5 (by decide) ?_ | apply E6 | apply E7 | apply E8 | apply E9 | apply Ea | apply Eb | apply Ec | apply Ed)
  refine W_condT (by simp only [KA, KP, KQ, simprocAttr, KT w, KI, hw.KF, htm]) ?_
  repeat with_reducible (first | apply E0 | apply E1 | apply E2 | apply E3 | apply E4 | refine E5 (by decide) ?_ | apply E6 | apply E7 | apply E8 | apply E9 | apply Ea | apply Eb | apply Ec | apply Ed)
  generalize slCan s = C at *
  refine W_region fun K hK => ?_
  simp only [KA, KB, KP, KQ, KM, simprocAttr, KT w, KI, hw.KF, htm, t19, t21, hsg, hj0, hjm, hsl, hjl, hrow, hcl, hct, hcd, okT, bT, A3p, splice]
  refine hK _ _ ?_
  clear hK
  clear K
  repeat with_reducible (first | apply E0 | apply E1 | apply E2 | apply E3 | apply E4 | refine E5 (by decide) ?_ | apply E6 | apply E7 | apply E8 | apply E9 | apply Ea | apply Eb | apply Ec | apply Ed)
  have g1 : (T.push (.row C false)).get T.n = some (.row C false) := St.get_pushe
  have kp1 : ∀ q x, q < T.n → T.get q = some x → (T.push (.row C false)).get q = some x := fun q x hq hx => by rw [St.get_pushn (by omega)]; exact hx
  have ext3 := ET.push (.row C false)
  have n1' : (T.push (.row C false)).n = T.n + 1 := St.pushN _ _
  have gm1 := kp1 _ _ (by omega) gm
  have go1 := kp1 _ _ (by omega) go
  have mvA : MV 10 (.sref so sg 0 (SL.map slCan).length) (SL.map slCan) (T.push (.row C false)) := .inr ⟨so, sg, rfl, by omega, kp1 _ _ hso hsg⟩
  have mvB := mv1'.kp (S' := T.push (.row C false)) (by omega) fun q g rows e hq hg => kp1 _ _ hq hg
  obtain ⟨TN, hTN⟩ : ∃ TN, T.n = TN := ⟨_, rfl⟩
  rw [hTN] at g1 n1' hTn
  try rw [hTN]
  generalize T.push (.row C false) = T3 at *
  have ok3 := ext3.ok
  have b3 : T3.base = 0 := by rw [ext3.base]; exact hb
  by_cases hr0 : s.refs = 0
  · have hle : ¬ (0 : Int) < max s.refs 0 := by omega
    refine W_region fun K hK => ?_
    simp only [KA, KB, KP, KQ, KM, simprocAttr, KT w, KI, hw.KF, htm, g1, hc8, hle]
    refine hK _ _ ?_
    clear hK
    clear K
    repeat with_reducible (first | apply E0 | apply E1 | apply E2 | apply E3 | apply E4 | refine E5 (by decide) ?_ | apply E6 | apply E7 | apply E8 | apply E9 | apply Ea | apply Eb | apply Ec | apply Ed)
    refine W_condF (by simp only [KA, KP, KQ, simprocAttr, KT w, KI, hw.KF, htm, hle]) ?_
    repeat with_reducible (first | apply E0 | apply E1 | apply E2 | apply E3 | apply E4 | refine E5 (by decide) ?_ | apply E6 | apply E7 | apply E8 | apply E9 | apply Ea | apply Eb | apply Ec | apply Ed)
    refine W_region fun K hK => ?_
    simp only [KA, KB, KP, KQ, KM, simprocAttr, KT w, KI, hw.KF, htm, t21, ej]
    refine hK _ _ ?_
    clear hK
    clear K
    refine ⟨SL.length - (j + 1), by omega, ext3, _, j + 1, es, clock, rfl, rfl, by omega, by omega, gm1, go1, ?_, mvA, mvB, ?_⟩
    · rw [htk]; exact hmok.snoc hr0
    · simp only [KA, KP, KQ, simprocAttr, KT w, KI, hw.KF, htm, t3, t19, t20]
  · have hle : (0 : Int) < max s.refs 0 := by omega
    obtain ⟨hfind, hadd⟩ := hmok.add (s := s) hr0 fun i u hu hur he => by
      have hij : i < j := by have := (List.getElem?_eq_some_iff.1 hu).1; rw [htl] at this; exact this
      rw [List.getElem?_take_of_lt hij] at hu
      have := hap i j u s hu hs hur hr0 he
      omega
    rw [htl, ← htk] at hadd
    have hfit := fits80 hw s.key
    have hkcl := keyC_len s.key
    generalize keyC s.key = KC at *
    have he46 : (cfg w).ext 46 = some (.val keyF) := by rw [cfgP_ext]; exact hkey
    have hX := @opX_extv (cfg w) (lim (cfg w)) 32 7 (fn := 46) (F := keyF) (he := he46)
    have hmu : amapUpdate (cfg w) T3 64 (.map (N + 3)) (.agg KC) (.int .i64 (j : Nat)) = some (T3.set (N + 3) (.map (es ++ [(.agg KC, .int .i64 (j : Nat), clock)]) (clock + 1))) := by
      simp only [amapUpdate, Tk64, hfit, if_true, gm1, hfind, Option.bind_some, St.putO, b3, Nat.zero_le]
    refine W_region fun K hK => ?_
    simp only [KA, KB, KP, KQ, KM, simprocAttr, KT w, KI, hw.KF, htm, g1, hc8, hle]
    refine hK _ _ ?_
    clear hK
    clear K
    repeat with_reducible (first | apply E0 | apply E1 | apply E2 | apply E3 | apply E4 | refine E5 (by decide) ?_ | apply E6 | apply E7 | apply E8 | apply E9 | apply Ea | apply Eb | apply Ec | apply Ed)
    refine W_condT (by simp only [KA, KP, KQ, simprocAttr, KT w, KI, hw.KF, htm, hle]) ?_
    repeat with_reducible (first | apply E0 | apply E1 | apply E2 | apply E3 | apply E4 | refine E5 (by decide) ?_ | apply E6 | apply E7 | apply E8 | apply E9 | apply Ea | apply Eb | apply Ec | apply Ed)
    refine W_regionD [[], [0], [1, 0], [2, 1, 0], [], [4], [], [3, 2, 1, 0, 5, 4, 6]] (by decide +kernel) (by decide +kernel) (by decide +kernel) fun K hK => ?_
    simp only [KA, KB, KP, KQ, KM, simprocAttr, KT w, KI, hw.KF, A58, A59, A5a, A5b, A5c, A5d, A5e, A5f, A5g, A5h, KX, Foot.big, A5i, opP, rfoot, refsO, refs, wfoot, A5j, A5k, noisyOk, pairOk, Foot.isQuiet, Foot.apart, Ft.apart, Foot.none, A5l, A5m, A48, A49, A5n, A5o, A5p, A5q, Nat.reduceBEq, hX, htm, t3, g1, go1, hcl, hct, hcd, hkf, hmu, ok3, b3]
    refine hK _ _ ?_
    clear hK
    clear K
    repeat with_reducible (first | apply E0 | apply E1 | apply E2 | apply E3 | apply E4 | refine E5 (by decide) ?_ | apply E6 | apply E7 | apply E8 | apply E9 | apply Ea | apply Eb | apply Ec | apply Ed)
    refine W_region fun K hK => ?_
    simp only [KA, KB, KP, KQ, KM, simprocAttr, KT w, KI, hw.KF, htm, t21, ej]
    refine hK _ _ ?_
    clear hK
    clear K
    have kp3 : ∀ q x, q < T3.n → q ≠ N + 3 → T3.get q = some x → (T3.set (N + 3) (.map (es ++ [(.agg KC, .int .i64 (j : Nat), clock)]) (clock + 1))).get q = some x := fun q x hq hne hx => by rw [St.get_setn (by omega) hne]; exact hx
    refine ⟨SL.length - (j + 1), by omega, ext3.set (by omega) (by omega) _, _, j + 1, _, _, rfl, rfl, by omega, by rw [St.setN]; omega, St.get_sete ok3 (by omega), kp3 _ _ (by omega) (by omega) go1, hadd, ?_, ?_, ?_⟩
    · exact mvA.kp (by rw [St.setN]; omega) fun q g rows e hq hg => kp3 q _ hq (fun e1 => by rw [e1, gm1] at hg; cases hg) hg
    · exact mvB.kp (by rw [St.setN]; omega) fun q g rows e hq hg => kp3 q _ hq (fun e1 => by rw [e1, gm1] at hg; cases hg) hg
    · simp only [KA, KP, KQ, simprocAttr, KT w, KI, hw.KF, htm, t3, t19, t20, t21]
end Go.Am.R
