/- within. -/
import Derived.Test.YtbmfnoaogebjfaaDoorV11
set_option linter.unusedSimpArgs false
set_option linter.unusedVariables false
set_option maxRecDepth 20000
namespace Go.Am.R
open Go.Proofs Go.IntWalk

variable {w : Ways}

/-- within's memory: the cell of the map, the arena, the cell of the function, the map. -/
structure Wi (a b c m : Nat) (A : Ar) (V : List Nat) (S : St) : Prop where
  ok : S.ok
  base : S.base = 0
  an : a < S.n
  bn : b < S.n
  cn : c < S.n
  mn : m < S.n
  ag : S.get a = some (.row [.map m] false)
  bg : S.get b = some (.row (arC A) false)
  cg : S.get c = some (.row [.fn 63 [] [.ptr a 0, .ptr b 0, .ptr c 0]] false)
  mg : S.get m = some (.map (ve V) V.length)
/-- Nothing but the map is changed. -/
structure Kw (m : Nat) (S S' : St) : Prop where
  n : S'.n = S.n
  get : ∀ q, q ≠ m → S'.get q = S.get q
theorem Kw.refl (m : Nat) (S : St) : Kw m S S := ⟨rfl, fun _ _ => rfl⟩
theorem Kw.trans {m : Nat} {A B C : St} (h : Kw m A B) (k : Kw m B C) : Kw m A C := ⟨k.n.trans h.n, fun q hq => (k.get q hq).trans (h.get q hq)⟩
theorem Wi.set {a b c m : Nat} {A : Ar} {V V' : List Nat} {S : St} (h : Wi a b c m A V S) : Wi a b c m A V' (S.set m (.map (ve V') V'.length)) ∧ Kw m S (S.set m (.map (ve V') V'.length)) := by
  have hne : ∀ q x, S.get q = some x → (∀ e cl, x ≠ AObj.map e cl) → q ≠ m := fun q x hq hx e => by subst e; rw [h.mg] at hq; cases hq; exact hx _ _ rfl
  have h1 := hne a _ h.ag (fun _ _ e => by cases e)
  have h2 := hne b _ h.bg (fun _ _ e => by cases e)
  have h3 := hne c _ h.cg (fun _ _ e => by cases e)
  refine ⟨⟨St.ok_set h.ok, by rw [St.setB]; exact h.base, by rw [St.setN]; exact h.an, by rw [St.setN]; exact h.bn, by rw [St.setN]; exact h.cn, by rw [St.setN]; exact h.mn, ?_, ?_, ?_, St.get_sete h.ok h.mn⟩, ⟨St.setN _ _ _, fun q hq => St.get_setn h.mn hq⟩⟩
  · rw [St.get_setn h.mn h1]; exact h.ag
  · rw [St.get_setn h.mn h2]; exact h.bg
  · rw [St.get_setn h.mn h3]; exact h.cg

theorem walk63 (hw : Std w) (A : Ar) (hl : A.slots.length ≤ 100000) (hkb : KidB A.slots) {a b c m : Nat} : ∀ (N : Nat) (t : Tr), t.size ≤ N → ∀ (i : Nat) (V : List Nat) (S : St), Is A.slots i t → V.Nodup → Wi a b c m A V S →
    CallQ (cfg w) 63 [.int .i64 (i : Nat), .ptr a 0, .ptr b 0, .ptr c 0] S fun v S' => ∃ V', Met A.slots V i V' ∧ Wi a b c m A V' S' ∧ Kw m S S' := by
  intro N
  induction N with
  | zero =>
    intro t ht
    cases t with
    | mk fs ts => rw [Tr.size] at ht; omega
  | succ N ihN =>
  intro t ht i V S hIs hV hW
  obtain ⟨fs, ts⟩ := t
  rw [Tr.size] at ht
  rw [Is] at hIs
  obtain ⟨s, hs, hs0, rfl, hIL⟩ := hIs
  have hil : i < A.slots.length := (List.getElem?_eq_some_iff.1 hs).1
  have hkk := (hkb i s hs).1
  have hrow : (A.slots.map slCan)[i]? = some (slCan s) := by rw [List.getElem?_map, hs]; rfl
  simp only [slCan, slC] at hrow
  have hsl : (A.slots.map slCan).length = A.slots.length := List.length_map _
  have hkl := ks_len s.kids
  obtain ⟨ok0, b0, an, bn, cn, mn, ag, bg, cg, mg⟩ := hW
  have hW : Wi a b c m A V S := ⟨ok0, b0, an, bn, cn, mn, ag, bg, cg, mg⟩
  have hi0 : ¬ (i : Int) < 0 := by omega
  have hi1 : (0 : Int) ≤ (i : Int) := by omega
  have hiL : (i : Int) < (A.slots.length : Int) := by omega
  have hfit : keyFits (cfg w) 3 (.int .i64 (i : Int)) = true := by simp only [keyFits, Tc3 w, Option.map_some]; rfl
  by_cases hiV : i ∈ V
  · obtain ⟨k, hf⟩ := ve_yes hiV
    have hlk : alookup (cfg w) S 76 (.map m) (.int .i64 (i : Int)) false = some (.bool true) := by
      simp only [alookup, Tk76 w, hfit, if_true, mg, Option.bind_some, hf, Option.map_some]
      rfl
    refine call_of_W (fn63 w) rfl ?_
    simp only [Tryd.f63, List.length_cons, List.length_nil, ↓reduceIte, Int.reduceLT, Int.reduceLE, Int.reduceAdd, Int.reduceSub, Int.reduceNeg, Int.reduceMul, Int.reduceToNat, Int.reduceEq, Int.reduceNe, Int.reduceGT, Int.reduceGE, Nat.reducePow, IntKind.bits, Nat.reduceAdd, Nat.reduceSub, List.cons_append, List.nil_append]
    repeat with_reducible (first | refine E0 ?_ | refine E1 ?_ | refine E2 ?_ | refine E3 ?_ | refine E4 ?_ | refine E5 (by decide) ?_ | refine E6 ?_ | refine E7 ?_ | refine E8 ?_ | refine E9 ?_ | refine Ea ?_ | refine Eb ?_ | refine Ec ?_ | refine Ed ?_)
    refine W_region fun K hK => ?_
    simp only [KA, KB, KP, KQ, KM, simprocAttr, KT w, KI, hw.KF, ag, hlk]
    refine hK _ _ ?_
    clear hK
    clear K
    repeat with_reducible (first | refine E0 ?_ | refine E1 ?_ | refine E2 ?_ | refine E3 ?_ | refine E4 ?_ | refine E5 (by decide) ?_ | refine E6 ?_ | refine E7 ?_ | refine E8 ?_ | refine E9 ?_ | refine Ea ?_ | refine Eb ?_ | refine Ec ?_ | refine Ed ?_)
    refine W_condT (by simp only [KA, KP, KQ, simprocAttr, KT w, KI, hw.KF]) ?_
    repeat with_reducible (first | refine E0 ?_ | refine E1 ?_ | refine E2 ?_ | refine E3 ?_ | refine E4 ?_ | refine E5 (by decide) ?_ | refine E6 ?_ | refine E7 ?_ | refine E8 ?_ | refine E9 ?_ | refine Ea ?_ | refine Eb ?_ | refine Ec ?_ | refine Ed ?_)
    refine AtEnd_of rfl ?_
    simp only [KA, KP, KQ, simprocAttr, KT w, KI, hw.KF, RS_some, aresults_nil, aresults_tmp, aresults_cell, one]
    exact ⟨V, .refl hV hiV, hW, .refl _ _⟩
  have hf := ve_no hiV
  have hlk : alookup (cfg w) S 76 (.map m) (.int .i64 (i : Int)) false = some (.bool false) := by
    simp only [alookup, Tk76 w, hfit, if_true, mg, Option.bind_some, hf, Option.map_some, zeroOf, Tc4 w, isAggK]
    rfl
  have hup : amapUpdate (cfg w) S 76 (.map m) (.int .i64 (i : Int)) (.bool true) = some (S.set m (.map (ve (V ++ [i])) (V ++ [i]).length)) := by
    simp only [amapUpdate, Tk76 w, hfit, if_true, mg, Option.bind_some, hf, St.putO, b0, Nat.zero_le, ve_snoc, List.length_append, List.length_cons, List.length_nil]
  obtain ⟨hW1, hK1⟩ := hW.set (V' := V ++ [i])
  have hM1 := Mid.start (S := A.slots) (s := s) hV hiV
  generalize S.set m (.map (ve (V ++ [i])) (V ++ [i]).length) = S1 at *
  have bg1 := hW1.bg
  refine call_of_W (fn63 w) rfl ?_
  simp only [Tryd.f63, List.length_cons, List.length_nil, ↓reduceIte, Int.reduceLT, Int.reduceLE, Int.reduceAdd, Int.reduceSub, Int.reduceNeg, Int.reduceMul, Int.reduceToNat, Int.reduceEq, Int.reduceNe, Int.reduceGT, Int.reduceGE, Nat.reducePow, IntKind.bits, Nat.reduceAdd, Nat.reduceSub, List.cons_append, List.nil_append]
  repeat with_reducible (first | refine E0 ?_ | refine E1 ?_ | refine E2 ?_ | refine E3 ?_ | refine E4 ?_ | refine E5 (by decide) ?_ | refine E6 ?_ | refine E7 ?_ | refine E8 ?_ | refine E9 ?_ | refine Ea ?_ | refine Eb ?_ | refine Ec ?_ | refine Ed ?_)
  refine W_region fun K hK => ?_
  simp only [KA, KB, KP, KQ, KM, simprocAttr, KT w, KI, hw.KF, ag, hlk]
  refine hK _ _ ?_
  clear hK
  clear K
  repeat with_reducible (first | refine E0 ?_ | refine E1 ?_ | refine E2 ?_ | refine E3 ?_ | refine E4 ?_ | refine E5 (by decide) ?_ | refine E6 ?_ | refine E7 ?_ | refine E8 ?_ | refine E9 ?_ | refine Ea ?_ | refine Eb ?_ | refine Ec ?_ | refine Ed ?_)
  refine W_condF (by simp only [KA, KP, KQ, simprocAttr, KT w, KI, hw.KF]) ?_
  repeat with_reducible (first | refine E0 ?_ | refine E1 ?_ | refine E2 ?_ | refine E3 ?_ | refine E4 ?_ | refine E5 (by decide) ?_ | refine E6 ?_ | refine E7 ?_ | refine E8 ?_ | refine E9 ?_ | refine Ea ?_ | refine Eb ?_ | refine Ec ?_ | refine Ed ?_)
  refine W_region fun K hK => ?_
  simp only [KA, KB, KP, KQ, KM, simprocAttr, KT w, KI, hw.KF, ag, hup]
  refine hK _ _ ?_
  clear hK
  clear K
  repeat with_reducible (first | refine E0 ?_ | refine E1 ?_ | refine E2 ?_ | refine E3 ?_ | refine E4 ?_ | refine E5 (by decide) ?_ | refine E6 ?_ | refine E7 ?_ | refine E8 ?_ | refine E9 ?_ | refine Ea ?_ | refine Eb ?_ | refine Ec ?_ | refine Ed ?_)
  have harc : arC A = [.vec (A.slots.map slCan), .int .i64 (optI A.free), .vec (rs A.roots)] := rfl
  rw [harc] at bg1
  refine W_region fun K hK => ?_
  simp only [KA, KB, KP, KQ, KM, simprocAttr, KT w, KI, hw.KF, bg1, hi0, hi1, hiL, hrow, hsl, hkl]
  refine hK _ _ ?_
  clear hK
  clear K
  repeat with_reducible (first | refine E0 ?_ | refine E1 ?_ | refine E2 ?_ | refine E3 ?_ | refine E4 ?_ | refine E5 (by decide) ?_ | refine E6 ?_ | refine E7 ?_ | refine E8 ?_ | refine E9 ?_ | refine Ea ?_ | refine Eb ?_ | refine Ec ?_ | refine Ed ?_)
  refine W_loop (fun k0 fr T => ∃ (tm : List AV) (j : Nat) (V' : List Nat), fr = ⟨tm, [], none, 63⟩ ∧ k0 = s.kids.length - j ∧ j ≤ s.kids.length ∧ Mid A.slots V i s j V' ∧ Wi a b c m A V' T ∧ Kw m S T ∧
      tm.length = 27 ∧ tget tm 1 = .ptr a 0 ∧ tget tm 2 = .ptr b 0 ∧ tget tm 3 = .ptr c 0 ∧ tget tm 17 = .vec (ks s.kids) ∧ tget tm 18 = .int .i64 (s.kids.length : Nat) ∧ tget tm 19 = .int .i64 (j : Nat)) s.kids.length
    ⟨_, 0, V ++ [i], rfl, rfl, Nat.zero_le _, hM1, hW1, hK1, ?_⟩ ?_
  · simp only [KA, KP, KQ, simprocAttr, KT w, KI, hw.KF, Int.ofNat_zero]
  rintro k0 fr T ⟨tm, j, V', rfl, rfl, hj, hM, hWT, hKT, htm, t1, t2, t3, t17, t18, t19⟩
  repeat with_reducible (first | refine E0 ?_ | refine E1 ?_ | refine E2 ?_ | refine E3 ?_ | refine E4 ?_ | refine E5 (by decide) ?_ | refine E6 ?_ | refine E7 ?_ | refine E8 ?_ | refine E9 ?_ | refine Ea ?_ | refine Eb ?_ | refine Ec ?_ | refine Ed ?_)
  by_cases hjl : (j : Int) < (s.kids.length : Int)
  case neg =>
    have hje : j = s.kids.length := by omega
    rw [hje] at hM
    refine W_region fun K hK => ?_
    simp only [KA, KB, KP, KQ, KM, simprocAttr, KT w, KI, hw.KF, htm, t18, t19, hjl]
    refine hK _ _ ?_
    clear hK
    clear K
    repeat with_reducible (first | refine E0 ?_ | refine E1 ?_ | refine E2 ?_ | refine E3 ?_ | refine E4 ?_ | refine E5 (by decide) ?_ | refine E6 ?_ | refine E7 ?_ | refine E8 ?_ | refine E9 ?_ | refine Ea ?_ | refine Eb ?_ | refine Ec ?_ | refine Ed ?_)
    refine W_condF (by simp only [KA, KP, KQ, simprocAttr, KT w, KI, hw.KF, htm]) ?_
    repeat with_reducible (first | refine E0 ?_ | refine E1 ?_ | refine E2 ?_ | refine E3 ?_ | refine E4 ?_ | refine E5 (by decide) ?_ | refine E6 ?_ | refine E7 ?_ | refine E8 ?_ | refine E9 ?_ | refine Ea ?_ | refine Eb ?_ | refine Ec ?_ | refine Ed ?_)
    refine AtEnd_of rfl ?_
    simp only [KA, KP, KQ, simprocAttr, KT w, KI, hw.KF, htm, RS_some, aresults_nil, aresults_tmp, aresults_cell, one]
    exact ⟨V', hM.fin hs, hWT, hKT⟩
  obtain ⟨q, hq⟩ : ∃ q, s.kids[j]? = some q := ⟨_, List.getElem?_eq_getElem (by omega)⟩
  have hkq : (ks s.kids)[j]? = some [.int .i64 (q : Int)] := by rw [ks_get, hq]; rfl
  have hj0 : ¬ (j : Int) < 0 := by omega
  have e1 : IntKind.i64.wrap ((j : Int) + 1) = (j : Int) + 1 := i64_in _ (by omega)
  obtain ⟨u, hu, hIu⟩ := isL_mem ts s.kids hIL q (List.mem_of_getElem? hq)
  obtain ⟨v, S2, hcall, V2, hM2, hW2, hK2⟩ := ihN u (by have := size_mem hu; omega) q V' T hIu hM.nd hWT
  have hcf : callF (cfg w) (lim (cfg w)) 63 [.int .i64 (q : Nat), .ptr a 0, .ptr b 0, .ptr c 0] T = some (v, S2) := by
    rw [callF_raw (by exact hw.e63) (by exact hw.m63)]; exact hcall
  have cgT := hWT.cg
  refine W_region fun K hK => ?_
  simp only [KA, KB, KP, KQ, KM, simprocAttr, KT w, KI, hw.KF, htm, t18, t19, hjl]
  refine hK _ _ ?_
  clear hK
  clear K
  repeat with_reducible (first | refine E0 ?_ | refine E1 ?_ | refine E2 ?_ | refine E3 ?_ | refine E4 ?_ | refine E5 (by decide) ?_ | refine E6 ?_ | refine E7 ?_ | refine E8 ?_ | refine E9 ?_ | refine Ea ?_ | refine Eb ?_ | refine Ec ?_ | refine Ed ?_)
  refine W_condT (by simp only [KA, KP, KQ, simprocAttr, KT w, KI, hw.KF, htm]) ?_
  repeat with_reducible (first | refine E0 ?_ | refine E1 ?_ | refine E2 ?_ | refine E3 ?_ | refine E4 ?_ | refine E5 (by decide) ?_ | refine E6 ?_ | refine E7 ?_ | refine E8 ?_ | refine E9 ?_ | refine Ea ?_ | refine Eb ?_ | refine Ec ?_ | refine Ed ?_)
  refine W_region fun K hK => ?_
  simp only [KA, KB, KP, KQ, KM, simprocAttr, KT w, KI, hw.KF, htm, t17, t19, hkq, hj0]
  refine hK _ _ ?_
  clear hK
  clear K
  repeat with_reducible (first | refine E0 ?_ | refine E1 ?_ | refine E2 ?_ | refine E3 ?_ | refine E4 ?_ | refine E5 (by decide) ?_ | refine E6 ?_ | refine E7 ?_ | refine E8 ?_ | refine E9 ?_ | refine Ea ?_ | refine Eb ?_ | refine Ec ?_ | refine Ed ?_)
  refine W_region fun K hK => ?_
  simp only [KA, KB, KP, KQ, KM, simprocAttr, KT w, KI, hw.KF, htm, t3, cgT, hcf]
  refine hK _ _ ?_
  clear hK
  clear K
  repeat with_reducible (first | refine E0 ?_ | refine E1 ?_ | refine E2 ?_ | refine E3 ?_ | refine E4 ?_ | refine E5 (by decide) ?_ | refine E6 ?_ | refine E7 ?_ | refine E8 ?_ | refine E9 ?_ | refine Ea ?_ | refine Eb ?_ | refine Ec ?_ | refine Ed ?_)
  refine W_region fun K hK => ?_
  simp only [KA, KB, KP, KQ, KM, simprocAttr, KT w, KI, hw.KF, htm, t19, e1]
  refine hK _ _ ?_
  clear hK
  clear K
  refine ⟨s.kids.length - (j + 1), by omega, _, j + 1, V2, rfl, rfl, by omega, hM.next hs hq hM2, hW2, hKT.trans hK2, ?_⟩
  simp only [KA, KP, KQ, simprocAttr, KT w, KI, hw.KF, htm, t1, t2, t3, t17, t18, Int.natCast_add, A3z]
end Go.Am.R

/- within, called. -/
set_option linter.unusedSimpArgs false
set_option linter.unusedVariables false
set_option maxRecDepth 20000
namespace Go.Am.R
open Go.Proofs Go.IntWalk

variable {w : Ways}

theorem within44 (hw : Std w) (A : Ar) (hl : A.slots.length ≤ 100000) (hkb : KidB A.slots) {i : Nat} {t : Tr} (hIs : Is A.slots i t) (S : St) (hok : S.ok) (hb : S.base = 0) :
    CallQ (cfg w) 44 [arV A, .int .i64 (i : Nat)] S fun v S' => ∃ m V, v = .map m ∧ S'.get m = some (.map (ve V) V.length) ∧ Met A.slots [] i V := by
  have harv : arV A = .agg (arC A) := rfl
  have acl : (arC A).length = 3 := rfl
  rw [harv]
  refine call_of_W (fn44 w) rfl ?_
  simp only [Tryd.f44, List.length_cons, List.length_nil, ↓reduceIte, Int.reduceLT, Int.reduceLE, Int.reduceAdd, Int.reduceSub, Int.reduceNeg, Int.reduceMul, Int.reduceToNat, Int.reduceEq, Int.reduceNe, Int.reduceGT, Int.reduceGE, Nat.reducePow, IntKind.bits, Nat.reduceAdd, Nat.reduceSub, List.cons_append, List.nil_append]
  repeat with_reducible (first | refine E0 ?_ | refine E1 ?_ | refine E2 ?_ | refine E3 ?_ | refine E4 ?_ | refine E5 (by decide) ?_ | refine E6 ?_ | refine E7 ?_ | refine E8 ?_ | refine E9 ?_ | refine Ea ?_ | refine Eb ?_ | refine Ec ?_ | refine Ed ?_)
  refine W_region fun K hK => ?_
  simp only [KA, KB, KP, KQ, KM, simprocAttr, KT w, KI, hw.KF, hok, hb, acl]
  refine hK _ _ ?_
  clear hK
  clear K
  repeat with_reducible (first | refine E0 ?_ | refine E1 ?_ | refine E2 ?_ | refine E3 ?_ | refine E4 ?_ | refine E5 (by decide) ?_ | refine E6 ?_ | refine E7 ?_ | refine E8 ?_ | refine E9 ?_ | refine Ea ?_ | refine Eb ?_ | refine Ec ?_ | refine Ed ?_)
  have ok1 : (S.push (.row (arC A) false)).ok := St.ok_push hok
  have b1 : (S.push (.row (arC A) false)).base = 0 := by rw [St.pushB]; exact hb
  have n1 : (S.push (.row (arC A) false)).n = S.n + 1 := St.pushN _ _
  have g1 : (S.push (.row (arC A) false)).get S.n = some (.row (arC A) false) := St.get_pushe
  generalize S.push (.row (arC A) false) = S1 at *
  generalize S.n = N at *
  refine W_region fun K hK => ?_
  simp only [KA, KB, KP, KQ, KM, simprocAttr, KT w, KI, hw.KF, ok1, b1, n1, A3p, splice]
  refine hK _ _ ?_
  clear hK
  clear K
  repeat with_reducible (first | refine E0 ?_ | refine E1 ?_ | refine E2 ?_ | refine E3 ?_ | refine E4 ?_ | refine E5 (by decide) ?_ | refine E6 ?_ | refine E7 ?_ | refine E8 ?_ | refine E9 ?_ | refine Ea ?_ | refine Eb ?_ | refine Ec ?_ | refine Ed ?_)
  have ok2 : ((S1.push (.map [] 0)).push (.row [.map (N + 1)] false)).ok := St.ok_push (St.ok_push ok1)
  have b2 : ((S1.push (.map [] 0)).push (.row [.map (N + 1)] false)).base = 0 := by rw [St.pushB, St.pushB]; exact b1
  have n2 : ((S1.push (.map [] 0)).push (.row [.map (N + 1)] false)).n = N + 3 := by rw [St.pushN, St.pushN]; omega
  have g21 : ((S1.push (.map [] 0)).push (.row [.map (N + 1)] false)).get N = some (.row (arC A) false) := by
    rw [St.get_pushn (by rw [St.pushN]; omega), St.get_pushn (by omega)]; exact g1
  have g22 : ((S1.push (.map [] 0)).push (.row [.map (N + 1)] false)).get (N + 1) = some (.map [] 0) := by
    rw [St.get_pushn (by rw [St.pushN]; omega)]; exact St.get_pushq n1.symm
  have g23 : ((S1.push (.map [] 0)).push (.row [.map (N + 1)] false)).get (N + 2) = some (.row [.map (N + 1)] false) := St.get_pushq (by rw [St.pushN]; omega)
  generalize (S1.push (.map [] 0)).push (.row [.map (N + 1)] false) = S2 at *
  refine W_region fun K hK => ?_
  simp only [KA, KB, KP, KQ, KM, simprocAttr, KT w, KI, hw.KF, ok2, b2, n2, A3p]
  refine hK _ _ ?_
  clear hK
  clear K
  repeat with_reducible (first | refine E0 ?_ | refine E1 ?_ | refine E2 ?_ | refine E3 ?_ | refine E4 ?_ | refine E5 (by decide) ?_ | refine E6 ?_ | refine E7 ?_ | refine E8 ?_ | refine E9 ?_ | refine Ea ?_ | refine Eb ?_ | refine Ec ?_ | refine Ed ?_)
  refine W_region fun K hK => ?_
  simp only [KA, KB, KP, KQ, KM, simprocAttr, KT w, KI, hw.KF, ok2, b2, n2, A3p, splice]
  refine hK _ _ ?_
  clear hK
  clear K
  repeat with_reducible (first | refine E0 ?_ | refine E1 ?_ | refine E2 ?_ | refine E3 ?_ | refine E4 ?_ | refine E5 (by decide) ?_ | refine E6 ?_ | refine E7 ?_ | refine E8 ?_ | refine E9 ?_ | refine Ea ?_ | refine Eb ?_ | refine Ec ?_ | refine Ed ?_)
  have hW : Wi (N + 1 + 1) N (N + 3) (N + 1) A [] (S2.push (.row [.fn 63 [] [.ptr (N + 1 + 1) 0, .ptr N 0, .ptr (N + 3) 0]] false)) := by
    refine ⟨St.ok_push ok2, by rw [St.pushB]; exact b2, by rw [St.pushN]; omega, by rw [St.pushN]; omega, by rw [St.pushN]; omega, by rw [St.pushN]; omega, ?_, ?_, St.get_pushq (by omega), ?_⟩
    · rw [St.get_pushn (by omega)]; exact g23
    · rw [St.get_pushn (by omega)]; exact g21
    · rw [St.get_pushn (by omega)]; exact g22
  generalize S2.push (.row [.fn 63 [] [.ptr (N + 1 + 1) 0, .ptr N 0, .ptr (N + 3) 0]] false) = S3 at *
  obtain ⟨v, S4, hcall, V, hM, hW4, hK⟩ := walk63 hw A hl hkb t.size t (Nat.le_refl _) i [] S3 hIs List.nodup_nil hW
  have hcf : callF (cfg w) (lim (cfg w)) 63 [.int .i64 (i : Nat), .ptr (N + 1 + 1) 0, .ptr N 0, .ptr (N + 3) 0] S3 = some (v, S4) := by
    rw [callF_raw (by exact hw.e63) (by exact hw.m63)]; exact hcall
  have cg := hW.cg
  have ag4 := hW4.ag
  refine W_region fun K hK => ?_
  simp only [KA, KB, KP, KQ, KM, simprocAttr, KT w, KI, hw.KF, cg, hcf]
  refine hK _ _ ?_
  clear hK
  clear K
  repeat with_reducible (first | refine E0 ?_ | refine E1 ?_ | refine E2 ?_ | refine E3 ?_ | refine E4 ?_ | refine E5 (by decide) ?_ | refine E6 ?_ | refine E7 ?_ | refine E8 ?_ | refine E9 ?_ | refine Ea ?_ | refine Eb ?_ | refine Ec ?_ | refine Ed ?_)
  refine W_region fun K hK => ?_
  simp only [KA, KB, KP, KQ, KM, simprocAttr, KT w, KI, hw.KF, ag4]
  refine hK _ _ ?_
  clear hK
  clear K
  repeat with_reducible (first | refine E0 ?_ | refine E1 ?_ | refine E2 ?_ | refine E3 ?_ | refine E4 ?_ | refine E5 (by decide) ?_ | refine E6 ?_ | refine E7 ?_ | refine E8 ?_ | refine E9 ?_ | refine Ea ?_ | refine Eb ?_ | refine Ec ?_ | refine Ed ?_)
  refine AtEnd_of rfl ?_
  simp only [KA, KP, KQ, simprocAttr, KT w, KI, hw.KF, RS_some, aresults_nil, aresults_tmp, aresults_cell, one]
  exact ⟨N + 1, V, rfl, hW4.mg, hM⟩
end Go.Am.R

