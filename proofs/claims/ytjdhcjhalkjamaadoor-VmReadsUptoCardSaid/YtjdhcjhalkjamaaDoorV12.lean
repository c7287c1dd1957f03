/- PRINTED, BY THE BOOK. -/
import Derived.Test.YtjdhcjhalkjamaaDoorV2
import Derived.Test.YtjdhcjhalkjamaaDoorR2
set_option linter.unusedSimpArgs false
set_option linter.unusedVariables false
set_option maxRecDepth 20000
namespace Go.Am.V
open Go.Proofs Go.IntWalk

variable {w : Ways}

theorem lit1 {c : Cfg} {e : TypeId} {n : Int} {s d : TypeId} {i j ei : Ty} (hs : c.ty s = some i) (hd : c.ty d = some j) (hi : i.kind = .slice e) (hj : j.kind = .str) (he : c.ty e = some ei) (hk : ei.kind = .int .u8) (h0 : 0 ≤ n) (h1 : n < 256) :
    aconv c s d (.lit [[.int .u8 n]]) = some (.str [UInt8.ofNat n.toNat]) := by
  simp [aconv, hs, hd, hi, hj, he, hk, h0, h1]

theorem digits29a (hw : Std w) (n : Int) (h0 : 0 ≤ n) (h1 : n < 10) : PC (cfg w) 29 [.int .i64 n] (.str [UInt8.ofNat (48 + n).toNat]) := by
  refine PC_of (args' := [.int .i64 n]) hw.e29 hw.m29 rfl ?_
  have e1 : IntKind.i64.wrap (48 + n) = 48 + n := i64_in _ (by omega)
  have e2 : IntKind.u8.wrap (48 + n) = 48 + n := by
    simp only [IntKind.wrap, IntKind.signed, IntKind.bits]; simp; omega
  have hc := lit1 (n := 48 + n) (Tc84 w) (Tc9 w) rfl rfl (Tc5 w) rfl (by omega) (by omega)
  refine call_of_W (fn29 w) rfl ?_
  simp only [Tryd.f29, List.length_cons, List.length_nil, ↓reduceIte, Int.reduceLT, Int.reduceLE, Int.reduceAdd, Int.reduceSub, Int.reduceNeg, Int.reduceMul, Int.reduceToNat, Int.reduceEq, Int.reduceNe, Int.reduceGT, Int.reduceGE, Nat.reducePow, IntKind.bits, Nat.reduceAdd, Nat.reduceSub, List.cons_append, List.nil_append]
  repeat with_reducible (first | refine E0 ?_ | refine E1 ?_ | refine E2 ?_ | refine E3 ?_ | refine E4 ?_ | refine E5 (by decide) ?_ | refine E6 ?_ | refine E7 ?_ | refine E8 ?_ | refine E9 ?_ | refine Ea ?_ | refine Eb ?_ | refine Ec ?_ | refine Ed ?_)
  refine W_region fun K hK => ?_
  simp only [KA, KB, KP, KQ, simprocAttr, KT w, KI, hw.KF]
  refine hK _ _ ?_
  clear hK
  clear K
  repeat with_reducible (first | refine E0 ?_ | refine E1 ?_ | refine E2 ?_ | refine E3 ?_ | refine E4 ?_ | refine E5 (by decide) ?_ | refine E6 ?_ | refine E7 ?_ | refine E8 ?_ | refine E9 ?_ | refine Ea ?_ | refine Eb ?_ | refine Ec ?_ | refine Ed ?_)
  refine W_region fun K hK => ?_
  simp only [KA, KB, KP, KQ, simprocAttr, KT w, KI, hw.KF, h1]
  refine hK _ _ ?_
  clear hK
  clear K
  repeat with_reducible (first | refine E0 ?_ | refine E1 ?_ | refine E2 ?_ | refine E3 ?_ | refine E4 ?_ | refine E5 (by decide) ?_ | refine E6 ?_ | refine E7 ?_ | refine E8 ?_ | refine E9 ?_ | refine Ea ?_ | refine Eb ?_ | refine Ec ?_ | refine Ed ?_)
  refine W_condT (by simp only [KA, KP, KQ, simprocAttr, KT w, KI, hw.KF, h1]) ?_
  repeat with_reducible (first | refine E0 ?_ | refine E1 ?_ | refine E2 ?_ | refine E3 ?_ | refine E4 ?_ | refine E5 (by decide) ?_ | refine E6 ?_ | refine E7 ?_ | refine E8 ?_ | refine E9 ?_ | refine Ea ?_ | refine Eb ?_ | refine Ec ?_ | refine Ed ?_)
  have q0 : 0 ≤ 48 + n := by omega
  have q1 : 48 + n < 256 := by omega
  refine W_region fun K hK => ?_
  simp only [KA, KB, KP, KQ, reduceCtorEq, ↓reduceIte, Int.reduceLT, Int.reduceLE, Int.reduceAdd, Int.reduceSub, Int.reduceNeg, Int.reduceMul, Int.reduceToNat, Int.reduceEq, Int.reduceNe, Int.reduceGT, Int.reduceGE, Nat.reducePow, Nat.reduceAdd, Nat.reduceSub, Nat.reduceLT, Nat.reduceMul, Nat.reduceDiv, Nat.reduceEqDiff, Nat.reduceLeDiff, KT w, KI, hw.KF, e1, e2, hc, q0, q1]
  refine hK _ _ ?_
  clear hK
  clear K
  repeat with_reducible (first | refine E0 ?_ | refine E1 ?_ | refine E2 ?_ | refine E3 ?_ | refine E4 ?_ | refine E5 (by decide) ?_ | refine E6 ?_ | refine E7 ?_ | refine E8 ?_ | refine E9 ?_ | refine Ea ?_ | refine Eb ?_ | refine Ec ?_ | refine Ed ?_)
  refine AtEnd_of rfl ?_
  simp only [KA, KP, KQ, simprocAttr, KT w, KI, hw.KF, RS_some, aresults_nil, aresults_tmp, aresults_cell, one]
  exact FZ_str

theorem dig_step {m : Nat} (h0 : 10 ≤ m) (h1 : m < 1000) : dig m = dig (m / 10) ++ [UInt8.ofNat (48 + m % 10)] := by
  rw [← dig_eq h1, ← dig_eq (show m / 10 < 1000 by omega)]
  rw [Lib.decDigits, dif_neg (by omega)]

theorem digits29s (hw : Std w) (m : Nat) (h0 : 10 ≤ m) (h1 : m < 1000) (hd : PC (cfg w) 29 [.int .i64 (m / 10 : Nat)] (.str (dig (m / 10)))) : PC (cfg w) 29 [.int .i64 m] (.str (dig m)) := by
  refine PC_of (args' := [.int .i64 m]) hw.e29 hw.m29 rfl ?_
  rw [dig_step h0 h1]
  have e0 : ¬ ((m : Int) < 10) := by omega
  have e3 : IntKind.i64.wrap ((m : Int).tdiv 10) = ((m / 10 : Nat) : Int) := by
    rw [Int.tdiv_eq_ediv_of_nonneg (by omega), i64_in _ (by omega)]; omega
  have e4 : (m : Int).tmod 10 = ((m % 10 : Nat) : Int) := by
    rw [Int.tmod_eq_emod_of_nonneg (by omega)]; omega
  have e1 : IntKind.i64.wrap (48 + ((m % 10 : Nat) : Int)) = 48 + ((m % 10 : Nat) : Int) := i64_in _ (by omega)
  have e2 : IntKind.u8.wrap (48 + ((m % 10 : Nat) : Int)) = 48 + ((m % 10 : Nat) : Int) := by
    simp only [IntKind.wrap, IntKind.signed, IntKind.bits]; simp; omega
  have q0 : 0 ≤ 48 + ((m % 10 : Nat) : Int) := by omega
  have q1 : 48 + ((m % 10 : Nat) : Int) < 256 := by omega
  have e5 : (48 + ((m % 10 : Nat) : Int)).toNat = 48 + m % 10 := by omega
  have hl : ((dig (m / 10)).length : Int) + 1 ≤ maxI64 := by have := dig_len (m / 10); unfold maxI64; omega
  generalize dig (m / 10) = D at *
  generalize hr : m % 10 = r at *
  generalize hq : m / 10 = qq at *
  refine call_of_W (fn29 w) rfl ?_
  simp only [Tryd.f29, List.length_cons, List.length_nil, ↓reduceIte, Int.reduceLT, Int.reduceLE, Int.reduceAdd, Int.reduceSub, Int.reduceNeg, Int.reduceMul, Int.reduceToNat, Int.reduceEq, Int.reduceNe, Int.reduceGT, Int.reduceGE, Nat.reducePow, IntKind.bits, Nat.reduceAdd, Nat.reduceSub, List.cons_append, List.nil_append]
  repeat with_reducible (first | refine E0 ?_ | refine E1 ?_ | refine E2 ?_ | refine E3 ?_ | refine E4 ?_ | refine E5 (by decide) ?_ | refine E6 ?_ | refine E7 ?_ | refine E8 ?_ | refine E9 ?_ | refine Ea ?_ | refine Eb ?_ | refine Ec ?_ | refine Ed ?_)
  refine W_region fun K hK => ?_
  simp only [KA, KB, KP, KQ, simprocAttr, KT w, KI, hw.KF]
  refine hK _ _ ?_
  clear hK
  clear K
  repeat with_reducible (first | refine E0 ?_ | refine E1 ?_ | refine E2 ?_ | refine E3 ?_ | refine E4 ?_ | refine E5 (by decide) ?_ | refine E6 ?_ | refine E7 ?_ | refine E8 ?_ | refine E9 ?_ | refine Ea ?_ | refine Eb ?_ | refine Ec ?_ | refine Ed ?_)
  refine W_region fun K hK => ?_
  simp only [KA, KB, KP, KQ, simprocAttr, KT w, KI, hw.KF, e0]
  refine hK _ _ ?_
  clear hK
  clear K
  repeat with_reducible (first | refine E0 ?_ | refine E1 ?_ | refine E2 ?_ | refine E3 ?_ | refine E4 ?_ | refine E5 (by decide) ?_ | refine E6 ?_ | refine E7 ?_ | refine E8 ?_ | refine E9 ?_ | refine Ea ?_ | refine Eb ?_ | refine Ec ?_ | refine Ed ?_)
  refine W_condF (by simp only [KA, KP, KQ, simprocAttr, KT w, KI, hw.KF, e0]) ?_
  repeat with_reducible (first | refine E0 ?_ | refine E1 ?_ | refine E2 ?_ | refine E3 ?_ | refine E4 ?_ | refine E5 (by decide) ?_ | refine E6 ?_ | refine E7 ?_ | refine E8 ?_ | refine E9 ?_ | refine Ea ?_ | refine Eb ?_ | refine Ec ?_ | refine Ed ?_)
  refine W_regionQ (by decide +kernel) fun K hK => ?_
  simp only [KA, KB, KP, KQ, reduceCtorEq, ↓reduceIte, Int.reduceLT, Int.reduceLE, Int.reduceAdd, Int.reduceSub, Int.reduceNeg, Int.reduceMul, Int.reduceToNat, Int.reduceEq, Int.reduceNe, Int.reduceGT, Int.reduceGE, Nat.reducePow, Nat.reduceAdd, Nat.reduceSub, Nat.reduceLT, Nat.reduceMul, Nat.reduceDiv, Nat.reduceEqDiff, Nat.reduceLeDiff, KT w, KI, hw.KF, e1, e2, e3, e4, e5, q0, q1, hd, hl]
  refine hK _ _ ?_
  clear hK
  clear K
  repeat with_reducible (first | refine E0 ?_ | refine E1 ?_ | refine E2 ?_ | refine E3 ?_ | refine E4 ?_ | refine E5 (by decide) ?_ | refine E6 ?_ | refine E7 ?_ | refine E8 ?_ | refine E9 ?_ | refine Ea ?_ | refine Eb ?_ | refine Ec ?_ | refine Ed ?_)
  refine AtEnd_of rfl ?_
  simp only [KA, KP, KQ, simprocAttr, KT w, KI, hw.KF, RS_some, aresults_nil, aresults_tmp, aresults_cell, one]
  exact FZ_str

theorem digits29 (hw : Std w) (n : Int) (h0 : 0 ≤ n) (h1 : n ≤ 255) : PC (cfg w) 29 [.int .i64 n] (.str (dig n.toNat)) := by
  have ha : ∀ m : Nat, m < 10 → PC (cfg w) 29 [.int .i64 m] (.str (dig m)) := fun m hm => by
    have := digits29a hw (m : Int) (by omega) (by omega)
    have e : dig m = [UInt8.ofNat (48 + m)] := by unfold dig; rw [if_pos hm]
    rw [e]
    have e2 : (48 + (m : Int)).toNat = 48 + m := by omega
    rw [e2] at this
    exact this
  have hb : ∀ m : Nat, m < 100 → PC (cfg w) 29 [.int .i64 m] (.str (dig m)) := fun m hm => by
    by_cases h : m < 10
    · exact ha m h
    · exact digits29s hw m (by omega) (by omega) (ha _ (by omega))
  have hc : ∀ m : Nat, m < 1000 → PC (cfg w) 29 [.int .i64 m] (.str (dig m)) := fun m hm => by
    by_cases h : m < 100
    · exact hb m h
    · exact digits29s hw m (by omega) hm (hb _ (by omega))
  obtain ⟨m, rfl⟩ : ∃ m : Nat, n = (m : Int) := ⟨n.toNat, by omega⟩
  rw [Int.toNat_natCast]
  exact hc m (by omega)

theorem join_snoc (l : List (List UInt8)) (x sep : List UInt8) : Lib.join (l ++ [x]) sep = if l = [] then x else Lib.join l sep ++ sep ++ x := by
  cases l with
  | nil => simp [Lib.join_one]
  | cons y l =>
    rw [List.cons_append, Lib.join_cons, Lib.join_cons, if_neg (by simp)]
    simp [Lib.joinTail]

set_option maxHeartbeats 4000000 in
theorem print12 (hw : Std w) {p : List Ins} (hf : fitV p = true) : PC (cfg w) 12 [.vec (inRows p)] (.str (printV p)) := by
  refine PC_of (args' := [.vec (inRows p)]) hw.e12 hw.m12 (by simp [nrmA, nrmR_inRows, nrm]) ?_
  have hpl := fitV_len hf
  refine call_of_W (fn12 w) rfl ?_
  simp only [Tryd.f12, List.length_cons, List.length_nil, ↓reduceIte, Int.reduceLT, Int.reduceLE, Int.reduceAdd, Int.reduceSub, Int.reduceNeg, Int.reduceMul, Int.reduceToNat, Int.reduceEq, Int.reduceNe, Int.reduceGT, Int.reduceGE, Nat.reducePow, IntKind.bits, Nat.reduceAdd, Nat.reduceSub, List.cons_append, List.nil_append]
  repeat with_reducible (first | refine E0 ?_ | refine E1 ?_ | refine E2 ?_ | refine E3 ?_ | refine E4 ?_ | refine E5 (by decide) ?_ | refine E6 ?_ | refine E7 ?_ | refine E8 ?_ | refine E9 ?_ | refine Ea ?_ | refine Eb ?_ | refine Ec ?_ | refine Ed ?_)
  refine W_region fun K hK => ?_
  simp only [KA, KB, KP, KQ, simprocAttr, KT w, KI, hw.KF]
  refine hK _ _ ?_
  clear hK
  clear K
  repeat with_reducible (first | refine E0 ?_ | refine E1 ?_ | refine E2 ?_ | refine E3 ?_ | refine E4 ?_ | refine E5 (by decide) ?_ | refine E6 ?_ | refine E7 ?_ | refine E8 ?_ | refine E9 ?_ | refine Ea ?_ | refine Eb ?_ | refine Ec ?_ | refine Ed ?_)
  refine W_region fun K hK => ?_
  simp only [KA, KB, KP, KQ, simprocAttr, KT w, KI, hw.KF]
  refine hK _ _ ?_
  clear hK
  clear K
  repeat with_reducible (first | refine E0 ?_ | refine E1 ?_ | refine E2 ?_ | refine E3 ?_ | refine E4 ?_ | refine E5 (by decide) ?_ | refine E6 ?_ | refine E7 ?_ | refine E8 ?_ | refine E9 ?_ | refine Ea ?_ | refine Eb ?_ | refine Ec ?_ | refine Ed ?_)
  refine W_region fun K hK => ?_
  simp only [KA, KB, KP, KQ, simprocAttr, KT w, KI, hw.KF]
  refine hK _ _ ?_
  clear hK
  clear K
  repeat with_reducible (first | refine E0 ?_ | refine E1 ?_ | refine E2 ?_ | refine E3 ?_ | refine E4 ?_ | refine E5 (by decide) ?_ | refine E6 ?_ | refine E7 ?_ | refine E8 ?_ | refine E9 ?_ | refine Ea ?_ | refine Eb ?_ | refine Ec ?_ | refine Ed ?_)
  refine W_loop (fun k fr T => ∃ (tm : List AV) (j : Nat), fr = ⟨tm, [], none, 12⟩ ∧ k = p.length - j ∧ j ≤ p.length ∧ T.ok ∧ T.base = 0 ∧
      tm.length = 86 ∧ tget tm 0 = .vec (inRows p) ∧ tget tm 3 = .str (Lib.join ((p.take j).map insText) [59, 32]) ∧ tget tm 4 = .int .i64 (j : Nat)) p.length
    ⟨_, 0, rfl, rfl, by omega, St.ok_nil, St.nil_base, ?_⟩ ?_
  · simp only [KA, KP, KQ, simprocAttr, KT w, KI, hw.KF, Int.ofNat_zero, List.map_nil, Lib.join_nil]
  rintro k fr T ⟨tm, j, rfl, rfl, hj, hok, hb, htm, t0, t3, t4⟩
  repeat with_reducible (first | refine E0 ?_ | refine E1 ?_ | refine E2 ?_ | refine E3 ?_ | refine E4 ?_ | refine E5 (by decide) ?_ | refine E6 ?_ | refine E7 ?_ | refine E8 ?_ | refine E9 ?_ | refine Ea ?_ | refine Eb ?_ | refine Ec ?_ | refine Ed ?_)
  by_cases h1 : ((j : Int) < (p.length : Int))
  case neg =>
    have hje : j = p.length := by omega
    subst hje
    rw [List.take_length] at t3
    refine W_region fun K hK => ?_
    simp only [KA, KB, KP, KQ, simprocAttr, KT w, KI, hw.KF, htm, t0, t4, h1]
    refine hK _ _ ?_
    clear hK
    clear K
    repeat with_reducible (first | refine E0 ?_ | refine E1 ?_ | refine E2 ?_ | refine E3 ?_ | refine E4 ?_ | refine E5 (by decide) ?_ | refine E6 ?_ | refine E7 ?_ | refine E8 ?_ | refine E9 ?_ | refine Ea ?_ | refine Eb ?_ | refine Ec ?_ | refine Ed ?_)
    refine W_condF (by simp only [KA, KP, KQ, simprocAttr, KT w, KI, hw.KF, htm]) ?_
    repeat with_reducible (first | refine E0 ?_ | refine E1 ?_ | refine E2 ?_ | refine E3 ?_ | refine E4 ?_ | refine E5 (by decide) ?_ | refine E6 ?_ | refine E7 ?_ | refine E8 ?_ | refine E9 ?_ | refine Ea ?_ | refine Eb ?_ | refine Ec ?_ | refine Ed ?_)
    refine W_region fun K hK => ?_
    simp only [KA, KB, KP, KQ, simprocAttr, KT w, KI, hw.KF, htm, t3]
    refine hK _ _ ?_
    clear hK
    clear K
    repeat with_reducible (first | refine E0 ?_ | refine E1 ?_ | refine E2 ?_ | refine E3 ?_ | refine E4 ?_ | refine E5 (by decide) ?_ | refine E6 ?_ | refine E7 ?_ | refine E8 ?_ | refine E9 ?_ | refine Ea ?_ | refine Eb ?_ | refine Ec ?_ | refine Ed ?_)
    refine AtEnd_of rfl ?_
    simp only [KA, KP, KQ, simprocAttr, KT w, KI, hw.KF, htm, RS_some, aresults_nil, aresults_tmp, aresults_cell, one]
    exact FZ_str
  obtain ⟨i, hi⟩ : ∃ i, p[j]? = some i := ⟨_, List.getElem?_eq_getElem (by omega)⟩
  have e1 : IntKind.i64.wrap ((j : Int) + 1) = ((j + 1 : Nat) : Int) := by rw [i64_in _ (by omega)]; omega
  obtain ⟨g1, g2, g3, g4⟩ := fit1_facts (fitV_get hf hi)
  have hsl : (Lib.join ((p.take j).map insText) [59, 32]).length ≤ 5000 := by
    have := join_len (L := 16) (s := 2) [59, 32] (by decide) ((p.take j).map insText) (fun x hx => by
      simp only [List.mem_map] at hx
      obtain ⟨i, _, rfl⟩ := hx
      exact insText_len i)
    simp only [List.length_map, List.length_take] at this
    omega
  have hnext : Lib.join ((p.take (j + 1)).map insText) [59, 32] = (if j = 0 then [] else Lib.join ((p.take j).map insText) [59, 32] ++ [59, 32]) ++ insText i := by
    rw [List.take_add_one, hi]
    simp only [Option.toList_some, List.map_append, List.map_cons, List.map_nil]
    rw [join_snoc]
    by_cases h0 : j = 0
    · subst h0; simp
    · rw [if_neg h0, if_neg]
      simp only [List.map_eq_nil_iff, List.take_eq_nil_iff]
      rintro (h | h)
      · exact h0 h
      · subst h; simp at hpl
  have hzero : j = 0 → Lib.join ((p.take j).map insText) [59, 32] = [] := fun h => by subst h; simp [Lib.join_nil]
  generalize Lib.join ((p.take j).map insText) [59, 32] = s0 at *
  generalize h9 : Lib.join ((p.take (j + 1)).map insText) [59, 32] = s9 at *
  refine W_region fun K hK => ?_
  simp only [KA, KB, KP, KQ, simprocAttr, KT w, KI, hw.KF, htm, t0, t4, h1]
  refine hK _ _ ?_
  clear hK
  clear K
  repeat with_reducible (first | refine E0 ?_ | refine E1 ?_ | refine E2 ?_ | refine E3 ?_ | refine E4 ?_ | refine E5 (by decide) ?_ | refine E6 ?_ | refine E7 ?_ | refine E8 ?_ | refine E9 ?_ | refine Ea ?_ | refine Eb ?_ | refine Ec ?_ | refine Ed ?_)
  refine W_condT (by simp only [KA, KP, KQ, simprocAttr, KT w, KI, hw.KF, htm]) ?_
  repeat with_reducible (first | refine E0 ?_ | refine E1 ?_ | refine E2 ?_ | refine E3 ?_ | refine E4 ?_ | refine E5 (by decide) ?_ | refine E6 ?_ | refine E7 ?_ | refine E8 ?_ | refine E9 ?_ | refine Ea ?_ | refine Eb ?_ | refine Ec ?_ | refine Ed ?_)
  refine W_region fun K hK => ?_
  simp only [KA, KB, KP, KQ, simprocAttr, KT w, KI, hw.KF, htm, t0, t4, hi, hok, hb, splice, A2y]
  refine hK _ _ ?_
  clear hK
  clear K
  repeat with_reducible (first | refine E0 ?_ | refine E1 ?_ | refine E2 ?_ | refine E3 ?_ | refine E4 ?_ | refine E5 (by decide) ?_ | refine E6 ?_ | refine E7 ?_ | refine E8 ?_ | refine E9 ?_ | refine Ea ?_ | refine Eb ?_ | refine Ec ?_ | refine Ed ?_)
  have hx := digits29 hw i.x g2.1 g2.2
  have hy := digits29 hw i.y g3.1 g3.2
  have hz := digits29 hw i.z g4.1 (by omega)
  have lx := dig_len i.x.toNat
  have ly := dig_len i.y.toNat
  have lz := dig_len i.z.toNat
  have htxt : insText i = nameOf i.op.toNat ++ (fldsOf i.op.toNat).flatMap fun f => 32 :: dig (valOf i f).toNat := rfl
  have vx : valOf i 88 = i.x := rfl
  have vy : valOf i 89 = i.y := rfl
  have vz : valOf i 90 = i.z := rfl
  obtain ⟨Dx, hDx⟩ : ∃ z, dig i.x.toNat = z := ⟨_, rfl⟩
  obtain ⟨Dy, hDy⟩ : ∃ z, dig i.y.toNat = z := ⟨_, rfl⟩
  obtain ⟨Dz, hDz⟩ : ∃ z, dig i.z.toNat = z := ⟨_, rfl⟩
  rw [hDx] at hx lx
  rw [hDy] at hy ly
  rw [hDz] at hz lz
  have m2 : (s0.length : Int) + 2 ≤ maxI64 := by unfold maxI64; omega
  have hops : i.op = 1 ∨ i.op = 2 ∨ i.op = 3 ∨ i.op = 4 ∨ i.op = 5 ∨ i.op = 6 ∨ i.op = 7 := by omega
  by_cases hj0 : j = 0
  · have hjz : ¬ (0 : Int) < (j : Int) := by omega
    have hs0 := hzero hj0
    rw [if_pos hj0, ← hs0] at hnext
    obtain ⟨s1, hs1⟩ : ∃ s1, s1 = s0 := ⟨_, rfl⟩
    rw [← hs1] at hnext t3
    have ls1 : s1.length ≤ 5002 := by rw [hs1]; omega
    rcases hops with hop | hop | hop | hop | hop | hop | hop
    · skip
      obtain ⟨w2, q0⟩ : ∃ z : List UInt8, s1 ++ [99, 104, 97, 114, 32] = z := ⟨_, rfl⟩
      have l0 : w2.length ≤ 5008 := by rw [← q0, List.length_append]; first | omega | (simp; omega)
      have b0 : (s1.length : Int) + 5 ≤ maxI64 := by unfold maxI64; omega
      obtain ⟨w3, q1⟩ : ∃ z : List UInt8, w2 ++ Dx = z := ⟨_, rfl⟩
      have l1 : w3.length ≤ 5014 := by rw [← q1, List.length_append]; first | omega | (simp; omega)
      have b1 : (w2.length : Int) + (Dx.length : Int) ≤ maxI64 := by unfold maxI64; omega
      obtain ⟨w4, q2⟩ : ∃ z : List UInt8, w3 ++ [32] = z := ⟨_, rfl⟩
      have l2 : w4.length ≤ 5020 := by rw [← q2, List.length_append]; first | omega | (simp; omega)
      have b2 : (w3.length : Int) + 1 ≤ maxI64 := by unfold maxI64; omega
      obtain ⟨w5, q3⟩ : ∃ z : List UInt8, w4 ++ Dy = z := ⟨_, rfl⟩
      have l3 : w5.length ≤ 5026 := by rw [← q3, List.length_append]; first | omega | (simp; omega)
      have b3 : (w4.length : Int) + (Dy.length : Int) ≤ maxI64 := by unfold maxI64; omega
      obtain ⟨w6, q4⟩ : ∃ z : List UInt8, w5 ++ [32] = z := ⟨_, rfl⟩
      have l4 : w6.length ≤ 5032 := by rw [← q4, List.length_append]; first | omega | (simp; omega)
      have b4 : (w5.length : Int) + 1 ≤ maxI64 := by unfold maxI64; omega
      obtain ⟨w7, q5⟩ : ∃ z : List UInt8, w6 ++ Dz = z := ⟨_, rfl⟩
      have l5 : w7.length ≤ 5038 := by rw [← q5, List.length_append]; first | omega | (simp; omega)
      have b5 : (w6.length : Int) + (Dz.length : Int) ≤ maxI64 := by unfold maxI64; omega
      have hlast : s9 = w7 := by
        rw [hnext, ← q5, ← q4, ← q3, ← q2, ← q1, ← q0, htxt, hop]
        simp [nameOf, fldsOf, vx, vy, vz, ← hDx, ← hDy, ← hDz]
      refine W_region fun K hK => ?_
      simp only [KA, KB, KP, KQ, simprocAttr, KT w, KI, hw.KF, htm, t4, hjz]
      refine hK _ _ ?_
      clear hK
      clear K
      repeat with_reducible (first | refine E0 ?_ | refine E1 ?_ | refine E2 ?_ | refine E3 ?_ | refine E4 ?_ | refine E5 (by decide) ?_ | refine E6 ?_ | refine E7 ?_ | refine E8 ?_ | refine E9 ?_ | refine Ea ?_ | refine Eb ?_ | refine Ec ?_ | refine Ed ?_)
      refine W_condF (by simp only [KA, KP, KQ, simprocAttr, KT w, KI, hw.KF, htm, hjz]) ?_
      repeat with_reducible (first | refine E0 ?_ | refine E1 ?_ | refine E2 ?_ | refine E3 ?_ | refine E4 ?_ | refine E5 (by decide) ?_ | refine E6 ?_ | refine E7 ?_ | refine E8 ?_ | refine E9 ?_ | refine Ea ?_ | refine Eb ?_ | refine Ec ?_ | refine Ed ?_)
      refine W_region fun K hK => ?_
      simp only [KA, KB, KP, KQ, simprocAttr, KT w, KI, hw.KF, htm]
      refine hK _ _ ?_
      clear hK
      clear K
      repeat with_reducible (first | refine E0 ?_ | refine E1 ?_ | refine E2 ?_ | refine E3 ?_ | refine E4 ?_ | refine E5 (by decide) ?_ | refine E6 ?_ | refine E7 ?_ | refine E8 ?_ | refine E9 ?_ | refine Ea ?_ | refine Eb ?_ | refine Ec ?_ | refine Ed ?_)
      refine W_region fun K hK => ?_
      simp only [KA, KB, KP, KQ, simprocAttr, KT w, KI, hw.KF, htm, hop]
      refine hK _ _ ?_
      clear hK
      clear K
      repeat with_reducible (first | refine E0 ?_ | refine E1 ?_ | refine E2 ?_ | refine E3 ?_ | refine E4 ?_ | refine E5 (by decide) ?_ | refine E6 ?_ | refine E7 ?_ | refine E8 ?_ | refine E9 ?_ | refine Ea ?_ | refine Eb ?_ | refine Ec ?_ | refine Ed ?_)
      refine W_condT (by simp only [KA, KP, KQ, simprocAttr, KT w, KI, hw.KF, htm]) ?_
      repeat with_reducible (first | refine E0 ?_ | refine E1 ?_ | refine E2 ?_ | refine E3 ?_ | refine E4 ?_ | refine E5 (by decide) ?_ | refine E6 ?_ | refine E7 ?_ | refine E8 ?_ | refine E9 ?_ | refine Ea ?_ | refine Eb ?_ | refine Ec ?_ | refine Ed ?_)
      refine W_regionQ (by decide +kernel) fun K hK => ?_
      simp only [KA, KB, KP, KQ, simprocAttr, KT w, KI, hw.KF, htm, hx, hy, hz, t3, q0, b0, q1, b1, q2, b2, q3, b3, q4, b4, q5, b5]
      refine hK _ _ ?_
      clear hK
      clear K
      repeat with_reducible (first | refine E0 ?_ | refine E1 ?_ | refine E2 ?_ | refine E3 ?_ | refine E4 ?_ | refine E5 (by decide) ?_ | refine E6 ?_ | refine E7 ?_ | refine E8 ?_ | refine E9 ?_ | refine Ea ?_ | refine Eb ?_ | refine Ec ?_ | refine Ed ?_)
      refine W_region fun K hK => ?_
      simp only [KA, KB, KP, KQ, simprocAttr, KT w, KI, hw.KF, htm, t4, e1]
      refine hK _ _ ?_
      clear hK
      clear K
      refine ⟨p.length - (j + 1), by omega, _, j + 1, rfl, rfl, by omega, St.ok_push hok, by rw [St.pushB]; exact hb, ?_⟩
      rw [h9, hlast]
      simp only [KA, KP, KQ, simprocAttr, KT w, KI, hw.KF, htm, t0, t4]
    · skip
      obtain ⟨w2, q0⟩ : ∃ z : List UInt8, s1 ++ [105, 115, 32] = z := ⟨_, rfl⟩
      have l0 : w2.length ≤ 5008 := by rw [← q0, List.length_append]; first | omega | (simp; omega)
      have b0 : (s1.length : Int) + 3 ≤ maxI64 := by unfold maxI64; omega
      obtain ⟨w3, q1⟩ : ∃ z : List UInt8, w2 ++ Dx = z := ⟨_, rfl⟩
      have l1 : w3.length ≤ 5014 := by rw [← q1, List.length_append]; first | omega | (simp; omega)
      have b1 : (w2.length : Int) + (Dx.length : Int) ≤ maxI64 := by unfold maxI64; omega
      obtain ⟨w4, q2⟩ : ∃ z : List UInt8, w3 ++ [32] = z := ⟨_, rfl⟩
      have l2 : w4.length ≤ 5020 := by rw [← q2, List.length_append]; first | omega | (simp; omega)
      have b2 : (w3.length : Int) + 1 ≤ maxI64 := by unfold maxI64; omega
      obtain ⟨w5, q3⟩ : ∃ z : List UInt8, w4 ++ Dz = z := ⟨_, rfl⟩
      have l3 : w5.length ≤ 5026 := by rw [← q3, List.length_append]; first | omega | (simp; omega)
      have b3 : (w4.length : Int) + (Dz.length : Int) ≤ maxI64 := by unfold maxI64; omega
      have hlast : s9 = w5 := by
        rw [hnext, ← q3, ← q2, ← q1, ← q0, htxt, hop]
        simp [nameOf, fldsOf, vx, vy, vz, ← hDx, ← hDy, ← hDz]
      refine W_region fun K hK => ?_
      simp only [KA, KB, KP, KQ, simprocAttr, KT w, KI, hw.KF, htm, t4, hjz]
      refine hK _ _ ?_
      clear hK
      clear K
      repeat with_reducible (first | refine E0 ?_ | refine E1 ?_ | refine E2 ?_ | refine E3 ?_ | refine E4 ?_ | refine E5 (by decide) ?_ | refine E6 ?_ | refine E7 ?_ | refine E8 ?_ | refine E9 ?_ | refine Ea ?_ | refine Eb ?_ | refine Ec ?_ | refine Ed ?_)
      refine W_condF (by simp only [KA, KP, KQ, simprocAttr, KT w, KI, hw.KF, htm, hjz]) ?_
      repeat with_reducible (first | refine E0 ?_ | refine E1 ?_ | refine E2 ?_ | refine E3 ?_ | refine E4 ?_ | refine E5 (by decide) ?_ | refine E6 ?_ | refine E7 ?_ | refine E8 ?_ | refine E9 ?_ | refine Ea ?_ | refine Eb ?_ | refine Ec ?_ | refine Ed ?_)
      refine W_region fun K hK => ?_
      simp only [KA, KB, KP, KQ, simprocAttr, KT w, KI, hw.KF, htm]
      refine hK _ _ ?_
      clear hK
      clear K
      repeat with_reducible (first | refine E0 ?_ | refine E1 ?_ | refine E2 ?_ | refine E3 ?_ | refine E4 ?_ | refine E5 (by decide) ?_ | refine E6 ?_ | refine E7 ?_ | refine E8 ?_ | refine E9 ?_ | refine Ea ?_ | refine Eb ?_ | refine Ec ?_ | refine Ed ?_)
      refine W_region fun K hK => ?_
      simp only [KA, KB, KP, KQ, simprocAttr, KT w, KI, hw.KF, htm, hop]
      refine hK _ _ ?_
      clear hK
      clear K
      repeat with_reducible (first | refine E0 ?_ | refine E1 ?_ | refine E2 ?_ | refine E3 ?_ | refine E4 ?_ | refine E5 (by decide) ?_ | refine E6 ?_ | refine E7 ?_ | refine E8 ?_ | refine E9 ?_ | refine Ea ?_ | refine Eb ?_ | refine Ec ?_ | refine Ed ?_)
      refine W_condF (by simp only [KA, KP, KQ, simprocAttr, KT w, KI, hw.KF, htm]) ?_
      repeat with_reducible (first | refine E0 ?_ | refine E1 ?_ | refine E2 ?_ | refine E3 ?_ | refine E4 ?_ | refine E5 (by decide) ?_ | refine E6 ?_ | refine E7 ?_ | refine E8 ?_ | refine E9 ?_ | refine Ea ?_ | refine Eb ?_ | refine Ec ?_ | refine Ed ?_)
      refine W_region fun K hK => ?_
      simp only [KA, KB, KP, KQ, simprocAttr, KT w, KI, hw.KF, htm, hop]
      refine hK _ _ ?_
      clear hK
      clear K
      repeat with_reducible (first | refine E0 ?_ | refine E1 ?_ | refine E2 ?_ | refine E3 ?_ | refine E4 ?_ | refine E5 (by decide) ?_ | refine E6 ?_ | refine E7 ?_ | refine E8 ?_ | refine E9 ?_ | refine Ea ?_ | refine Eb ?_ | refine Ec ?_ | refine Ed ?_)
      refine W_condT (by simp only [KA, KP, KQ, simprocAttr, KT w, KI, hw.KF, htm]) ?_
      repeat with_reducible (first | refine E0 ?_ | refine E1 ?_ | refine E2 ?_ | refine E3 ?_ | refine E4 ?_ | refine E5 (by decide) ?_ | refine E6 ?_ | refine E7 ?_ | refine E8 ?_ | refine E9 ?_ | refine Ea ?_ | refine Eb ?_ | refine Ec ?_ | refine Ed ?_)
      refine W_regionQ (by decide +kernel) fun K hK => ?_
      simp only [KA, KB, KP, KQ, simprocAttr, KT w, KI, hw.KF, htm, hx, hy, hz, t3, q0, b0, q1, b1, q2, b2, q3, b3]
      refine hK _ _ ?_
      clear hK
      clear K
      repeat with_reducible (first | refine E0 ?_ | refine E1 ?_ | refine E2 ?_ | refine E3 ?_ | refine E4 ?_ | refine E5 (by decide) ?_ | refine E6 ?_ | refine E7 ?_ | refine E8 ?_ | refine E9 ?_ | refine Ea ?_ | refine Eb ?_ | refine Ec ?_ | refine Ed ?_)
      refine W_region fun K hK => ?_
      simp only [KA, KB, KP, KQ, simprocAttr, KT w, KI, hw.KF, htm, t4, e1]
      refine hK _ _ ?_
      clear hK
      clear K
      refine ⟨p.length - (j + 1), by omega, _, j + 1, rfl, rfl, by omega, St.ok_push hok, by rw [St.pushB]; exact hb, ?_⟩
      rw [h9, hlast]
      simp only [KA, KP, KQ, simprocAttr, KT w, KI, hw.KF, htm, t0, t4]
    · skip
      obtain ⟨w2, q0⟩ : ∃ z : List UInt8, s1 ++ [115, 101, 116, 32] = z := ⟨_, rfl⟩
      have l0 : w2.length ≤ 5008 := by rw [← q0, List.length_append]; first | omega | (simp; omega)
      have b0 : (s1.length : Int) + 4 ≤ maxI64 := by unfold maxI64; omega
      obtain ⟨w3, q1⟩ : ∃ z : List UInt8, w2 ++ Dx = z := ⟨_, rfl⟩
      have l1 : w3.length ≤ 5014 := by rw [← q1, List.length_append]; first | omega | (simp; omega)
      have b1 : (w2.length : Int) + (Dx.length : Int) ≤ maxI64 := by unfold maxI64; omega
      have hlast : s9 = w3 := by
        rw [hnext, ← q1, ← q0, htxt, hop]
        simp [nameOf, fldsOf, vx, vy, vz, ← hDx, ← hDy, ← hDz]
      refine W_region fun K hK => ?_
      simp only [KA, KB, KP, KQ, simprocAttr, KT w, KI, hw.KF, htm, t4, hjz]
      refine hK _ _ ?_
      clear hK
      clear K
      repeat with_reducible (first | refine E0 ?_ | refine E1 ?_ | refine E2 ?_ | refine E3 ?_ | refine E4 ?_ | refine E5 (by decide) ?_ | refine E6 ?_ | refine E7 ?_ | refine E8 ?_ | refine E9 ?_ | refine Ea ?_ | refine Eb ?_ | refine Ec ?_ | refine Ed ?_)
      refine W_condF (by simp only [KA, KP, KQ, simprocAttr, KT w, KI, hw.KF, htm, hjz]) ?_
      repeat with_reducible (first | refine E0 ?_ | refine E1 ?_ | refine E2 ?_ | refine E3 ?_ | refine E4 ?_ | refine E5 (by decide) ?_ | refine E6 ?_ | refine E7 ?_ | refine E8 ?_ | refine E9 ?_ | refine Ea ?_ | refine Eb ?_ | refine Ec ?_ | refine Ed ?_)
      refine W_region fun K hK => ?_
      simp only [KA, KB, KP, KQ, simprocAttr, KT w, KI, hw.KF, htm]
      refine hK _ _ ?_
      clear hK
      clear K
      repeat with_reducible (first | refine E0 ?_ | refine E1 ?_ | refine E2 ?_ | refine E3 ?_ | refine E4 ?_ | refine E5 (by decide) ?_ | refine E6 ?_ | refine E7 ?_ | refine E8 ?_ | refine E9 ?_ | refine Ea ?_ | refine Eb ?_ | refine Ec ?_ | refine Ed ?_)
      refine W_region fun K hK => ?_
      simp only [KA, KB, KP, KQ, simprocAttr, KT w, KI, hw.KF, htm, hop]
      refine hK _ _ ?_
      clear hK
      clear K
      repeat with_reducible (first | refine E0 ?_ | refine E1 ?_ | refine E2 ?_ | refine E3 ?_ | refine E4 ?_ | refine E5 (by decide) ?_ | refine E6 ?_ | refine E7 ?_ | refine E8 ?_ | refine E9 ?_ | refine Ea ?_ | refine Eb ?_ | refine Ec ?_ | refine Ed ?_)
      refine W_condF (by simp only [KA, KP, KQ, simprocAttr, KT w, KI, hw.KF, htm]) ?_
      repeat with_reducible (first | refine E0 ?_ | refine E1 ?_ | refine E2 ?_ | refine E3 ?_ | refine E4 ?_ | refine E5 (by decide) ?_ | refine E6 ?_ | refine E7 ?_ | refine E8 ?_ | refine E9 ?_ | refine Ea ?_ | refine Eb ?_ | refine Ec ?_ | refine Ed ?_)
      refine W_region fun K hK => ?_
      simp only [KA, KB, KP, KQ, simprocAttr, KT w, KI, hw.KF, htm, hop]
      refine hK _ _ ?_
      clear hK
      clear K
      repeat with_reducible (first | refine E0 ?_ | refine E1 ?_ | refine E2 ?_ | refine E3 ?_ | refine E4 ?_ | refine E5 (by decide) ?_ | refine E6 ?_ | refine E7 ?_ | refine E8 ?_ | refine E9 ?_ | refine Ea ?_ | refine Eb ?_ | refine Ec ?_ | refine Ed ?_)
      refine W_condF (by simp only [KA, KP, KQ, simprocAttr, KT w, KI, hw.KF, htm]) ?_
      repeat with_reducible (first | refine E0 ?_ | refine E1 ?_ | refine E2 ?_ | refine E3 ?_ | refine E4 ?_ | refine E5 (by decide) ?_ | refine E6 ?_ | refine E7 ?_ | refine E8 ?_ | refine E9 ?_ | refine Ea ?_ | refine Eb ?_ | refine Ec ?_ | refine Ed ?_)
      refine W_region fun K hK => ?_
      simp only [KA, KB, KP, KQ, simprocAttr, KT w, KI, hw.KF, htm, hop]
      refine hK _ _ ?_
      clear hK
      clear K
      repeat with_reducible (first | refine E0 ?_ | refine E1 ?_ | refine E2 ?_ | refine E3 ?_ | refine E4 ?_ | refine E5 (by decide) ?_ | refine E6 ?_ | refine E7 ?_ | refine E8 ?_ | refine E9 ?_ | refine Ea ?_ | refine Eb ?_ | refine Ec ?_ | refine Ed ?_)
      refine W_condT (by simp only [KA, KP, KQ, simprocAttr, KT w, KI, hw.KF, htm]) ?_
      repeat with_reducible (first | refine E0 ?_ | refine E1 ?_ | refine E2 ?_ | refine E3 ?_ | refine E4 ?_ | refine E5 (by decide) ?_ | refine E6 ?_ | refine E7 ?_ | refine E8 ?_ | refine E9 ?_ | refine Ea ?_ | refine Eb ?_ | refine Ec ?_ | refine Ed ?_)
      refine W_region fun K hK => ?_
      simp only [KA, KB, KP, KQ, simprocAttr, KT w, KI, hw.KF, htm, hx, hy, hz, t3, q0, b0, q1, b1]
      refine hK _ _ ?_
      clear hK
      clear K
      repeat with_reducible (first | refine E0 ?_ | refine E1 ?_ | refine E2 ?_ | refine E3 ?_ | refine E4 ?_ | refine E5 (by decide) ?_ | refine E6 ?_ | refine E7 ?_ | refine E8 ?_ | refine E9 ?_ | refine Ea ?_ | refine Eb ?_ | refine Ec ?_ | refine Ed ?_)
      refine W_region fun K hK => ?_
      simp only [KA, KB, KP, KQ, simprocAttr, KT w, KI, hw.KF, htm, t4, e1]
      refine hK _ _ ?_
      clear hK
      clear K
      refine ⟨p.length - (j + 1), by omega, _, j + 1, rfl, rfl, by omega, St.ok_push hok, by rw [St.pushB]; exact hb, ?_⟩
      rw [h9, hlast]
      simp only [KA, KP, KQ, simprocAttr, KT w, KI, hw.KF, htm, t0, t4]
    · skip
      obtain ⟨w2, q0⟩ : ∃ z : List UInt8, s1 ++ [97, 100, 100, 32] = z := ⟨_, rfl⟩
      have l0 : w2.length ≤ 5008 := by rw [← q0, List.length_append]; first | omega | (simp; omega)
      have b0 : (s1.length : Int) + 4 ≤ maxI64 := by unfold maxI64; omega
      obtain ⟨w3, q1⟩ : ∃ z : List UInt8, w2 ++ Dx = z := ⟨_, rfl⟩
      have l1 : w3.length ≤ 5014 := by rw [← q1, List.length_append]; first | omega | (simp; omega)
      have b1 : (w2.length : Int) + (Dx.length : Int) ≤ maxI64 := by unfold maxI64; omega
      have hlast : s9 = w3 := by
        rw [hnext, ← q1, ← q0, htxt, hop]
        simp [nameOf, fldsOf, vx, vy, vz, ← hDx, ← hDy, ← hDz]
      refine W_region fun K hK => ?_
      simp only [KA, KB, KP, KQ, simprocAttr, KT w, KI, hw.KF, htm, t4, hjz]
      refine hK _ _ ?_
      clear hK
      clear K
      repeat with_reducible (first | refine E0 ?_ | refine E1 ?_ | refine E2 ?_ | refine E3 ?_ | refine E4 ?_ | refine E5 (by decide) ?_ | refine E6 ?_ | refine E7 ?_ | refine E8 ?_ | refine E9 ?_ | refine Ea ?_ | refine Eb ?_ | refine Ec ?_ | refine Ed ?_)
      refine W_condF (by simp only [KA, KP, KQ, simprocAttr, KT w, KI, hw.KF, htm, hjz]) ?_
      repeat with_reducible (first | refine E0 ?_ | refine E1 ?_ | refine E2 ?_ | refine E3 ?_ | refine E4 ?_ | refine E5 (by decide) ?_ | refine E6 ?_ | refine E7 ?_ | refine E8 ?_ | refine E9 ?_ | refine Ea ?_ | refine Eb ?_ | refine Ec ?_ | refine Ed ?_)
      refine W_region fun K hK => ?_
      simp only [KA, KB, KP, KQ, simprocAttr, KT w, KI, hw.KF, htm]
      refine hK _ _ ?_
      clear hK
      clear K
      repeat with_reducible (first | refine E0 ?_ | refine E1 ?_ | refine E2 ?_ | refine E3 ?_ | refine E4 ?_ | refine E5 (by decide) ?_ | refine E6 ?_ | refine E7 ?_ | refine E8 ?_ | refine E9 ?_ | refine Ea ?_ | refine Eb ?_ | refine Ec ?_ | refine Ed ?_)
      refine W_region fun K hK => ?_
      simp only [KA, KB, KP, KQ, simprocAttr, KT w, KI, hw.KF, htm, hop]
      refine hK _ _ ?_
      clear hK
      clear K
      repeat with_reducible (first | refine E0 ?_ | refine E1 ?_ | refine E2 ?_ | refine E3 ?_ | refine E4 ?_ | refine E5 (by decide) ?_ | refine E6 ?_ | refine E7 ?_ | refine E8 ?_ | refine E9 ?_ | refine Ea ?_ | refine Eb ?_ | refine Ec ?_ | refine Ed ?_)
      refine W_condF (by simp only [KA, KP, KQ, simprocAttr, KT w, KI, hw.KF, htm]) ?_
      repeat with_reducible (first | refine E0 ?_ | refine E1 ?_ | refine E2 ?_ | refine E3 ?_ | refine E4 ?_ | refine E5 (by decide) ?_ | refine E6 ?_ | refine E7 ?_ | refine E8 ?_ | refine E9 ?_ | refine Ea ?_ | refine Eb ?_ | refine Ec ?_ | refine Ed ?_)
      refine W_region fun K hK => ?_
      simp only [KA, KB, KP, KQ, simprocAttr, KT w, KI, hw.KF, htm, hop]
      refine hK _ _ ?_
      clear hK
      clear K
      repeat with_reducible (first | refine E0 ?_ | refine E1 ?_ | refine E2 ?_ | refine E3 ?_ | refine E4 ?_ | refine E5 (by decide) ?_ | refine E6 ?_ | refine E7 ?_ | refine E8 ?_ | refine E9 ?_ | refine Ea ?_ | refine Eb ?_ | refine Ec ?_ | refine Ed ?_)
      refine W_condF (by simp only [KA, KP, KQ, simprocAttr, KT w, KI, hw.KF, htm]) ?_
      repeat with_reducible (first | refine E0 ?_ | refine E1 ?_ | refine E2 ?_ | refine E3 ?_ | refine E4 ?_ | refine E5 (by decide) ?_ | refine E6 ?_ | refine E7 ?_ | refine E8 ?_ | refine E9 ?_ | refine Ea ?_ | refine Eb ?_ | refine Ec ?_ | refine Ed ?_)
      refine W_region fun K hK => ?_
      simp only [KA, KB, KP, KQ, simprocAttr, KT w, KI, hw.KF, htm, hop]
      refine hK _ _ ?_
      clear hK
      clear K
      repeat with_reducible (first | refine E0 ?_ | refine E1 ?_ | refine E2 ?_ | refine E3 ?_ | refine E4 ?_ | refine E5 (by decide) ?_ | refine E6 ?_ | refine E7 ?_ | refine E8 ?_ | refine E9 ?_ | refine Ea ?_ | refine Eb ?_ | refine Ec ?_ | refine Ed ?_)
      refine W_condF (by simp only [KA, KP, KQ, simprocAttr, KT w, KI, hw.KF, htm]) ?_
      repeat with_reducible (first | refine E0 ?_ | refine E1 ?_ | refine E2 ?_ | refine E3 ?_ | refine E4 ?_ | refine E5 (by decide) ?_ | refine E6 ?_ | refine E7 ?_ | refine E8 ?_ | refine E9 ?_ | refine Ea ?_ | refine Eb ?_ | refine Ec ?_ | refine Ed ?_)
      refine W_region fun K hK => ?_
      simp only [KA, KB, KP, KQ, simprocAttr, KT w, KI, hw.KF, htm, hop]
      refine hK _ _ ?_
      clear hK
      clear K
      repeat with_reducible (first | refine E0 ?_ | refine E1 ?_ | refine E2 ?_ | refine E3 ?_ | refine E4 ?_ | refine E5 (by decide) ?_ | refine E6 ?_ | refine E7 ?_ | refine E8 ?_ | refine E9 ?_ | refine Ea ?_ | refine Eb ?_ | refine Ec ?_ | refine Ed ?_)
      refine W_condT (by simp only [KA, KP, KQ, simprocAttr, KT w, KI, hw.KF, htm]) ?_
      repeat with_reducible (first | refine E0 ?_ | refine E1 ?_ | refine E2 ?_ | refine E3 ?_ | refine E4 ?_ | refine E5 (by decide) ?_ | refine E6 ?_ | refine E7 ?_ | refine E8 ?_ | refine E9 ?_ | refine Ea ?_ | refine Eb ?_ | refine Ec ?_ | refine Ed ?_)
      refine W_region fun K hK => ?_
      simp only [KA, KB, KP, KQ, simprocAttr, KT w, KI, hw.KF, htm, hx, hy, hz, t3, q0, b0, q1, b1]
      refine hK _ _ ?_
      clear hK
      clear K
      repeat with_reducible (first | refine E0 ?_ | refine E1 ?_ | refine E2 ?_ | refine E3 ?_ | refine E4 ?_ | refine E5 (by decide) ?_ | refine E6 ?_ | refine E7 ?_ | refine E8 ?_ | refine E9 ?_ | refine Ea ?_ | refine Eb ?_ | refine Ec ?_ | refine Ed ?_)
      refine W_region fun K hK => ?_
      simp only [KA, KB, KP, KQ, simprocAttr, KT w, KI, hw.KF, htm, t4, e1]
      refine hK _ _ ?_
      clear hK
      clear K
      refine ⟨p.length - (j + 1), by omega, _, j + 1, rfl, rfl, by omega, St.ok_push hok, by rw [St.pushB]; exact hb, ?_⟩
      rw [h9, hlast]
      simp only [KA, KP, KQ, simprocAttr, KT w, KI, hw.KF, htm, t0, t4]
    · skip
      obtain ⟨w2, q0⟩ : ∃ z : List UInt8, s1 ++ [103, 111, 116, 111, 32] = z := ⟨_, rfl⟩
      have l0 : w2.length ≤ 5008 := by rw [← q0, List.length_append]; first | omega | (simp; omega)
      have b0 : (s1.length : Int) + 5 ≤ maxI64 := by unfold maxI64; omega
      obtain ⟨w3, q1⟩ : ∃ z : List UInt8, w2 ++ Dz = z := ⟨_, rfl⟩
      have l1 : w3.length ≤ 5014 := by rw [← q1, List.length_append]; first | omega | (simp; omega)
      have b1 : (w2.length : Int) + (Dz.length : Int) ≤ maxI64 := by unfold maxI64; omega
      have hlast : s9 = w3 := by
        rw [hnext, ← q1, ← q0, htxt, hop]
        simp [nameOf, fldsOf, vx, vy, vz, ← hDx, ← hDy, ← hDz]
      refine W_region fun K hK => ?_
      simp only [KA, KB, KP, KQ, simprocAttr, KT w, KI, hw.KF, htm, t4, hjz]
      refine hK _ _ ?_
      clear hK
      clear K
      repeat with_reducible (first | refine E0 ?_ | refine E1 ?_ | refine E2 ?_ | refine E3 ?_ | refine E4 ?_ | refine E5 (by decide) ?_ | refine E6 ?_ | refine E7 ?_ | refine E8 ?_ | refine E9 ?_ | refine Ea ?_ | refine Eb ?_ | refine Ec ?_ | refine Ed ?_)
      refine W_condF (by simp only [KA, KP, KQ, simprocAttr, KT w, KI, hw.KF, htm, hjz]) ?_
      repeat with_reducible (first | refine E0 ?_ | refine E1 ?_ | refine E2 ?_ | refine E3 ?_ | refine E4 ?_ | refine E5 (by decide) ?_ | refine E6 ?_ | refine E7 ?_ | refine E8 ?_ | refine E9 ?_ | refine Ea ?_ | refine Eb ?_ | refine Ec ?_ | refine Ed ?_)
      refine W_region fun K hK => ?_
      simp only [KA, KB, KP, KQ, simprocAttr, KT w, KI, hw.KF, htm]
      refine hK _ _ ?_
      clear hK
      clear K
      repeat with_reducible (first | refine E0 ?_ | refine E1 ?_ | refine E2 ?_ | refine E3 ?_ | refine E4 ?_ | refine E5 (by decide) ?_ | refine E6 ?_ | refine E7 ?_ | refine E8 ?_ | refine E9 ?_ | refine Ea ?_ | refine Eb ?_ | refine Ec ?_ | refine Ed ?_)
      refine W_region fun K hK => ?_
      simp only [KA, KB, KP, KQ, simprocAttr, KT w, KI, hw.KF, htm, hop]
      refine hK _ _ ?_
      clear hK
      clear K
      repeat with_reducible (first | refine E0 ?_ | refine E1 ?_ | refine E2 ?_ | refine E3 ?_ | refine E4 ?_ | refine E5 (by decide) ?_ | refine E6 ?_ | refine E7 ?_ | refine E8 ?_ | refine E9 ?_ | refine Ea ?_ | refine Eb ?_ | refine Ec ?_ | refine Ed ?_)
      refine W_condF (by simp only [KA, KP, KQ, simprocAttr, KT w, KI, hw.KF, htm]) ?_
      repeat with_reducible (first | refine E0 ?_ | refine E1 ?_ | refine E2 ?_ | refine E3 ?_ | refine E4 ?_ | refine E5 (by decide) ?_ | refine E6 ?_ | refine E7 ?_ | refine E8 ?_ | refine E9 ?_ | refine Ea ?_ | refine Eb ?_ | refine Ec ?_ | refine Ed ?_)
      refine W_region fun K hK => ?_
      simp only [KA, KB, KP, KQ, simprocAttr, KT w, KI, hw.KF, htm, hop]
      refine hK _ _ ?_
      clear hK
      clear K
      repeat with_reducible (first | refine E0 ?_ | refine E1 ?_ | refine E2 ?_ | refine E3 ?_ | refine E4 ?_ | refine E5 (by decide) ?_ | refine E6 ?_ | refine E7 ?_ | refine E8 ?_ | refine E9 ?_ | refine Ea ?_ | refine Eb ?_ | refine Ec ?_ | refine Ed ?_)
      refine W_condF (by simp only [KA, KP, KQ, simprocAttr, KT w, KI, hw.KF, htm]) ?_
      repeat with_reducible (first | refine E0 ?_ | refine E1 ?_ | refine E2 ?_ | refine E3 ?_ | refine E4 ?_ | refine E5 (by decide) ?_ | refine E6 ?_ | refine E7 ?_ | refine E8 ?_ | refine E9 ?_ | refine Ea ?_ | refine Eb ?_ | refine Ec ?_ | refine Ed ?_)
      refine W_region fun K hK => ?_
      simp only [KA, KB, KP, KQ, simprocAttr, KT w, KI, hw.KF, htm, hop]
      refine hK _ _ ?_
      clear hK
      clear K
      repeat with_reducible (first | refine E0 ?_ | refine E1 ?_ | refine E2 ?_ | refine E3 ?_ | refine E4 ?_ | refine E5 (by decide) ?_ | refine E6 ?_ | refine E7 ?_ | refine E8 ?_ | refine E9 ?_ | refine Ea ?_ | refine Eb ?_ | refine Ec ?_ | refine Ed ?_)
      refine W_condF (by simp only [KA, KP, KQ, simprocAttr, KT w, KI, hw.KF, htm]) ?_
      repeat with_reducible (first | refine E0 ?_ | refine E1 ?_ | refine E2 ?_ | refine E3 ?_ | refine E4 ?_ | refine E5 (by decide) ?_ | refine E6 ?_ | refine E7 ?_ | refine E8 ?_ | refine E9 ?_ | refine Ea ?_ | refine Eb ?_ | refine Ec ?_ | refine Ed ?_)
      refine W_region fun K hK => ?_
      simp only [KA, KB, KP, KQ, simprocAttr, KT w, KI, hw.KF, htm, hop]
      refine hK _ _ ?_
      clear hK
      clear K
      repeat with_reducible (first | refine E0 ?_ | refine E1 ?_ | refine E2 ?_ | refine E3 ?_ | refine E4 ?_ | refine E5 (by decide) ?_ | refine E6 ?_ | refine E7 ?_ | refine E8 ?_ | refine E9 ?_ | refine Ea ?_ | refine Eb ?_ | refine Ec ?_ | refine Ed ?_)
      refine W_condF (by simp only [KA, KP, KQ, simprocAttr, KT w, KI, hw.KF, htm]) ?_
      repeat with_reducible (first | refine E0 ?_ | refine E1 ?_ | refine E2 ?_ | refine E3 ?_ | refine E4 ?_ | refine E5 (by decide) ?_ | refine E6 ?_ | refine E7 ?_ | refine E8 ?_ | refine E9 ?_ | refine Ea ?_ | refine Eb ?_ | refine Ec ?_ | refine Ed ?_)
      refine W_region fun K hK => ?_
      simp only [KA, KB, KP, KQ, simprocAttr, KT w, KI, hw.KF, htm, hop]
      refine hK _ _ ?_
      clear hK
      clear K
      repeat with_reducible (first | refine E0 ?_ | refine E1 ?_ | refine E2 ?_ | refine E3 ?_ | refine E4 ?_ | refine E5 (by decide) ?_ | refine E6 ?_ | refine E7 ?_ | refine E8 ?_ | refine E9 ?_ | refine Ea ?_ | refine Eb ?_ | refine Ec ?_ | refine Ed ?_)
      refine W_condT (by simp only [KA, KP, KQ, simprocAttr, KT w, KI, hw.KF, htm]) ?_
      repeat with_reducible (first | refine E0 ?_ | refine E1 ?_ | refine E2 ?_ | refine E3 ?_ | refine E4 ?_ | refine E5 (by decide) ?_ | refine E6 ?_ | refine E7 ?_ | refine E8 ?_ | refine E9 ?_ | refine Ea ?_ | refine Eb ?_ | refine Ec ?_ | refine Ed ?_)
      refine W_region fun K hK => ?_
      simp only [KA, KB, KP, KQ, simprocAttr, KT w, KI, hw.KF, htm, hx, hy, hz, t3, q0, b0, q1, b1]
      refine hK _ _ ?_
      clear hK
      clear K
      repeat with_reducible (first | refine E0 ?_ | refine E1 ?_ | refine E2 ?_ | refine E3 ?_ | refine E4 ?_ | refine E5 (by decide) ?_ | refine E6 ?_ | refine E7 ?_ | refine E8 ?_ | refine E9 ?_ | refine Ea ?_ | refine Eb ?_ | refine Ec ?_ | refine Ed ?_)
      refine W_region fun K hK => ?_
      simp only [KA, KB, KP, KQ, simprocAttr, KT w, KI, hw.KF, htm, t4, e1]
      refine hK _ _ ?_
      clear hK
      clear K
      refine ⟨p.length - (j + 1), by omega, _, j + 1, rfl, rfl, by omega, St.ok_push hok, by rw [St.pushB]; exact hb, ?_⟩
      rw [h9, hlast]
      simp only [KA, KP, KQ, simprocAttr, KT w, KI, hw.KF, htm, t0, t4]
    · skip
      obtain ⟨w2, q0⟩ : ∃ z : List UInt8, s1 ++ [121, 101, 115] = z := ⟨_, rfl⟩
      have l0 : w2.length ≤ 5008 := by rw [← q0, List.length_append]; first | omega | (simp; omega)
      have b0 : (s1.length : Int) + 3 ≤ maxI64 := by unfold maxI64; omega
      have hlast : s9 = w2 := by
        rw [hnext, ← q0, htxt, hop]
        simp [nameOf, fldsOf, vx, vy, vz, ← hDx, ← hDy, ← hDz]
      refine W_region fun K hK => ?_
      simp only [KA, KB, KP, KQ, simprocAttr, KT w, KI, hw.KF, htm, t4, hjz]
      refine hK _ _ ?_
      clear hK
      clear K
      repeat with_reducible (first | refine E0 ?_ | refine E1 ?_ | refine E2 ?_ | refine E3 ?_ | refine E4 ?_ | refine E5 (by decide) ?_ | refine E6 ?_ | refine E7 ?_ | refine E8 ?_ | refine E9 ?_ | refine Ea ?_ | refine Eb ?_ | refine Ec ?_ | refine Ed ?_)
      refine W_condF (by simp only [KA, KP, KQ, simprocAttr, KT w, KI, hw.KF, htm, hjz]) ?_
      repeat with_reducible (first | refine E0 ?_ | refine E1 ?_ | refine E2 ?_ | refine E3 ?_ | refine E4 ?_ | refine E5 (by decide) ?_ | refine E6 ?_ | refine E7 ?_ | refine E8 ?_ | refine E9 ?_ | refine Ea ?_ | refine Eb ?_ | refine Ec ?_ | refine Ed ?_)
      refine W_region fun K hK => ?_
      simp only [KA, KB, KP, KQ, simprocAttr, KT w, KI, hw.KF, htm]
      refine hK _ _ ?_
      clear hK
      clear K
      repeat with_reducible (first | refine E0 ?_ | refine E1 ?_ | refine E2 ?_ | refine E3 ?_ | refine E4 ?_ | refine E5 (by decide) ?_ | refine E6 ?_ | refine E7 ?_ | refine E8 ?_ | refine E9 ?_ | refine Ea ?_ | refine Eb ?_ | refine Ec ?_ | refine Ed ?_)
      refine W_region fun K hK => ?_
      simp only [KA, KB, KP, KQ, simprocAttr, KT w, KI, hw.KF, htm, hop]
      refine hK _ _ ?_
      clear hK
      clear K
      repeat with_reducible (first | refine E0 ?_ | refine E1 ?_ | refine E2 ?_ | refine E3 ?_ | refine E4 ?_ | refine E5 (by decide) ?_ | refine E6 ?_ | refine E7 ?_ | refine E8 ?_ | refine E9 ?_ | refine Ea ?_ | refine Eb ?_ | refine Ec ?_ | refine Ed ?_)
      refine W_condF (by simp only [KA, KP, KQ, simprocAttr, KT w, KI, hw.KF, htm]) ?_
      repeat with_reducible (first | refine E0 ?_ | refine E1 ?_ | refine E2 ?_ | refine E3 ?_ | refine E4 ?_ | refine E5 (by decide) ?_ | refine E6 ?_ | refine E7 ?_ | refine E8 ?_ | refine E9 ?_ | refine Ea ?_ | refine Eb ?_ | refine Ec ?_ | refine Ed ?_)
      refine W_region fun K hK => ?_
      simp only [KA, KB, KP, KQ, simprocAttr, KT w, KI, hw.KF, htm, hop]
      refine hK _ _ ?_
      clear hK
      clear K
      repeat with_reducible (first | refine E0 ?_ | refine E1 ?_ | refine E2 ?_ | refine E3 ?_ | refine E4 ?_ | refine E5 (by decide) ?_ | refine E6 ?_ | refine E7 ?_ | refine E8 ?_ | refine E9 ?_ | refine Ea ?_ | refine Eb ?_ | refine Ec ?_ | refine Ed ?_)
      refine W_condF (by simp only [KA, KP, KQ, simprocAttr, KT w, KI, hw.KF, htm]) ?_
      repeat with_reducible (first | refine E0 ?_ | refine E1 ?_ | refine E2 ?_ | refine E3 ?_ | refine E4 ?_ | refine E5 (by decide) ?_ | refine E6 ?_ | refine E7 ?_ | refine E8 ?_ | refine E9 ?_ | refine Ea ?_ | refine Eb ?_ | refine Ec ?_ | refine Ed ?_)
      refine W_region fun K hK => ?_
      simp only [KA, KB, KP, KQ, simprocAttr, KT w, KI, hw.KF, htm, hop]
      refine hK _ _ ?_
      clear hK
      clear K
      repeat with_reducible (first | refine E0 ?_ | refine E1 ?_ | refine E2 ?_ | refine E3 ?_ | refine E4 ?_ | refine E5 (by decide) ?_ | refine E6 ?_ | refine E7 ?_ | refine E8 ?_ | refine E9 ?_ | refine Ea ?_ | refine Eb ?_ | refine Ec ?_ | refine Ed ?_)
      refine W_condF (by simp only [KA, KP, KQ, simprocAttr, KT w, KI, hw.KF, htm]) ?_
      repeat with_reducible (first | refine E0 ?_ | refine E1 ?_ | refine E2 ?_ | refine E3 ?_ | refine E4 ?_ | refine E5 (by decide) ?_ | refine E6 ?_ | refine E7 ?_ | refine E8 ?_ | refine E9 ?_ | refine Ea ?_ | refine Eb ?_ | refine Ec ?_ | refine Ed ?_)
      refine W_region fun K hK => ?_
      simp only [KA, KB, KP, KQ, simprocAttr, KT w, KI, hw.KF, htm, hop]
      refine hK _ _ ?_
      clear hK
      clear K
      repeat with_reducible (first | refine E0 ?_ | refine E1 ?_ | refine E2 ?_ | refine E3 ?_ | refine E4 ?_ | refine E5 (by decide) ?_ | refine E6 ?_ | refine E7 ?_ | refine E8 ?_ | refine E9 ?_ | refine Ea ?_ | refine Eb ?_ | refine Ec ?_ | refine Ed ?_)
      refine W_condF (by simp only [KA, KP, KQ, simprocAttr, KT w, KI, hw.KF, htm]) ?_
      repeat with_reducible (first | refine E0 ?_ | refine E1 ?_ | refine E2 ?_ | refine E3 ?_ | refine E4 ?_ | refine E5 (by decide) ?_ | refine E6 ?_ | refine E7 ?_ | refine E8 ?_ | refine E9 ?_ | refine Ea ?_ | refine Eb ?_ | refine Ec ?_ | refine Ed ?_)
      refine W_region fun K hK => ?_
      simp only [KA, KB, KP, KQ, simprocAttr, KT w, KI, hw.KF, htm, hop]
      refine hK _ _ ?_
      clear hK
      clear K
      repeat with_reducible (first | refine E0 ?_ | refine E1 ?_ | refine E2 ?_ | refine E3 ?_ | refine E4 ?_ | refine E5 (by decide) ?_ | refine E6 ?_ | refine E7 ?_ | refine E8 ?_ | refine E9 ?_ | refine Ea ?_ | refine Eb ?_ | refine Ec ?_ | refine Ed ?_)
      refine W_condF (by simp only [KA, KP, KQ, simprocAttr, KT w, KI, hw.KF, htm]) ?_
      repeat with_reducible (first | refine E0 ?_ | refine E1 ?_ | refine E2 ?_ | refine E3 ?_ | refine E4 ?_ | refine E5 (by decide) ?_ | refine E6 ?_ | refine E7 ?_ | refine E8 ?_ | refine E9 ?_ | refine Ea ?_ | refine Eb ?_ | refine Ec ?_ | refine Ed ?_)
      refine W_region fun K hK => ?_
      simp only [KA, KB, KP, KQ, simprocAttr, KT w, KI, hw.KF, htm, hop]
      refine hK _ _ ?_
      clear hK
      clear K
      repeat with_reducible (first | refine E0 ?_ | refine E1 ?_ | refine E2 ?_ | refine E3 ?_ | refine E4 ?_ | refine E5 (by decide) ?_ | refine E6 ?_ | refine E7 ?_ | refine E8 ?_ | refine E9 ?_ | refine Ea ?_ | refine Eb ?_ | refine Ec ?_ | refine Ed ?_)
      refine W_condT (by simp only [KA, KP, KQ, simprocAttr, KT w, KI, hw.KF, htm]) ?_
      repeat with_reducible (first | refine E0 ?_ | refine E1 ?_ | refine E2 ?_ | refine E3 ?_ | refine E4 ?_ | refine E5 (by decide) ?_ | refine E6 ?_ | refine E7 ?_ | refine E8 ?_ | refine E9 ?_ | refine Ea ?_ | refine Eb ?_ | refine Ec ?_ | refine Ed ?_)
      refine W_region fun K hK => ?_
      simp only [KA, KB, KP, KQ, simprocAttr, KT w, KI, hw.KF, htm, hx, hy, hz, t3, q0, b0]
      refine hK _ _ ?_
      clear hK
      clear K
      repeat with_reducible (first | refine E0 ?_ | refine E1 ?_ | refine E2 ?_ | refine E3 ?_ | refine E4 ?_ | refine E5 (by decide) ?_ | refine E6 ?_ | refine E7 ?_ | refine E8 ?_ | refine E9 ?_ | refine Ea ?_ | refine Eb ?_ | refine Ec ?_ | refine Ed ?_)
      refine W_region fun K hK => ?_
      simp only [KA, KB, KP, KQ, simprocAttr, KT w, KI, hw.KF, htm, t4, e1]
      refine hK _ _ ?_
      clear hK
      clear K
      refine ⟨p.length - (j + 1), by omega, _, j + 1, rfl, rfl, by omega, St.ok_push hok, by rw [St.pushB]; exact hb, ?_⟩
      rw [h9, hlast]
      simp only [KA, KP, KQ, simprocAttr, KT w, KI, hw.KF, htm, t0, t4]
    · skip
      obtain ⟨w2, q0⟩ : ∃ z : List UInt8, s1 ++ [110, 111] = z := ⟨_, rfl⟩
      have l0 : w2.length ≤ 5008 := by rw [← q0, List.length_append]; first | omega | (simp; omega)
      have b0 : (s1.length : Int) + 2 ≤ maxI64 := by unfold maxI64; omega
      have hlast : s9 = w2 := by
        rw [hnext, ← q0, htxt, hop]
        simp [nameOf, fldsOf, vx, vy, vz, ← hDx, ← hDy, ← hDz]
      refine W_region fun K hK => ?_
      simp only [KA, KB, KP, KQ, simprocAttr, KT w, KI, hw.KF, htm, t4, hjz]
      refine hK _ _ ?_
      clear hK
      clear K
      repeat with_reducible (first | refine E0 ?_ | refine E1 ?_ | refine E2 ?_ | refine E3 ?_ | refine E4 ?_ | refine E5 (by decide) ?_ | refine E6 ?_ | refine E7 ?_ | refine E8 ?_ | refine E9 ?_ | refine Ea ?_ | refine Eb ?_ | refine Ec ?_ | refine Ed ?_)
      refine W_condF (by simp only [KA, KP, KQ, simprocAttr, KT w, KI, hw.KF, htm, hjz]) ?_
      repeat with_reducible (first | refine E0 ?_ | refine E1 ?_ | refine E2 ?_ | refine E3 ?_ | refine E4 ?_ | refine E5 (by decide) ?_ | refine E6 ?_ | refine E7 ?_ | refine E8 ?_ | refine E9 ?_ | refine Ea ?_ | refine Eb ?_ | refine Ec ?_ | refine Ed ?_)
      refine W_region fun K hK => ?_
      simp only [KA, KB, KP, KQ, simprocAttr, KT w, KI, hw.KF, htm]
      refine hK _ _ ?_
      clear hK
      clear K
      repeat with_reducible (first | refine E0 ?_ | refine E1 ?_ | refine E2 ?_ | refine E3 ?_ | refine E4 ?_ | refine E5 (by decide) ?_ | refine E6 ?_ | refine E7 ?_ | refine E8 ?_ | refine E9 ?_ | refine Ea ?_ | refine Eb ?_ | refine Ec ?_ | refine Ed ?_)
      refine W_region fun K hK => ?_
      simp only [KA, KB, KP, KQ, simprocAttr, KT w, KI, hw.KF, htm, hop]
      refine hK _ _ ?_
      clear hK
      clear K
      repeat with_reducible (first | refine E0 ?_ | refine E1 ?_ | refine E2 ?_ | refine E3 ?_ | refine E4 ?_ | refine E5 (by decide) ?_ | refine E6 ?_ | refine E7 ?_ | refine E8 ?_ | refine E9 ?_ | refine Ea ?_ | refine Eb ?_ | refine Ec ?_ | refine Ed ?_)
      refine W_condF (by simp only [KA, KP, KQ, simprocAttr, KT w, KI, hw.KF, htm]) ?_
      repeat with_reducible (first | refine E0 ?_ | refine E1 ?_ | refine E2 ?_ | refine E3 ?_ | refine E4 ?_ | refine E5 (by decide) ?_ | refine E6 ?_ | refine E7 ?_ | refine E8 ?_ | refine E9 ?_ | refine Ea ?_ | refine Eb ?_ | refine Ec ?_ | refine Ed ?_)
      refine W_region fun K hK => ?_
      simp only [KA, KB, KP, KQ, simprocAttr, KT w, KI, hw.KF, htm, hop]
      refine hK _ _ ?_
      clear hK
      clear K
      repeat with_reducible (first | refine E0 ?_ | refine E1 ?_ | refine E2 ?_ | refine E3 ?_ | refine E4 ?_ | refine E5 (by decide) ?_ | refine E6 ?_ | refine E7 ?_ | refine E8 ?_ | refine E9 ?_ | refine Ea ?_ | refine Eb ?_ | refine Ec ?_ | refine Ed ?_)
      refine W_condF (by simp only [KA, KP, KQ, simprocAttr, KT w, KI, hw.KF, htm]) ?_
      repeat with_reducible (first | refine E0 ?_ | refine E1 ?_ | refine E2 ?_ | refine E3 ?_ | refine E4 ?_ | refine E5 (by decide) ?_ | refine E6 ?_ | refine E7 ?_ | refine E8 ?_ | refine E9 ?_ | refine Ea ?_ | refine Eb ?_ | refine Ec ?_ | refine Ed ?_)
      refine W_region fun K hK => ?_
      simp only [KA, KB, KP, KQ, simprocAttr, KT w, KI, hw.KF, htm, hop]
      refine hK _ _ ?_
      clear hK
      clear K
      repeat with_reducible (first | refine E0 ?_ | refine E1 ?_ | refine E2 ?_ | refine E3 ?_ | refine E4 ?_ | refine E5 (by decide) ?_ | refine E6 ?_ | refine E7 ?_ | refine E8 ?_ | refine E9 ?_ | refine Ea ?_ | refine Eb ?_ | refine Ec ?_ | refine Ed ?_)
      refine W_condF (by simp only [KA, KP, KQ, simprocAttr, KT w, KI, hw.KF, htm]) ?_
      repeat with_reducible (first | refine E0 ?_ | refine E1 ?_ | refine E2 ?_ | refine E3 ?_ | refine E4 ?_ | refine E5 (by decide) ?_ | refine E6 ?_ | refine E7 ?_ | refine E8 ?_ | refine E9 ?_ | refine Ea ?_ | refine Eb ?_ | refine Ec ?_ | refine Ed ?_)
      refine W_region fun K hK => ?_
      simp only [KA, KB, KP, KQ, simprocAttr, KT w, KI, hw.KF, htm, hop]
      refine hK _ _ ?_
      clear hK
      clear K
      repeat with_reducible (first | refine E0 ?_ | refine E1 ?_ | refine E2 ?_ | refine E3 ?_ | refine E4 ?_ | refine E5 (by decide) ?_ | refine E6 ?_ | refine E7 ?_ | refine E8 ?_ | refine E9 ?_ | refine Ea ?_ | refine Eb ?_ | refine Ec ?_ | refine Ed ?_)
      refine W_condF (by simp only [KA, KP, KQ, simprocAttr, KT w, KI, hw.KF, htm]) ?_
      repeat with_reducible (first | refine E0 ?_ | refine E1 ?_ | refine E2 ?_ | refine E3 ?_ | refine E4 ?_ | refine E5 (by decide) ?_ | refine E6 ?_ | refine E7 ?_ | refine E8 ?_ | refine E9 ?_ | refine Ea ?_ | refine Eb ?_ | refine Ec ?_ | refine Ed ?_)
      refine W_region fun K hK => ?_
      simp only [KA, KB, KP, KQ, simprocAttr, KT w, KI, hw.KF, htm, hop]
      refine hK _ _ ?_
      clear hK
      clear K
      repeat with_reducible (first | refine E0 ?_ | refine E1 ?_ | refine E2 ?_ | refine E3 ?_ | refine E4 ?_ | refine E5 (by decide) ?_ | refine E6 ?_ | refine E7 ?_ | refine E8 ?_ | refine E9 ?_ | refine Ea ?_ | refine Eb ?_ | refine Ec ?_ | refine Ed ?_)
      refine W_condF (by simp only [KA, KP, KQ, simprocAttr, KT w, KI, hw.KF, htm]) ?_
      repeat with_reducible (first | refine E0 ?_ | refine E1 ?_ | refine E2 ?_ | refine E3 ?_ | refine E4 ?_ | refine E5 (by decide) ?_ | refine E6 ?_ | refine E7 ?_ | refine E8 ?_ | refine E9 ?_ | refine Ea ?_ | refine Eb ?_ | refine Ec ?_ | refine Ed ?_)
      refine W_region fun K hK => ?_
      simp only [KA, KB, KP, KQ, simprocAttr, KT w, KI, hw.KF, htm, hop]
      refine hK _ _ ?_
      clear hK
      clear K
      repeat with_reducible (first | refine E0 ?_ | refine E1 ?_ | refine E2 ?_ | refine E3 ?_ | refine E4 ?_ | refine E5 (by decide) ?_ | refine E6 ?_ | refine E7 ?_ | refine E8 ?_ | refine E9 ?_ | refine Ea ?_ | refine Eb ?_ | refine Ec ?_ | refine Ed ?_)
      refine W_condF (by simp only [KA, KP, KQ, simprocAttr, KT w, KI, hw.KF, htm]) ?_
      repeat with_reducible (first | refine E0 ?_ | refine E1 ?_ | refine E2 ?_ | refine E3 ?_ | refine E4 ?_ | refine E5 (by decide) ?_ | refine E6 ?_ | refine E7 ?_ | refine E8 ?_ | refine E9 ?_ | refine Ea ?_ | refine Eb ?_ | refine Ec ?_ | refine Ed ?_)
      refine W_region fun K hK => ?_
      simp only [KA, KB, KP, KQ, simprocAttr, KT w, KI, hw.KF, htm, hop]
      refine hK _ _ ?_
      clear hK
      clear K
      repeat with_reducible (first | refine E0 ?_ | refine E1 ?_ | refine E2 ?_ | refine E3 ?_ | refine E4 ?_ | refine E5 (by decide) ?_ | refine E6 ?_ | refine E7 ?_ | refine E8 ?_ | refine E9 ?_ | refine Ea ?_ | refine Eb ?_ | refine Ec ?_ | refine Ed ?_)
      refine W_condT (by simp only [KA, KP, KQ, simprocAttr, KT w, KI, hw.KF, htm]) ?_
      repeat with_reducible (first | refine E0 ?_ | refine E1 ?_ | refine E2 ?_ | refine E3 ?_ | refine E4 ?_ | refine E5 (by decide) ?_ | refine E6 ?_ | refine E7 ?_ | refine E8 ?_ | refine E9 ?_ | refine Ea ?_ | refine Eb ?_ | refine Ec ?_ | refine Ed ?_)
      refine W_region fun K hK => ?_
      simp only [KA, KB, KP, KQ, simprocAttr, KT w, KI, hw.KF, htm, hx, hy, hz, t3, q0, b0]
      refine hK _ _ ?_
      clear hK
      clear K
      repeat with_reducible (first | refine E0 ?_ | refine E1 ?_ | refine E2 ?_ | refine E3 ?_ | refine E4 ?_ | refine E5 (by decide) ?_ | refine E6 ?_ | refine E7 ?_ | refine E8 ?_ | refine E9 ?_ | refine Ea ?_ | refine Eb ?_ | refine Ec ?_ | refine Ed ?_)
      refine W_region fun K hK => ?_
      simp only [KA, KB, KP, KQ, simprocAttr, KT w, KI, hw.KF, htm, t4, e1]
      refine hK _ _ ?_
      clear hK
      clear K
      refine ⟨p.length - (j + 1), by omega, _, j + 1, rfl, rfl, by omega, St.ok_push hok, by rw [St.pushB]; exact hb, ?_⟩
      rw [h9, hlast]
      simp only [KA, KP, KQ, simprocAttr, KT w, KI, hw.KF, htm, t0, t4]
  · have hjz : (0 : Int) < (j : Int) := by omega
    rw [if_neg hj0] at hnext
    obtain ⟨s1, hs1⟩ : ∃ s1, s1 = s0 ++ [59, 32] := ⟨_, rfl⟩
    have ls1 : s1.length ≤ 5002 := by rw [hs1, List.length_append]; first | omega | (simp; omega)
    rw [← hs1] at hnext
    rcases hops with hop | hop | hop | hop | hop | hop | hop
    · skip
      obtain ⟨w2, q0⟩ : ∃ z : List UInt8, s1 ++ [99, 104, 97, 114, 32] = z := ⟨_, rfl⟩
      have l0 : w2.length ≤ 5008 := by rw [← q0, List.length_append]; first | omega | (simp; omega)
      have b0 : (s1.length : Int) + 5 ≤ maxI64 := by unfold maxI64; omega
      obtain ⟨w3, q1⟩ : ∃ z : List UInt8, w2 ++ Dx = z := ⟨_, rfl⟩
      have l1 : w3.length ≤ 5014 := by rw [← q1, List.length_append]; first | omega | (simp; omega)
      have b1 : (w2.length : Int) + (Dx.length : Int) ≤ maxI64 := by unfold maxI64; omega
      obtain ⟨w4, q2⟩ : ∃ z : List UInt8, w3 ++ [32] = z := ⟨_, rfl⟩
      have l2 : w4.length ≤ 5020 := by rw [← q2, List.length_append]; first | omega | (simp; omega)
      have b2 : (w3.length : Int) + 1 ≤ maxI64 := by unfold maxI64; omega
      obtain ⟨w5, q3⟩ : ∃ z : List UInt8, w4 ++ Dy = z := ⟨_, rfl⟩
      have l3 : w5.length ≤ 5026 := by rw [← q3, List.length_append]; first | omega | (simp; omega)
      have b3 : (w4.length : Int) + (Dy.length : Int) ≤ maxI64 := by unfold maxI64; omega
      obtain ⟨w6, q4⟩ : ∃ z : List UInt8, w5 ++ [32] = z := ⟨_, rfl⟩
      have l4 : w6.length ≤ 5032 := by rw [← q4, List.length_append]; first | omega | (simp; omega)
      have b4 : (w5.length : Int) + 1 ≤ maxI64 := by unfold maxI64; omega
      obtain ⟨w7, q5⟩ : ∃ z : List UInt8, w6 ++ Dz = z := ⟨_, rfl⟩
      have l5 : w7.length ≤ 5038 := by rw [← q5, List.length_append]; first | omega | (simp; omega)
      have b5 : (w6.length : Int) + (Dz.length : Int) ≤ maxI64 := by unfold maxI64; omega
      have hlast : s9 = w7 := by
        rw [hnext, ← q5, ← q4, ← q3, ← q2, ← q1, ← q0, htxt, hop]
        simp [nameOf, fldsOf, vx, vy, vz, ← hDx, ← hDy, ← hDz]
      refine W_region fun K hK => ?_
      simp only [KA, KB, KP, KQ, simprocAttr, KT w, KI, hw.KF, htm, t4, hjz]
      refine hK _ _ ?_
      clear hK
      clear K
      repeat with_reducible (first | refine E0 ?_ | refine E1 ?_ | refine E2 ?_ | refine E3 ?_ | refine E4 ?_ | refine E5 (by decide) ?_ | refine E6 ?_ | refine E7 ?_ | refine E8 ?_ | refine E9 ?_ | refine Ea ?_ | refine Eb ?_ | refine Ec ?_ | refine Ed ?_)
      refine W_condT (by simp only [KA, KP, KQ, simprocAttr, KT w, KI, hw.KF, htm, hjz]) ?_
      repeat with_reducible (first | refine E0 ?_ | refine E1 ?_ | refine E2 ?_ | refine E3 ?_ | refine E4 ?_ | refine E5 (by decide) ?_ | refine E6 ?_ | refine E7 ?_ | refine E8 ?_ | refine E9 ?_ | refine Ea ?_ | refine Eb ?_ | refine Ec ?_ | refine Ed ?_)
      refine W_region fun K hK => ?_
      simp only [KA, KB, KP, KQ, simprocAttr, KT w, KI, hw.KF, htm, t3, m2, hs1.symm]
      refine hK _ _ ?_
      clear hK
      clear K
      repeat with_reducible (first | refine E0 ?_ | refine E1 ?_ | refine E2 ?_ | refine E3 ?_ | refine E4 ?_ | refine E5 (by decide) ?_ | refine E6 ?_ | refine E7 ?_ | refine E8 ?_ | refine E9 ?_ | refine Ea ?_ | refine Eb ?_ | refine Ec ?_ | refine Ed ?_)
      refine W_region fun K hK => ?_
      simp only [KA, KB, KP, KQ, simprocAttr, KT w, KI, hw.KF, htm]
      refine hK _ _ ?_
      clear hK
      clear K
      repeat with_reducible (first | refine E0 ?_ | refine E1 ?_ | refine E2 ?_ | refine E3 ?_ | refine E4 ?_ | refine E5 (by decide) ?_ | refine E6 ?_ | refine E7 ?_ | refine E8 ?_ | refine E9 ?_ | refine Ea ?_ | refine Eb ?_ | refine Ec ?_ | refine Ed ?_)
      refine W_region fun K hK => ?_
      simp only [KA, KB, KP, KQ, simprocAttr, KT w, KI, hw.KF, htm, hop]
      refine hK _ _ ?_
      clear hK
      clear K
      repeat with_reducible (first | refine E0 ?_ | refine E1 ?_ | refine E2 ?_ | refine E3 ?_ | refine E4 ?_ | refine E5 (by decide) ?_ | refine E6 ?_ | refine E7 ?_ | refine E8 ?_ | refine E9 ?_ | refine Ea ?_ | refine Eb ?_ | refine Ec ?_ | refine Ed ?_)
      refine W_condT (by simp only [KA, KP, KQ, simprocAttr, KT w, KI, hw.KF, htm]) ?_
      repeat with_reducible (first | refine E0 ?_ | refine E1 ?_ | refine E2 ?_ | refine E3 ?_ | refine E4 ?_ | refine E5 (by decide) ?_ | refine E6 ?_ | refine E7 ?_ | refine E8 ?_ | refine E9 ?_ | refine Ea ?_ | refine Eb ?_ | refine Ec ?_ | refine Ed ?_)
      refine W_regionQ (by decide +kernel) fun K hK => ?_
      simp only [KA, KB, KP, KQ, simprocAttr, KT w, KI, hw.KF, htm, hx, hy, hz, q0, b0, q1, b1, q2, b2, q3, b3, q4, b4, q5, b5]
      refine hK _ _ ?_
      clear hK
      clear K
      repeat with_reducible (first | refine E0 ?_ | refine E1 ?_ | refine E2 ?_ | refine E3 ?_ | refine E4 ?_ | refine E5 (by decide) ?_ | refine E6 ?_ | refine E7 ?_ | refine E8 ?_ | refine E9 ?_ | refine Ea ?_ | refine Eb ?_ | refine Ec ?_ | refine Ed ?_)
      refine W_region fun K hK => ?_
      simp only [KA, KB, KP, KQ, simprocAttr, KT w, KI, hw.KF, htm, t4, e1]
      refine hK _ _ ?_
      clear hK
      clear K
      refine ⟨p.length - (j + 1), by omega, _, j + 1, rfl, rfl, by omega, St.ok_push hok, by rw [St.pushB]; exact hb, ?_⟩
      rw [h9, hlast]
      simp only [KA, KP, KQ, simprocAttr, KT w, KI, hw.KF, htm, t0, t4]
    · skip
      obtain ⟨w2, q0⟩ : ∃ z : List UInt8, s1 ++ [105, 115, 32] = z := ⟨_, rfl⟩
      have l0 : w2.length ≤ 5008 := by rw [← q0, List.length_append]; first | omega | (simp; omega)
      have b0 : (s1.length : Int) + 3 ≤ maxI64 := by unfold maxI64; omega
      obtain ⟨w3, q1⟩ : ∃ z : List UInt8, w2 ++ Dx = z := ⟨_, rfl⟩
      have l1 : w3.length ≤ 5014 := by rw [← q1, List.length_append]; first | omega | (simp; omega)
      have b1 : (w2.length : Int) + (Dx.length : Int) ≤ maxI64 := by unfold maxI64; omega
      obtain ⟨w4, q2⟩ : ∃ z : List UInt8, w3 ++ [32] = z := ⟨_, rfl⟩
      have l2 : w4.length ≤ 5020 := by rw [← q2, List.length_append]; first | omega | (simp; omega)
      have b2 : (w3.length : Int) + 1 ≤ maxI64 := by unfold maxI64; omega
      obtain ⟨w5, q3⟩ : ∃ z : List UInt8, w4 ++ Dz = z := ⟨_, rfl⟩
      have l3 : w5.length ≤ 5026 := by rw [← q3, List.length_append]; first | omega | (simp; omega)
      have b3 : (w4.length : Int) + (Dz.length : Int) ≤ maxI64 := by unfold maxI64; omega
      have hlast : s9 = w5 := by
        rw [hnext, ← q3, ← q2, ← q1, ← q0, htxt, hop]
        simp [nameOf, fldsOf, vx, vy, vz, ← hDx, ← hDy, ← hDz]
      refine W_region fun K hK => ?_
      simp only [KA, KB, KP, KQ, simprocAttr, KT w, KI, hw.KF, htm, t4, hjz]
      refine hK _ _ ?_
      clear hK
      clear K
      repeat with_reducible (first | refine E0 ?_ | refine E1 ?_ | refine E2 ?_ | refine E3 ?_ | refine E4 ?_ | refine E5 (by decide) ?_ | refine E6 ?_ | refine E7 ?_ | refine E8 ?_ | refine E9 ?_ | refine Ea ?_ | refine Eb ?_ | refine Ec ?_ | refine Ed ?_)
      refine W_condT (by simp only [KA, KP, KQ, simprocAttr, KT w, KI, hw.KF, htm, hjz]) ?_
      repeat with_reducible (first | refine E0 ?_ | refine E1 ?_ | refine E2 ?_ | refine E3 ?_ | refine E4 ?_ | refine E5 (by decide) ?_ | refine E6 ?_ | refine E7 ?_ | refine E8 ?_ | refine E9 ?_ | refine Ea ?_ | refine Eb ?_ | refine Ec ?_ | refine Ed ?_)
      refine W_region fun K hK => ?_
      simp only [KA, KB, KP, KQ, simprocAttr, KT w, KI, hw.KF, htm, t3, m2, hs1.symm]
      refine hK _ _ ?_
      clear hK
      clear K
      repeat with_reducible (first | refine E0 ?_ | refine E1 ?_ | refine E2 ?_ | refine E3 ?_ | refine E4 ?_ | refine E5 (by decide) ?_ | refine E6 ?_ | refine E7 ?_ | refine E8 ?_ | refine E9 ?_ | refine Ea ?_ | refine Eb ?_ | refine Ec ?_ | refine Ed ?_)
      refine W_region fun K hK => ?_
      simp only [KA, KB, KP, KQ, simprocAttr, KT w, KI, hw.KF, htm]
      refine hK _ _ ?_
      clear hK
      clear K
      repeat with_reducible (first | refine E0 ?_ | refine E1 ?_ | refine E2 ?_ | refine E3 ?_ | refine E4 ?_ | refine E5 (by decide) ?_ | refine E6 ?_ | refine E7 ?_ | refine E8 ?_ | refine E9 ?_ | refine Ea ?_ | refine Eb ?_ | refine Ec ?_ | refine Ed ?_)
      refine W_region fun K hK => ?_
      simp only [KA, KB, KP, KQ, simprocAttr, KT w, KI, hw.KF, htm, hop]
      refine hK _ _ ?_
      clear hK
      clear K
      repeat with_reducible (first | refine E0 ?_ | refine E1 ?_ | refine E2 ?_ | refine E3 ?_ | refine E4 ?_ | refine E5 (by decide) ?_ | refine E6 ?_ | refine E7 ?_ | refine E8 ?_ | refine E9 ?_ | refine Ea ?_ | refine Eb ?_ | refine Ec ?_ | refine Ed ?_)
      refine W_condF (by simp only [KA, KP, KQ, simprocAttr, KT w, KI, hw.KF, htm]) ?_
      repeat with_reducible (first | refine E0 ?_ | refine E1 ?_ | refine E2 ?_ | refine E3 ?_ | refine E4 ?_ | refine E5 (by decide) ?_ | refine E6 ?_ | refine E7 ?_ | refine E8 ?_ | refine E9 ?_ | refine Ea ?_ | refine Eb ?_ | refine Ec ?_ | refine Ed ?_)
      refine W_region fun K hK => ?_
      simp only [KA, KB, KP, KQ, simprocAttr, KT w, KI, hw.KF, htm, hop]
      refine hK _ _ ?_
      clear hK
      clear K
      repeat with_reducible (first | refine E0 ?_ | refine E1 ?_ | refine E2 ?_ | refine E3 ?_ | refine E4 ?_ | refine E5 (by decide) ?_ | refine E6 ?_ | refine E7 ?_ | refine E8 ?_ | refine E9 ?_ | refine Ea ?_ | refine Eb ?_ | refine Ec ?_ | refine Ed ?_)
      refine W_condT (by simp only [KA, KP, KQ, simprocAttr, KT w, KI, hw.KF, htm]) ?_
      repeat with_reducible (first | refine E0 ?_ | refine E1 ?_ | refine E2 ?_ | refine E3 ?_ | refine E4 ?_ | refine E5 (by decide) ?_ | refine E6 ?_ | refine E7 ?_ | refine E8 ?_ | refine E9 ?_ | refine Ea ?_ | refine Eb ?_ | refine Ec ?_ | refine Ed ?_)
      refine W_regionQ (by decide +kernel) fun K hK => ?_
      simp only [KA, KB, KP, KQ, simprocAttr, KT w, KI, hw.KF, htm, hx, hy, hz, q0, b0, q1, b1, q2, b2, q3, b3]
      refine hK _ _ ?_
      clear hK
      clear K
      repeat with_reducible (first | refine E0 ?_ | refine E1 ?_ | refine E2 ?_ | refine E3 ?_ | refine E4 ?_ | refine E5 (by decide) ?_ | refine E6 ?_ | refine E7 ?_ | refine E8 ?_ | refine E9 ?_ | refine Ea ?_ | refine Eb ?_ | refine Ec ?_ | refine Ed ?_)
      refine W_region fun K hK => ?_
      simp only [KA, KB, KP, KQ, simprocAttr, KT w, KI, hw.KF, htm, t4, e1]
      refine hK _ _ ?_
      clear hK
      clear K
      refine ⟨p.length - (j + 1), by omega, _, j + 1, rfl, rfl, by omega, St.ok_push hok, by rw [St.pushB]; exact hb, ?_⟩
      rw [h9, hlast]
      simp only [KA, KP, KQ, simprocAttr, KT w, KI, hw.KF, htm, t0, t4]
    · skip
      obtain ⟨w2, q0⟩ : ∃ z : List UInt8, s1 ++ [115, 101, 116, 32] = z := ⟨_, rfl⟩
      have l0 : w2.length ≤ 5008 := by rw [← q0, List.length_append]; first | omega | (simp; omega)
      have b0 : (s1.length : Int) + 4 ≤ maxI64 := by unfold maxI64; omega
      obtain ⟨w3, q1⟩ : ∃ z : List UInt8, w2 ++ Dx = z := ⟨_, rfl⟩
      have l1 : w3.length ≤ 5014 := by rw [← q1, List.length_append]; first | omega | (simp; omega)
      have b1 : (w2.length : Int) + (Dx.length : Int) ≤ maxI64 := by unfold maxI64; omega
      have hlast : s9 = w3 := by
        rw [hnext, ← q1, ← q0, htxt, hop]
        simp [nameOf, fldsOf, vx, vy, vz, ← hDx, ← hDy, ← hDz]
      refine W_region fun K hK => ?_
      simp only [KA, KB, KP, KQ, simprocAttr, KT w, KI, hw.KF, htm, t4, hjz]
      refine hK _ _ ?_
      clear hK
      clear K
      repeat with_reducible (first | refine E0 ?_ | refine E1 ?_ | refine E2 ?_ | refine E3 ?_ | refine E4 ?_ | refine E5 (by decide) ?_ | refine E6 ?_ | refine E7 ?_ | refine E8 ?_ | refine E9 ?_ | refine Ea ?_ | refine Eb ?_ | refine Ec ?_ | refine Ed ?_)
      refine W_condT (by simp only [KA, KP, KQ, simprocAttr, KT w, KI, hw.KF, htm, hjz]) ?_
      repeat with_reducible (first | refine E0 ?_ | refine E1 ?_ | refine E2 ?_ | refine E3 ?_ | refine E4 ?_ | refine E5 (by decide) ?_ | refine E6 ?_ | refine E7 ?_ | refine E8 ?_ | refine E9 ?_ | refine Ea ?_ | refine Eb ?_ | refine Ec ?_ | refine Ed ?_)
      refine W_region fun K hK => ?_
      simp only [KA, KB, KP, KQ, simprocAttr, KT w, KI, hw.KF, htm, t3, m2, hs1.symm]
      refine hK _ _ ?_
      clear hK
      clear K
      repeat with_reducible (first | refine E0 ?_ | refine E1 ?_ | refine E2 ?_ | refine E3 ?_ | refine E4 ?_ | refine E5 (by decide) ?_ | refine E6 ?_ | refine E7 ?_ | refine E8 ?_ | refine E9 ?_ | refine Ea ?_ | refine Eb ?_ | refine Ec ?_ | refine Ed ?_)
      refine W_region fun K hK => ?_
      simp only [KA, KB, KP, KQ, simprocAttr, KT w, KI, hw.KF, htm]
      refine hK _ _ ?_
      clear hK
      clear K
      repeat with_reducible (first | refine E0 ?_ | refine E1 ?_ | refine E2 ?_ | refine E3 ?_ | refine E4 ?_ | refine E5 (by decide) ?_ | refine E6 ?_ | refine E7 ?_ | refine E8 ?_ | refine E9 ?_ | refine Ea ?_ | refine Eb ?_ | refine Ec ?_ | refine Ed ?_)
      refine W_region fun K hK => ?_
      simp only [KA, KB, KP, KQ, simprocAttr, KT w, KI, hw.KF, htm, hop]
      refine hK _ _ ?_
      clear hK
      clear K
      repeat with_reducible (first | refine E0 ?_ | refine E1 ?_ | refine E2 ?_ | refine E3 ?_ | refine E4 ?_ | refine E5 (by decide) ?_ | refine E6 ?_ | refine E7 ?_ | refine E8 ?_ | refine E9 ?_ | refine Ea ?_ | refine Eb ?_ | refine Ec ?_ | refine Ed ?_)
      refine W_condF (by simp only [KA, KP, KQ, simprocAttr, KT w, KI, hw.KF, htm]) ?_
      repeat with_reducible (first | refine E0 ?_ | refine E1 ?_ | refine E2 ?_ | refine E3 ?_ | refine E4 ?_ | refine E5 (by decide) ?_ | refine E6 ?_ | refine E7 ?_ | refine E8 ?_ | refine E9 ?_ | refine Ea ?_ | refine Eb ?_ | refine Ec ?_ | refine Ed ?_)
      refine W_region fun K hK => ?_
      simp only [KA, KB, KP, KQ, simprocAttr, KT w, KI, hw.KF, htm, hop]
      refine hK _ _ ?_
      clear hK
      clear K
      repeat with_reducible (first | refine E0 ?_ | refine E1 ?_ | refine E2 ?_ | refine E3 ?_ | refine E4 ?_ | refine E5 (by decide) ?_ | refine E6 ?_ | refine E7 ?_ | refine E8 ?_ | refine E9 ?_ | refine Ea ?_ | refine Eb ?_ | refine Ec ?_ | refine Ed ?_)
      refine W_condF (by simp only [KA, KP, KQ, simprocAttr, KT w, KI, hw.KF, htm]) ?_
      repeat with_reducible (first | refine E0 ?_ | refine E1 ?_ | refine E2 ?_ | refine E3 ?_ | refine E4 ?_ | refine E5 (by decide) ?_ | refine E6 ?_ | refine E7 ?_ | refine E8 ?_ | refine E9 ?_ | refine Ea ?_ | refine Eb ?_ | refine Ec ?_ | refine Ed ?_)
      refine W_region fun K hK => ?_
      simp only [KA, KB, KP, KQ, simprocAttr, KT w, KI, hw.KF, htm, hop]
      refine hK _ _ ?_
      clear hK
      clear K
      repeat with_reducible (first | refine E0 ?_ | refine E1 ?_ | refine E2 ?_ | refine E3 ?_ | refine E4 ?_ | refine E5 (by decide) ?_ | refine E6 ?_ | refine E7 ?_ | refine E8 ?_ | refine E9 ?_ | refine Ea ?_ | refine Eb ?_ | refine Ec ?_ | refine Ed ?_)
      refine W_condT (by simp only [KA, KP, KQ, simprocAttr, KT w, KI, hw.KF, htm]) ?_
      repeat with_reducible (first | refine E0 ?_ | refine E1 ?_ | refine E2 ?_ | refine E3 ?_ | refine E4 ?_ | refine E5 (by decide) ?_ | refine E6 ?_ | refine E7 ?_ | refine E8 ?_ | refine E9 ?_ | refine Ea ?_ | refine Eb ?_ | refine Ec ?_ | refine Ed ?_)
      refine W_region fun K hK => ?_
      simp only [KA, KB, KP, KQ, simprocAttr, KT w, KI, hw.KF, htm, hx, hy, hz, q0, b0, q1, b1]
      refine hK _ _ ?_
      clear hK
      clear K
      repeat with_reducible (first | refine E0 ?_ | refine E1 ?_ | refine E2 ?_ | refine E3 ?_ | refine E4 ?_ | refine E5 (by decide) ?_ | refine E6 ?_ | refine E7 ?_ | refine E8 ?_ | refine E9 ?_ | refine Ea ?_ | refine Eb ?_ | refine Ec ?_ | refine Ed ?_)
      refine W_region fun K hK => ?_
      simp only [KA, KB, KP, KQ, simprocAttr, KT w, KI, hw.KF, htm, t4, e1]
      refine hK _ _ ?_
      clear hK
      clear K
      refine ⟨p.length - (j + 1), by omega, _, j + 1, rfl, rfl, by omega, St.ok_push hok, by rw [St.pushB]; exact hb, ?_⟩
      rw [h9, hlast]
      simp only [KA, KP, KQ, simprocAttr, KT w, KI, hw.KF, htm, t0, t4]
    · skip
      obtain ⟨w2, q0⟩ : ∃ z : List UInt8, s1 ++ [97, 100, 100, 32] = z := ⟨_, rfl⟩
      have l0 : w2.length ≤ 5008 := by rw [← q0, List.length_append]; first | omega | (simp; omega)
      have b0 : (s1.length : Int) + 4 ≤ maxI64 := by unfold maxI64; omega
      obtain ⟨w3, q1⟩ : ∃ z : List UInt8, w2 ++ Dx = z := ⟨_, rfl⟩
      have l1 : w3.length ≤ 5014 := by rw [← q1, List.length_append]; first | omega | (simp; omega)
      have b1 : (w2.length : Int) + (Dx.length : Int) ≤ maxI64 := by unfold maxI64; omega
      have hlast : s9 = w3 := by
        rw [hnext, ← q1, ← q0, htxt, hop]
        simp [nameOf, fldsOf, vx, vy, vz, ← hDx, ← hDy, ← hDz]
      refine W_region fun K hK => ?_
      simp only [KA, KB, KP, KQ, simprocAttr, KT w, KI, hw.KF, htm, t4, hjz]
      refine hK _ _ ?_
      clear hK
      clear K
      repeat with_reducible (first | refine E0 ?_ | refine E1 ?_ | refine E2 ?_ | refine E3 ?_ | refine E4 ?_ | refine E5 (by decide) ?_ | refine E6 ?_ | refine E7 ?_ | refine E8 ?_ | refine E9 ?_ | refine Ea ?_ | refine Eb ?_ | refine Ec ?_ | refine Ed ?_)
      refine W_condT (by simp only [KA, KP, KQ, simprocAttr, KT w, KI, hw.KF, htm, hjz]) ?_
      repeat with_reducible (first | refine E0 ?_ | refine E1 ?_ | refine E2 ?_ | refine E3 ?_ | refine E4 ?_ | refine E5 (by decide) ?_ | refine E6 ?_ | refine E7 ?_ | refine E8 ?_ | refine E9 ?_ | refine Ea ?_ | refine Eb ?_ | refine Ec ?_ | refine Ed ?_)
      refine W_region fun K hK => ?_
      simp only [KA, KB, KP, KQ, simprocAttr, KT w, KI, hw.KF, htm, t3, m2, hs1.symm]
      refine hK _ _ ?_
      clear hK
      clear K
      repeat with_reducible (first | refine E0 ?_ | refine E1 ?_ | refine E2 ?_ | refine E3 ?_ | refine E4 ?_ | refine E5 (by decide) ?_ | refine E6 ?_ | refine E7 ?_ | refine E8 ?_ | refine E9 ?_ | refine Ea ?_ | refine Eb ?_ | refine Ec ?_ | refine Ed ?_)
      refine W_region fun K hK => ?_
      simp only [KA, KB, KP, KQ, simprocAttr, KT w, KI, hw.KF, htm]
      refine hK _ _ ?_
      clear hK
      clear K
      repeat with_reducible (first | refine E0 ?_ | refine E1 ?_ | refine E2 ?_ | refine E3 ?_ | refine E4 ?_ | refine E5 (by decide) ?_ | refine E6 ?_ | refine E7 ?_ | refine E8 ?_ | refine E9 ?_ | refine Ea ?_ | refine Eb ?_ | refine Ec ?_ | refine Ed ?_)
      refine W_region fun K hK => ?_
      simp only [KA, KB, KP, KQ, simprocAttr, KT w, KI, hw.KF, htm, hop]
      refine hK _ _ ?_
      clear hK
      clear K
      repeat with_reducible (first | refine E0 ?_ | refine E1 ?_ | refine E2 ?_ | refine E3 ?_ | refine E4 ?_ | refine E5 (by decide) ?_ | refine E6 ?_ | refine E7 ?_ | refine E8 ?_ | refine E9 ?_ | refine Ea ?_ | refine Eb ?_ | refine Ec ?_ | refine Ed ?_)
      refine W_condF (by simp only [KA, KP, KQ, simprocAttr, KT w, KI, hw.KF, htm]) ?_
      repeat with_reducible (first | refine E0 ?_ | refine E1 ?_ | refine E2 ?_ | refine E3 ?_ | refine E4 ?_ | refine E5 (by decide) ?_ | refine E6 ?_ | refine E7 ?_ | refine E8 ?_ | refine E9 ?_ | refine Ea ?_ | refine Eb ?_ | refine Ec ?_ | refine Ed ?_)
      refine W_region fun K hK => ?_
      simp only [KA, KB, KP, KQ, simprocAttr, KT w, KI, hw.KF, htm, hop]
      refine hK _ _ ?_
      clear hK
      clear K
      repeat with_reducible (first | refine E0 ?_ | refine E1 ?_ | refine E2 ?_ | refine E3 ?_ | refine E4 ?_ | refine E5 (by decide) ?_ | refine E6 ?_ | refine E7 ?_ | refine E8 ?_ | refine E9 ?_ | refine Ea ?_ | refine Eb ?_ | refine Ec ?_ | refine Ed ?_)
      refine W_condF (by simp only [KA, KP, KQ, simprocAttr, KT w, KI, hw.KF, htm]) ?_
      repeat with_reducible (first | refine E0 ?_ | refine E1 ?_ | refine E2 ?_ | refine E3 ?_ | refine E4 ?_ | refine E5 (by decide) ?_ | refine E6 ?_ | refine E7 ?_ | refine E8 ?_ | refine E9 ?_ | refine Ea ?_ | refine Eb ?_ | refine Ec ?_ | refine Ed ?_)
      refine W_region fun K hK => ?_
      simp only [KA, KB, KP, KQ, simprocAttr, KT w, KI, hw.KF, htm, hop]
      refine hK _ _ ?_
      clear hK
      clear K
      repeat with_reducible (first | refine E0 ?_ | refine E1 ?_ | refine E2 ?_ | refine E3 ?_ | refine E4 ?_ | refine E5 (by decide) ?_ | refine E6 ?_ | refine E7 ?_ | refine E8 ?_ | refine E9 ?_ | refine Ea ?_ | refine Eb ?_ | refine Ec ?_ | refine Ed ?_)
      refine W_condF (by simp only [KA, KP, KQ, simprocAttr, KT w, KI, hw.KF, htm]) ?_
      repeat with_reducible (first | refine E0 ?_ | refine E1 ?_ | refine E2 ?_ | refine E3 ?_ | refine E4 ?_ | refine E5 (by decide) ?_ | refine E6 ?_ | refine E7 ?_ | refine E8 ?_ | refine E9 ?_ | refine Ea ?_ | refine Eb ?_ | refine Ec ?_ | refine Ed ?_)
      refine W_region fun K hK => ?_
      simp only [KA, KB, KP, KQ, simprocAttr, KT w, KI, hw.KF, htm, hop]
      refine hK _ _ ?_
      clear hK
      clear K
      repeat with_reducible (first | refine E0 ?_ | refine E1 ?_ | refine E2 ?_ | refine E3 ?_ | refine E4 ?_ | refine E5 (by decide) ?_ | refine E6 ?_ | refine E7 ?_ | refine E8 ?_ | refine E9 ?_ | refine Ea ?_ | refine Eb ?_ | refine Ec ?_ | refine Ed ?_)
      refine W_condT (by simp only [KA, KP, KQ, simprocAttr, KT w, KI, hw.KF, htm]) ?_
      repeat with_reducible (first | refine E0 ?_ | refine E1 ?_ | refine E2 ?_ | refine E3 ?_ | refine E4 ?_ | refine E5 (by decide) ?_ | refine E6 ?_ | refine E7 ?_ | refine E8 ?_ | refine E9 ?_ | refine Ea ?_ | refine Eb ?_ | refine Ec ?_ | refine Ed ?_)
      refine W_region fun K hK => ?_
      simp only [KA, KB, KP, KQ, simprocAttr, KT w, KI, hw.KF, htm, hx, hy, hz, q0, b0, q1, b1]
      refine hK _ _ ?_
      clear hK
      clear K
      repeat with_reducible (first | refine E0 ?_ | refine E1 ?_ | refine E2 ?_ | refine E3 ?_ | refine E4 ?_ | refine E5 (by decide) ?_ | refine E6 ?_ | refine E7 ?_ | refine E8 ?_ | refine E9 ?_ | refine Ea ?_ | refine Eb ?_ | refine Ec ?_ | refine Ed ?_)
      refine W_region fun K hK => ?_
      simp only [KA, KB, KP, KQ, simprocAttr, KT w, KI, hw.KF, htm, t4, e1]
      refine hK _ _ ?_
      clear hK
      clear K
      refine ⟨p.length - (j + 1), by omega, _, j + 1, rfl, rfl, by omega, St.ok_push hok, by rw [St.pushB]; exact hb, ?_⟩
      rw [h9, hlast]
      simp only [KA, KP, KQ, simprocAttr, KT w, KI, hw.KF, htm, t0, t4]
    · skip
      obtain ⟨w2, q0⟩ : ∃ z : List UInt8, s1 ++ [103, 111, 116, 111, 32] = z := ⟨_, rfl⟩
      have l0 : w2.length ≤ 5008 := by rw [← q0, List.length_append]; first | omega | (simp; omega)
      have b0 : (s1.length : Int) + 5 ≤ maxI64 := by unfold maxI64; omega
      obtain ⟨w3, q1⟩ : ∃ z : List UInt8, w2 ++ Dz = z := ⟨_, rfl⟩
      have l1 : w3.length ≤ 5014 := by rw [← q1, List.length_append]; first | omega | (simp; omega)
      have b1 : (w2.length : Int) + (Dz.length : Int) ≤ maxI64 := by unfold maxI64; omega
      have hlast : s9 = w3 := by
        rw [hnext, ← q1, ← q0, htxt, hop]
        simp [nameOf, fldsOf, vx, vy, vz, ← hDx, ← hDy, ← hDz]
      refine W_region fun K hK => ?_
      simp only [KA, KB, KP, KQ, simprocAttr, KT w, KI, hw.KF, htm, t4, hjz]
      refine hK _ _ ?_
      clear hK
      clear K
      repeat with_reducible (first | refine E0 ?_ | refine E1 ?_ | refine E2 ?_ | refine E3 ?_ | refine E4 ?_ | refine E5 (by decide) ?_ | refine E6 ?_ | refine E7 ?_ | refine E8 ?_ | refine E9 ?_ | refine Ea ?_ | refine Eb ?_ | refine Ec ?_ | refine Ed ?_)
      refine W_condT (by simp only [KA, KP, KQ, simprocAttr, KT w, KI, hw.KF, htm, hjz]) ?_
      repeat with_reducible (first | refine E0 ?_ | refine E1 ?_ | refine E2 ?_ | refine E3 ?_ | refine E4 ?_ | refine E5 (by decide) ?_ | refine E6 ?_ | refine E7 ?_ | refine E8 ?_ | refine E9 ?_ | refine Ea ?_ | refine Eb ?_ | refine Ec ?_ | refine Ed ?_)
      refine W_region fun K hK => ?_
      simp only [KA, KB, KP, KQ, simprocAttr, KT w, KI, hw.KF, htm, t3, m2, hs1.symm]
      refine hK _ _ ?_
      clear hK
      clear K
      repeat with_reducible (first | refine E0 ?_ | refine E1 ?_ | refine E2 ?_ | refine E3 ?_ | refine E4 ?_ | refine E5 (by decide) ?_ | refine E6 ?_ | refine E7 ?_ | refine E8 ?_ | refine E9 ?_ | refine Ea ?_ | refine Eb ?_ | refine Ec ?_ | refine Ed ?_)
      refine W_region fun K hK => ?_
      simp only [KA, KB, KP, KQ, simprocAttr, KT w, KI, hw.KF, htm]
      refine hK _ _ ?_
      clear hK
      clear K
      repeat with_reducible (first | refine E0 ?_ | refine E1 ?_ | refine E2 ?_ | refine E3 ?_ | refine E4 ?_ | refine E5 (by decide) ?_ | refine E6 ?_ | refine E7 ?_ | refine E8 ?_ | refine E9 ?_ | refine Ea ?_ | refine Eb ?_ | refine Ec ?_ | refine Ed ?_)
      refine W_region fun K hK => ?_
      simp only [KA, KB, KP, KQ, simprocAttr, KT w, KI, hw.KF, htm, hop]
      refine hK _ _ ?_
      clear hK
      clear K
      repeat with_reducible (first | refine E0 ?_ | refine E1 ?_ | refine E2 ?_ | refine E3 ?_ | refine E4 ?_ | refine E5 (by decide) ?_ | refine E6 ?_ | refine E7 ?_ | refine E8 ?_ | refine E9 ?_ | refine Ea ?_ | refine Eb ?_ | refine Ec ?_ | refine Ed ?_)
      refine W_condF (by simp only [KA, KP, KQ, simprocAttr, KT w, KI, hw.KF, htm]) ?_
      repeat with_reducible (first | refine E0 ?_ | refine E1 ?_ | refine E2 ?_ | refine E3 ?_ | refine E4 ?_ | refine E5 (by decide) ?_ | refine E6 ?_ | refine E7 ?_ | refine E8 ?_ | refine E9 ?_ | refine Ea ?_ | refine Eb ?_ | refine Ec ?_ | refine Ed ?_)
      refine W_region fun K hK => ?_
      simp only [KA, KB, KP, KQ, simprocAttr, KT w, KI, hw.KF, htm, hop]
      refine hK _ _ ?_
      clear hK
      clear K
      repeat with_reducible (first | refine E0 ?_ | refine E1 ?_ | refine E2 ?_ | refine E3 ?_ | refine E4 ?_ | refine E5 (by decide) ?_ | refine E6 ?_ | refine E7 ?_ | refine E8 ?_ | refine E9 ?_ | refine Ea ?_ | refine Eb ?_ | refine Ec ?_ | refine Ed ?_)
      refine W_condF (by simp only [KA, KP, KQ, simprocAttr, KT w, KI, hw.KF, htm]) ?_
      repeat with_reducible (first | refine E0 ?_ | refine E1 ?_ | refine E2 ?_ | refine E3 ?_ | refine E4 ?_ | refine E5 (by decide) ?_ | refine E6 ?_ | refine E7 ?_ | refine E8 ?_ | refine E9 ?_ | refine Ea ?_ | refine Eb ?_ | refine Ec ?_ | refine Ed ?_)
      refine W_region fun K hK => ?_
      simp only [KA, KB, KP, KQ, simprocAttr, KT w, KI, hw.KF, htm, hop]
      refine hK _ _ ?_
      clear hK
      clear K
      repeat with_reducible (first | refine E0 ?_ | refine E1 ?_ | refine E2 ?_ | refine E3 ?_ | refine E4 ?_ | refine E5 (by decide) ?_ | refine E6 ?_ | refine E7 ?_ | refine E8 ?_ | refine E9 ?_ | refine Ea ?_ | refine Eb ?_ | refine Ec ?_ | refine Ed ?_)
      refine W_condF (by simp only [KA, KP, KQ, simprocAttr, KT w, KI, hw.KF, htm]) ?_
      repeat with_reducible (first | refine E0 ?_ | refine E1 ?_ | refine E2 ?_ | refine E3 ?_ | refine E4 ?_ | refine E5 (by decide) ?_ | refine E6 ?_ | refine E7 ?_ | refine E8 ?_ | refine E9 ?_ | refine Ea ?_ | refine Eb ?_ | refine Ec ?_ | refine Ed ?_)
      refine W_region fun K hK => ?_
      simp only [KA, KB, KP, KQ, simprocAttr, KT w, KI, hw.KF, htm, hop]
      refine hK _ _ ?_
      clear hK
      clear K
      repeat with_reducible (first | refine E0 ?_ | refine E1 ?_ | refine E2 ?_ | refine E3 ?_ | refine E4 ?_ | refine E5 (by decide) ?_ | refine E6 ?_ | refine E7 ?_ | refine E8 ?_ | refine E9 ?_ | refine Ea ?_ | refine Eb ?_ | refine Ec ?_ | refine Ed ?_)
      refine W_condF (by simp only [KA, KP, KQ, simprocAttr, KT w, KI, hw.KF, htm]) ?_
      repeat with_reducible (first | refine E0 ?_ | refine E1 ?_ | refine E2 ?_ | refine E3 ?_ | refine E4 ?_ | refine E5 (by decide) ?_ | refine E6 ?_ | refine E7 ?_ | refine E8 ?_ | refine E9 ?_ | refine Ea ?_ | refine Eb ?_ | refine Ec ?_ | refine Ed ?_)
      refine W_region fun K hK => ?_
      simp only [KA, KB, KP, KQ, simprocAttr, KT w, KI, hw.KF, htm, hop]
      refine hK _ _ ?_
      clear hK
      clear K
      repeat with_reducible (first | refine E0 ?_ | refine E1 ?_ | refine E2 ?_ | refine E3 ?_ | refine E4 ?_ | refine E5 (by decide) ?_ | refine E6 ?_ | refine E7 ?_ | refine E8 ?_ | refine E9 ?_ | refine Ea ?_ | refine Eb ?_ | refine Ec ?_ | refine Ed ?_)
      refine W_condT (by simp only [KA, KP, KQ, simprocAttr, KT w, KI, hw.KF, htm]) ?_
      repeat with_reducible (first | refine E0 ?_ | refine E1 ?_ | refine E2 ?_ | refine E3 ?_ | refine E4 ?_ | refine E5 (by decide) ?_ | refine E6 ?_ | refine E7 ?_ | refine E8 ?_ | refine E9 ?_ | refine Ea ?_ | refine Eb ?_ | refine Ec ?_ | refine Ed ?_)
      refine W_region fun K hK => ?_
      simp only [KA, KB, KP, KQ, simprocAttr, KT w, KI, hw.KF, htm, hx, hy, hz, q0, b0, q1, b1]
      refine hK _ _ ?_
      clear hK
      clear K
      repeat with_reducible (first | refine E0 ?_ | refine E1 ?_ | refine E2 ?_ | refine E3 ?_ | refine E4 ?_ | refine E5 (by decide) ?_ | refine E6 ?_ | refine E7 ?_ | refine E8 ?_ | refine E9 ?_ | refine Ea ?_ | refine Eb ?_ | refine Ec ?_ | refine Ed ?_)
      refine W_region fun K hK => ?_
      simp only [KA, KB, KP, KQ, simprocAttr, KT w, KI, hw.KF, htm, t4, e1]
      refine hK _ _ ?_
      clear hK
      clear K
      refine ⟨p.length - (j + 1), by omega, _, j + 1, rfl, rfl, by omega, St.ok_push hok, by rw [St.pushB]; exact hb, ?_⟩
      rw [h9, hlast]
      simp only [KA, KP, KQ, simprocAttr, KT w, KI, hw.KF, htm, t0, t4]
    · skip
      obtain ⟨w2, q0⟩ : ∃ z : List UInt8, s1 ++ [121, 101, 115] = z := ⟨_, rfl⟩
      have l0 : w2.length ≤ 5008 := by rw [← q0, List.length_append]; first | omega | (simp; omega)
      have b0 : (s1.length : Int) + 3 ≤ maxI64 := by unfold maxI64; omega
      have hlast : s9 = w2 := by
        rw [hnext, ← q0, htxt, hop]
        simp [nameOf, fldsOf, vx, vy, vz, ← hDx, ← hDy, ← hDz]
      refine W_region fun K hK => ?_
      simp only [KA, KB, KP, KQ, simprocAttr, KT w, KI, hw.KF, htm, t4, hjz]
      refine hK _ _ ?_
      clear hK
      clear K
      repeat with_reducible (first | refine E0 ?_ | refine E1 ?_ | refine E2 ?_ | refine E3 ?_ | refine E4 ?_ | refine E5 (by decide) ?_ | refine E6 ?_ | refine E7 ?_ | refine E8 ?_ | refine E9 ?_ | refine Ea ?_ | refine Eb ?_ | refine Ec ?_ | refine Ed ?_)
      refine W_condT (by simp only [KA, KP, KQ, simprocAttr, KT w, KI, hw.KF, htm, hjz]) ?_
      repeat with_reducible (first | refine E0 ?_ | refine E1 ?_ | refine E2 ?_ | refine E3 ?_ | refine E4 ?_ | refine E5 (by decide) ?_ | refine E6 ?_ | refine E7 ?_ | refine E8 ?_ | refine E9 ?_ | refine Ea ?_ | refine Eb ?_ | refine Ec ?_ | refine Ed ?_)
      refine W_region fun K hK => ?_
      simp only [KA, KB, KP, KQ, simprocAttr, KT w, KI, hw.KF, htm, t3, m2, hs1.symm]
      refine hK _ _ ?_
      clear hK
      clear K
      repeat with_reducible (first | refine E0 ?_ | refine E1 ?_ | refine E2 ?_ | refine E3 ?_ | refine E4 ?_ | refine E5 (by decide) ?_ | refine E6 ?_ | refine E7 ?_ | refine E8 ?_ | refine E9 ?_ | refine Ea ?_ | refine Eb ?_ | refine Ec ?_ | refine Ed ?_)
      refine W_region fun K hK => ?_
      simp only [KA, KB, KP, KQ, simprocAttr, KT w, KI, hw.KF, htm]
      refine hK _ _ ?_
      clear hK
      clear K
      repeat with_reducible (first | refine E0 ?_ | refine E1 ?_ | refine E2 ?_ | refine E3 ?_ | refine E4 ?_ | refine E5 (by decide) ?_ | refine E6 ?_ | refine E7 ?_ | refine E8 ?_ | refine E9 ?_ | refine Ea ?_ | refine Eb ?_ | refine Ec ?_ | refine Ed ?_)
      refine W_region fun K hK => ?_
      simp only [KA, KB, KP, KQ, simprocAttr, KT w, KI, hw.KF, htm, hop]
      refine hK _ _ ?_
      clear hK
      clear K
      repeat with_reducible (first | refine E0 ?_ | refine E1 ?_ | refine E2 ?_ | refine E3 ?_ | refine E4 ?_ | refine E5 (by decide) ?_ | refine E6 ?_ | refine E7 ?_ | refine E8 ?_ | refine E9 ?_ | refine Ea ?_ | refine Eb ?_ | refine Ec ?_ | refine Ed ?_)
      refine W_condF (by simp only [KA, KP, KQ, simprocAttr, KT w, KI, hw.KF, htm]) ?_
      repeat with_reducible (first | refine E0 ?_ | refine E1 ?_ | refine E2 ?_ | refine E3 ?_ | refine E4 ?_ | refine E5 (by decide) ?_ | refine E6 ?_ | refine E7 ?_ | refine E8 ?_ | refine E9 ?_ | refine Ea ?_ | refine Eb ?_ | refine Ec ?_ | refine Ed ?_)
      refine W_region fun K hK => ?_
      simp only [KA, KB, KP, KQ, simprocAttr, KT w, KI, hw.KF, htm, hop]
      refine hK _ _ ?_
      clear hK
      clear K
      repeat with_reducible (first | refine E0 ?_ | refine E1 ?_ | refine E2 ?_ | refine E3 ?_ | refine E4 ?_ | refine E5 (by decide) ?_ | refine E6 ?_ | refine E7 ?_ | refine E8 ?_ | refine E9 ?_ | refine Ea ?_ | refine Eb ?_ | refine Ec ?_ | refine Ed ?_)
      refine W_condF (by simp only [KA, KP, KQ, simprocAttr, KT w, KI, hw.KF, htm]) ?_
      repeat with_reducible (first | refine E0 ?_ | refine E1 ?_ | refine E2 ?_ | refine E3 ?_ | refine E4 ?_ | refine E5 (by decide) ?_ | refine E6 ?_ | refine E7 ?_ | refine E8 ?_ | refine E9 ?_ | refine Ea ?_ | refine Eb ?_ | refine Ec ?_ | refine Ed ?_)
      refine W_region fun K hK => ?_
      simp only [KA, KB, KP, KQ, simprocAttr, KT w, KI, hw.KF, htm, hop]
      refine hK _ _ ?_
      clear hK
      clear K
      repeat with_reducible (first | refine E0 ?_ | refine E1 ?_ | refine E2 ?_ | refine E3 ?_ | refine E4 ?_ | refine E5 (by decide) ?_ | refine E6 ?_ | refine E7 ?_ | refine E8 ?_ | refine E9 ?_ | refine Ea ?_ | refine Eb ?_ | refine Ec ?_ | refine Ed ?_)
      refine W_condF (by simp only [KA, KP, KQ, simprocAttr, KT w, KI, hw.KF, htm]) ?_
      repeat with_reducible (first | refine E0 ?_ | refine E1 ?_ | refine E2 ?_ | refine E3 ?_ | refine E4 ?_ | refine E5 (by decide) ?_ | refine E6 ?_ | refine E7 ?_ | refine E8 ?_ | refine E9 ?_ | refine Ea ?_ | refine Eb ?_ | refine Ec ?_ | refine Ed ?_)
      refine W_region fun K hK => ?_
      simp only [KA, KB, KP, KQ, simprocAttr, KT w, KI, hw.KF, htm, hop]
      refine hK _ _ ?_
      clear hK
      clear K
      repeat with_reducible (first | refine E0 ?_ | refine E1 ?_ | refine E2 ?_ | refine E3 ?_ | refine E4 ?_ | refine E5 (by decide) ?_ | refine E6 ?_ | refine E7 ?_ | refine E8 ?_ | refine E9 ?_ | refine Ea ?_ | refine Eb ?_ | refine Ec ?_ | refine Ed ?_)
      refine W_condF (by simp only [KA, KP, KQ, simprocAttr, KT w, KI, hw.KF, htm]) ?_
      repeat with_reducible (first | refine E0 ?_ | refine E1 ?_ | refine E2 ?_ | refine E3 ?_ | refine E4 ?_ | refine E5 (by decide) ?_ | refine E6 ?_ | refine E7 ?_ | refine E8 ?_ | refine E9 ?_ | refine Ea ?_ | refine Eb ?_ | refine Ec ?_ | refine Ed ?_)
      refine W_region fun K hK => ?_
      simp only [KA, KB, KP, KQ, simprocAttr, KT w, KI, hw.KF, htm, hop]
      refine hK _ _ ?_
      clear hK
      clear K
      repeat with_reducible (first | refine E0 ?_ | refine E1 ?_ | refine E2 ?_ | refine E3 ?_ | refine E4 ?_ | refine E5 (by decide) ?_ | refine E6 ?_ | refine E7 ?_ | refine E8 ?_ | refine E9 ?_ | refine Ea ?_ | refine Eb ?_ | refine Ec ?_ | refine Ed ?_)
      refine W_condF (by simp only [KA, KP, KQ, simprocAttr, KT w, KI, hw.KF, htm]) ?_
      repeat with_reducible (first | refine E0 ?_ | refine E1 ?_ | refine E2 ?_ | refine E3 ?_ | refine E4 ?_ | refine E5 (by decide) ?_ | refine E6 ?_ | refine E7 ?_ | refine E8 ?_ | refine E9 ?_ | refine Ea ?_ | refine Eb ?_ | refine Ec ?_ | refine Ed ?_)
      refine W_region fun K hK => ?_
      simp only [KA, KB, KP, KQ, simprocAttr, KT w, KI, hw.KF, htm, hop]
      refine hK _ _ ?_
      clear hK
      clear K
      repeat with_reducible (first | refine E0 ?_ | refine E1 ?_ | refine E2 ?_ | refine E3 ?_ | refine E4 ?_ | refine E5 (by decide) ?_ | refine E6 ?_ | refine E7 ?_ | refine E8 ?_ | refine E9 ?_ | refine Ea ?_ | refine Eb ?_ | refine Ec ?_ | refine Ed ?_)
      refine W_condT (by simp only [KA, KP, KQ, simprocAttr, KT w, KI, hw.KF, htm]) ?_
      repeat with_reducible (first | refine E0 ?_ | refine E1 ?_ | refine E2 ?_ | refine E3 ?_ | refine E4 ?_ | refine E5 (by decide) ?_ | refine E6 ?_ | refine E7 ?_ | refine E8 ?_ | refine E9 ?_ | refine Ea ?_ | refine Eb ?_ | refine Ec ?_ | refine Ed ?_)
      refine W_region fun K hK => ?_
      simp only [KA, KB, KP, KQ, simprocAttr, KT w, KI, hw.KF, htm, hx, hy, hz, q0, b0]
      refine hK _ _ ?_
      clear hK
      clear K
      repeat with_reducible (first | refine E0 ?_ | refine E1 ?_ | refine E2 ?_ | refine E3 ?_ | refine E4 ?_ | refine E5 (by decide) ?_ | refine E6 ?_ | refine E7 ?_ | refine E8 ?_ | refine E9 ?_ | refine Ea ?_ | refine Eb ?_ | refine Ec ?_ | refine Ed ?_)
      refine W_region fun K hK => ?_
      simp only [KA, KB, KP, KQ, simprocAttr, KT w, KI, hw.KF, htm, t4, e1]
      refine hK _ _ ?_
      clear hK
      clear K
      refine ⟨p.length - (j + 1), by omega, _, j + 1, rfl, rfl, by omega, St.ok_push hok, by rw [St.pushB]; exact hb, ?_⟩
      rw [h9, hlast]
      simp only [KA, KP, KQ, simprocAttr, KT w, KI, hw.KF, htm, t0, t4]
    · skip
      obtain ⟨w2, q0⟩ : ∃ z : List UInt8, s1 ++ [110, 111] = z := ⟨_, rfl⟩
      have l0 : w2.length ≤ 5008 := by rw [← q0, List.length_append]; first | omega | (simp; omega)
      have b0 : (s1.length : Int) + 2 ≤ maxI64 := by unfold maxI64; omega
      have hlast : s9 = w2 := by
        rw [hnext, ← q0, htxt, hop]
        simp [nameOf, fldsOf, vx, vy, vz, ← hDx, ← hDy, ← hDz]
      refine W_region fun K hK => ?_
      simp only [KA, KB, KP, KQ, simprocAttr, KT w, KI, hw.KF, htm, t4, hjz]
      refine hK _ _ ?_
      clear hK
      clear K
      repeat with_reducible (first | refine E0 ?_ | refine E1 ?_ | refine E2 ?_ | refine E3 ?_ | refine E4 ?_ | refine E5 (by decide) ?_ | refine E6 ?_ | refine E7 ?_ | refine E8 ?_ | refine E9 ?_ | refine Ea ?_ | refine Eb ?_ | refine Ec ?_ | refine Ed ?_)
      refine W_condT (by simp only [KA, KP, KQ, simprocAttr, KT w, KI, hw.KF, htm, hjz]) ?_
      repeat with_reducible (first | refine E0 ?_ | refine E1 ?_ | refine E2 ?_ | refine E3 ?_ | refine E4 ?_ | refine E5 (by decide) ?_ | refine E6 ?_ | refine E7 ?_ | refine E8 ?_ | refine E9 ?_ | refine Ea ?_ | refine Eb ?_ | refine Ec ?_ | refine Ed ?_)
      refine W_region fun K hK => ?_
      simp only [KA, KB, KP, KQ, simprocAttr, KT w, KI, hw.KF, htm, t3, m2, hs1.symm]
      refine hK _ _ ?_
      clear hK
      clear K
      repeat with_reducible (first | refine E0 ?_ | refine E1 ?_ | refine E2 ?_ | refine E3 ?_ | refine E4 ?_ | refine E5 (by decide) ?_ | refine E6 ?_ | refine E7 ?_ | refine E8 ?_ | refine E9 ?_ | refine Ea ?_ | refine Eb ?_ | refine Ec ?_ | refine Ed ?_)
      refine W_region fun K hK => ?_
      simp only [KA, KB, KP, KQ, simprocAttr, KT w, KI, hw.KF, htm]
      refine hK _ _ ?_
      clear hK
      clear K
      repeat with_reducible (first | refine E0 ?_ | refine E1 ?_ | refine E2 ?_ | refine E3 ?_ | refine E4 ?_ | refine E5 (by decide) ?_ | refine E6 ?_ | refine E7 ?_ | refine E8 ?_ | refine E9 ?_ | refine Ea ?_ | refine Eb ?_ | refine Ec ?_ | refine Ed ?_)
      refine W_region fun K hK => ?_
      simp only [KA, KB, KP, KQ, simprocAttr, KT w, KI, hw.KF, htm, hop]
      refine hK _ _ ?_
      clear hK
      clear K
      repeat with_reducible (first | refine E0 ?_ | refine E1 ?_ | refine E2 ?_ | refine E3 ?_ | refine E4 ?_ | refine E5 (by decide) ?_ | refine E6 ?_ | refine E7 ?_ | refine E8 ?_ | refine E9 ?_ | refine Ea ?_ | refine Eb ?_ | refine Ec ?_ | refine Ed ?_)
      refine W_condF (by simp only [KA, KP, KQ, simprocAttr, KT w, KI, hw.KF, htm]) ?_
      repeat with_reducible (first | refine E0 ?_ | refine E1 ?_ | refine E2 ?_ | refine E3 ?_ | refine E4 ?_ | refine E5 (by decide) ?_ | refine E6 ?_ | refine E7 ?_ | refine E8 ?_ | refine E9 ?_ | refine Ea ?_ | refine Eb ?_ | refine Ec ?_ | refine Ed ?_)
      refine W_region fun K hK => ?_
      simp only [KA, KB, KP, KQ, simprocAttr, KT w, KI, hw.KF, htm, hop]
      refine hK _ _ ?_
      clear hK
      clear K
      repeat with_reducible (first | refine E0 ?_ | refine E1 ?_ | refine E2 ?_ | refine E3 ?_ | refine E4 ?_ | refine E5 (by decide) ?_ | refine E6 ?_ | refine E7 ?_ | refine E8 ?_ | refine E9 ?_ | refine Ea ?_ | refine Eb ?_ | refine Ec ?_ | refine Ed ?_)
      refine W_condF (by simp only [KA, KP, KQ, simprocAttr, KT w, KI, hw.KF, htm]) ?_
      repeat with_reducible (first | refine E0 ?_ | refine E1 ?_ | refine E2 ?_ | refine E3 ?_ | refine E4 ?_ | refine E5 (by decide) ?_ | refine E6 ?_ | refine E7 ?_ | refine E8 ?_ | refine E9 ?_ | refine Ea ?_ | refine Eb ?_ | refine Ec ?_ | refine Ed ?_)
      refine W_region fun K hK => ?_
      simp only [KA, KB, KP, KQ, simprocAttr, KT w, KI, hw.KF, htm, hop]
      refine hK _ _ ?_
      clear hK
      clear K
      repeat with_reducible (first | refine E0 ?_ | refine E1 ?_ | refine E2 ?_ | refine E3 ?_ | refine E4 ?_ | refine E5 (by decide) ?_ | refine E6 ?_ | refine E7 ?_ | refine E8 ?_ | refine E9 ?_ | refine Ea ?_ | refine Eb ?_ | refine Ec ?_ | refine Ed ?_)
      refine W_condF (by simp only [KA, KP, KQ, simprocAttr, KT w, KI, hw.KF, htm]) ?_
      repeat with_reducible (first | refine E0 ?_ | refine E1 ?_ | refine E2 ?_ | refine E3 ?_ | refine E4 ?_ | refine E5 (by decide) ?_ | refine E6 ?_ | refine E7 ?_ | refine E8 ?_ | refine E9 ?_ | refine Ea ?_ | refine Eb ?_ | refine Ec ?_ | refine Ed ?_)
      refine W_region fun K hK => ?_
      simp only [KA, KB, KP, KQ, simprocAttr, KT w, KI, hw.KF, htm, hop]
      refine hK _ _ ?_
      clear hK
      clear K
      repeat with_reducible (first | refine E0 ?_ | refine E1 ?_ | refine E2 ?_ | refine E3 ?_ | refine E4 ?_ | refine E5 (by decide) ?_ | refine E6 ?_ | refine E7 ?_ | refine E8 ?_ | refine E9 ?_ | refine Ea ?_ | refine Eb ?_ | refine Ec ?_ | refine Ed ?_)
      refine W_condF (by simp only [KA, KP, KQ, simprocAttr, KT w, KI, hw.KF, htm]) ?_
      repeat with_reducible (first | refine E0 ?_ | refine E1 ?_ | refine E2 ?_ | refine E3 ?_ | refine E4 ?_ | refine E5 (by decide) ?_ | refine E6 ?_ | refine E7 ?_ | refine E8 ?_ | refine E9 ?_ | refine Ea ?_ | refine Eb ?_ | refine Ec ?_ | refine Ed ?_)
      refine W_region fun K hK => ?_
      simp only [KA, KB, KP, KQ, simprocAttr, KT w, KI, hw.KF, htm, hop]
      refine hK _ _ ?_
      clear hK
      clear K
      repeat with_reducible (first | refine E0 ?_ | refine E1 ?_ | refine E2 ?_ | refine E3 ?_ | refine E4 ?_ | refine E5 (by decide) ?_ | refine E6 ?_ | refine E7 ?_ | refine E8 ?_ | refine E9 ?_ | refine Ea ?_ | refine Eb ?_ | refine Ec ?_ | refine Ed ?_)
      refine W_condF (by simp only [KA, KP, KQ, simprocAttr, KT w, KI, hw.KF, htm]) ?_
      repeat with_reducible (first | refine E0 ?_ | refine E1 ?_ | refine E2 ?_ | refine E3 ?_ | refine E4 ?_ | refine E5 (by decide) ?_ | refine E6 ?_ | refine E7 ?_ | refine E8 ?_ | refine E9 ?_ | refine Ea ?_ | refine Eb ?_ | refine Ec ?_ | refine Ed ?_)
      refine W_region fun K hK => ?_
      simp only [KA, KB, KP, KQ, simprocAttr, KT w, KI, hw.KF, htm, hop]
      refine hK _ _ ?_
      clear hK
      clear K
      repeat with_reducible (first | refine E0 ?_ | refine E1 ?_ | refine E2 ?_ | refine E3 ?_ | refine E4 ?_ | refine E5 (by decide) ?_ | refine E6 ?_ | refine E7 ?_ | refine E8 ?_ | refine E9 ?_ | refine Ea ?_ | refine Eb ?_ | refine Ec ?_ | refine Ed ?_)
      refine W_condF (by simp only [KA, KP, KQ, simprocAttr, KT w, KI, hw.KF, htm]) ?_
      repeat with_reducible (first | refine E0 ?_ | refine E1 ?_ | refine E2 ?_ | refine E3 ?_ | refine E4 ?_ | refine E5 (by decide) ?_ | refine E6 ?_ | refine E7 ?_ | refine E8 ?_ | refine E9 ?_ | refine Ea ?_ | refine Eb ?_ | refine Ec ?_ | refine Ed ?_)
      refine W_region fun K hK => ?_
      simp only [KA, KB, KP, KQ, simprocAttr, KT w, KI, hw.KF, htm, hop]
      refine hK _ _ ?_
      clear hK
      clear K
      repeat with_reducible (first | refine E0 ?_ | refine E1 ?_ | refine E2 ?_ | refine E3 ?_ | refine E4 ?_ | refine E5 (by decide) ?_ | refine E6 ?_ | refine E7 ?_ | refine E8 ?_ | refine E9 ?_ | refine Ea ?_ | refine Eb ?_ | refine Ec ?_ | refine Ed ?_)
      refine W_condT (by simp only [KA, KP, KQ, simprocAttr, KT w, KI, hw.KF, htm]) ?_
      repeat with_reducible (first | refine E0 ?_ | refine E1 ?_ | refine E2 ?_ | refine E3 ?_ | refine E4 ?_ | refine E5 (by decide) ?_ | refine E6 ?_ | refine E7 ?_ | refine E8 ?_ | refine E9 ?_ | refine Ea ?_ | refine Eb ?_ | refine Ec ?_ | refine Ed ?_)
      refine W_region fun K hK => ?_
      simp only [KA, KB, KP, KQ, simprocAttr, KT w, KI, hw.KF, htm, hx, hy, hz, q0, b0]
      refine hK _ _ ?_
      clear hK
      clear K
      repeat with_reducible (first | refine E0 ?_ | refine E1 ?_ | refine E2 ?_ | refine E3 ?_ | refine E4 ?_ | refine E5 (by decide) ?_ | refine E6 ?_ | refine E7 ?_ | refine E8 ?_ | refine E9 ?_ | refine Ea ?_ | refine Eb ?_ | refine Ec ?_ | refine Ed ?_)
      refine W_region fun K hK => ?_
      simp only [KA, KB, KP, KQ, simprocAttr, KT w, KI, hw.KF, htm, t4, e1]
      refine hK _ _ ?_
      clear hK
      clear K
      refine ⟨p.length - (j + 1), by omega, _, j + 1, rfl, rfl, by omega, St.ok_push hok, by rw [St.pushB]; exact hb, ?_⟩
      rw [h9, hlast]
      simp only [KA, KP, KQ, simprocAttr, KT w, KI, hw.KF, htm, t0, t4]
end Go.Am.V
