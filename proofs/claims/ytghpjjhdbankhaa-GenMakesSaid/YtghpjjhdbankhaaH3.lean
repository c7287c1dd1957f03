/- THE LAW GenMakes ON THE MACHINE. -/
import Derived.Test.YtghpjjhdbankhaaH2
set_option linter.unusedSimpArgs false
set_option linter.unusedVariables false
set_option maxRecDepth 20000
namespace Go.Am.B
open Go.Proofs Go.IntWalk

variable {w : Ways}

theorem genMakes_gen (hw : Std w) {s n m : Int} {A B : List UInt8} {R : Rows} (h19 : PC (cfg w) 19 [.int .u64 s] (.int .u64 m)) (h20 : PC (cfg w) 20 [.int .u64 s] (.int .u64 m)) (h21 : PC (cfg w) 21 [.int .u64 s] (.str A)) (h22 : PC (cfg w) 22 [.int .u64 s] (.str A))
    (h23 : PC (cfg w) 23 [.int .u64 s] (.str B)) (h24 : PC (cfg w) 24 [.int .u64 s] (.str B)) (h15 : PC (cfg w) 15 [.int .u64 s, .int .i64 n] (.vec R)) (h25 : PC (cfg w) 25 [.int .u64 s, .int .i64 n] (.vec R)) (hnr : nrmR R = some R)
    (h16 : PC (cfg w) 16 [.vec R, .vec R] (.bool true)) (h18 : PC (cfg w) 18 [] (.bool true)) : PC (cfg w) 4 [.int .u64 s, .int .i64 n] (.bool true) := by
  refine PC_of (args' := [.int .u64 s, .int .i64 n]) hw.e4 hw.m4 rfl ?_
  refine call_of_W (fn4 w) rfl ?_
  simp only [Try.f4, List.length_cons, List.length_nil, ↓reduceIte, Int.reduceLT, Int.reduceLE, Int.reduceAdd, Int.reduceSub, Int.reduceNeg, Int.reduceMul, Int.reduceToNat, Int.reduceEq, Int.reduceNe, Int.reduceGT, Int.reduceGE, Nat.reducePow, IntKind.bits, Nat.reduceAdd, Nat.reduceSub, List.cons_append, List.nil_append]
  repeat with_reducible (first | refine E0 ?_ | refine E1 ?_ | refine E2 ?_ | refine E3 ?_ | refine E4 ?_ | refine E5 (by decide) ?_ | refine E6 ?_ | refine E7 ?_ | refine E8 ?_ | refine E9 ?_ | refine Ea ?_ | refine Eb ?_ | refine Ec ?_ | refine Ed ?_)
  refine W_region fun K hK => ?_
  simp only [KA, KB, KP, KQ, reduceCtorEq, ↓reduceIte, Int.reduceLT, Int.reduceLE, Int.reduceAdd, Int.reduceSub, Int.reduceNeg, Int.reduceMul, Int.reduceToNat, Int.reduceEq, Int.reduceNe, Int.reduceGT, Int.reduceGE, Nat.reducePow, Nat.reduceAdd, Nat.reduceSub, Nat.reduceLT, Nat.reduceMul, Nat.reduceDiv, Nat.reduceEqDiff, Nat.reduceLeDiff, KT w, hw.KF]
  refine hK _ _ ?_
  clear hK
  clear K
  repeat with_reducible (first | refine E0 ?_ | refine E1 ?_ | refine E2 ?_ | refine E3 ?_ | refine E4 ?_ | refine E5 (by decide) ?_ | refine E6 ?_ | refine E7 ?_ | refine E8 ?_ | refine E9 ?_ | refine Ea ?_ | refine Eb ?_ | refine Ec ?_ | refine Ed ?_)
  refine W_region fun K hK => ?_
  simp only [KA, KB, KP, KQ, reduceCtorEq, ↓reduceIte, Int.reduceLT, Int.reduceLE, Int.reduceAdd, Int.reduceSub, Int.reduceNeg, Int.reduceMul, Int.reduceToNat, Int.reduceEq, Int.reduceNe, Int.reduceGT, Int.reduceGE, Nat.reducePow, Nat.reduceAdd, Nat.reduceSub, Nat.reduceLT, Nat.reduceMul, Nat.reduceDiv, Nat.reduceEqDiff, Nat.reduceLeDiff, KT w, hw.KF, h19, h20, h21, h22, h23, h24, h15, h25, hnr, h16, h18]
  refine hK _ _ ?_
  clear hK
  clear K
  repeat with_reducible (first | refine E0 ?_ | refine E1 ?_ | refine E2 ?_ | refine E3 ?_ | refine E4 ?_ | refine E5 (by decide) ?_ | refine E6 ?_ | refine E7 ?_ | refine E8 ?_ | refine E9 ?_ | refine Ea ?_ | refine Eb ?_ | refine Ec ?_ | refine Ed ?_)
  refine AtEnd_of rfl ?_
  simp only [KA, KP, KQ, reduceCtorEq, ↓reduceIte, Int.reduceLT, Int.reduceLE, Int.reduceAdd, Int.reduceSub, Int.reduceNeg, Int.reduceMul, Int.reduceToNat, Int.reduceEq, Int.reduceNe, Int.reduceGT, Int.reduceGE, Nat.reducePow, Nat.reduceAdd, Nat.reduceSub, Nat.reduceLT, Nat.reduceMul, Nat.reduceDiv, Nat.reduceEqDiff, Nat.reduceLeDiff, KT w, hw.KF, RS_some, aresults_nil, aresults_tmp, aresults_cell, one]
  exact FZ_bool
theorem pick_num (s : Int) (k : Nat) (m : Int) (h : k + 1 < 1000000) (hm : 0 < m) (hm2 : m ≤ 1000000) : pickV mix s ((k + 1 : Nat) : Int) m = (num s k).tmod m ∧ 0 ≤ pickV mix s ((k + 1 : Nat) : Int) m ∧ pickV mix s ((k + 1 : Nat) : Int) m < m := by
  have e : IntKind.u64.wrap ((k : Int) + 1) = ((k + 1 : Nat) : Int) := by rw [wrap_u64]; omega
  unfold pickV num
  rw [e]
  have h0 := (mix_range (IntKind.u64.wrap (s + IntKind.u64.wrap (((k + 1 : Nat) : Int) * 11400714819323198485)))).1
  generalize mix (IntKind.u64.wrap (s + IntKind.u64.wrap (((k + 1 : Nat) : Int) * 11400714819323198485))) = x at *
  have h1 := Int.tmod_nonneg m h0
  have h2 := Int.tmod_lt_of_pos x hm
  have e2 : IntKind.i64.wrap (x.tmod m) = x.tmod m := i64_in _ (by omega)
  rw [e2]
  exact ⟨rfl, h1, h2⟩
theorem pick_range (s k m : Int) (hm : 0 < m) (hm2 : m ≤ 1000000) : 0 ≤ pickV mix s k m ∧ pickV mix s k m < m := by
  unfold pickV
  have h0 := (mix_range (IntKind.u64.wrap (s + IntKind.u64.wrap (k * 11400714819323198485)))).1
  generalize mix (IntKind.u64.wrap (s + IntKind.u64.wrap (k * 11400714819323198485))) = x at *
  have h1 := Int.tmod_nonneg m h0
  have h2 := Int.tmod_lt_of_pos x hm
  rw [i64_in _ (by omega)]
  exact ⟨h1, h2⟩
/-- A text by a seed. -/
def textV (s : Int) : List UInt8 := txt (fun k => pcs.getD (pickV mix s ((k + 3 : Nat) : Int) 10).toNat []) (pickV mix s 2 12).toNat
theorem pcs_row (x : Int) (h : 0 ≤ x) (h' : x < 10) : (pcs.map fun s => [AV.str s])[x.toNat]? = some [.str (pcs.getD x.toNat [])] := by
  have hl : x.toNat < pcs.length := by show x.toNat < 10; omega
  simp [List.getD, hl]
theorem text_ok (hw : Std w) (s : Int) : PC (cfg w) 24 [.int .u64 s] (.str (textV s)) := by
  have h2 := pick_range s 2 12 (by omega) (by omega)
  have hp := fun k : Int => pick_range s k 10 (by omega) (by omega)
  have hpick : ∀ s k m, ¬ m = 0 → PC (cfg w) 66 [.int .u64 s, .int .u64 k, .int .u64 m] (.int .i64 (pickV mix s k m)) := fun s k m hm => pick66_ok hw (mixR_ok hw) s k m hm
  unfold textV
  refine text24_ok hw (P := fun x => pcs.getD x.toNat []) hpick (pieces69_ok hw) s _ (by omega) (by omega) (fun k => ⟨(hp _).1, pcs_row _ (hp _).1 (hp _).2⟩) fun x => ?_
  exact pcs_len _
theorem sources_ok (hw : Std w) {tbl : List (List UInt8)} (hl : tbl.length = 4) (h64 : PC (cfg w) 64 [] (.agg (tbl.map .str))) (h65 : PC (cfg w) 65 [] (.vec (tbl.map fun s => [.str s]))) (s : Int) :
    ∃ A, PC (cfg w) 21 [.int .u64 s] (.str A) ∧ PC (cfg w) 22 [.int .u64 s] (.str A) := by
  obtain ⟨h1, h2, h3⟩ := pick_num s 0 4 (by omega) (by omega) (by omega)
  rw [show (((0 : Nat) + 1 : Nat) : Int) = 1 from rfl] at h1 h2 h3
  have hT : ∀ x : Int, 0 ≤ x → x < 4 → (tbl.map AV.str)[x.toNat]? = some (.str (tbl.getD x.toNat [])) := fun x h h' => by
    have hl : x.toNat < tbl.length := by omega
    simp [List.getD, hl]
  have hpick : ∀ s k m, ¬ m = 0 → PC (cfg w) 66 [.int .u64 s, .int .u64 k, .int .u64 m] (.int .i64 (pickV mix s k m)) := fun s k m hm => pick66_ok hw (mixR_ok hw) s k m hm
  have a1 := source21_ok hw (X := fun z j => num z j) (Tb := fun x => tbl.getD x.toNat []) (first_ok hw) h64 (fun z j hj => cells16_get z 16 j hj hj) (fun z j => by unfold num; exact (mix_range _).1) hT s
  have a2 := source22_ok hw (Tb := fun x => tbl.getD x.toNat []) hpick h65 s h2 (by
    have hl : (pickV mix s 1 4).toNat < tbl.length := by rw [hl]; have := h3; have := h2; omega
    simp [List.getD, hl])
  refine ⟨_, a1, ?_⟩
  rw [← h1]
  exact a2
end Go.Am.B
