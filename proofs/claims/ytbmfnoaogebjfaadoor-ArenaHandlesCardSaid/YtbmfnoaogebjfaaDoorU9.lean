/- THE REFERENCE'S Fit: an arena that was made is fit. -/
import Derived.Test.YtbmfnoaogebjfaaDoorU8
set_option linter.unusedSimpArgs false
set_option linter.unusedVariables false
set_option maxRecDepth 20000
namespace Go.Am.R
open Go.Proofs Go.IntWalk

variable {w : Ways}

def tb (N : Nat) (f : Nat → Nat) : List Nat := (List.range N).map f
theorem tb_len (N : Nat) (f : Nat → Nat) : (tb N f).length = N := by simp [tb]
theorem tb_get {N q : Nat} (f : Nat → Nat) (h : q < N) : (ks (tb N f))[q]? = some [.int .i64 (f q : Int)] := by simp [tb, ks, h]
theorem tb_set {N q : Nat} {f g : Nat → Nat} (h : q < N) (hg : ∀ j, j < N → g j = f j + (if q = j then 1 else 0)) : (ks (tb N f)).set q [.int .i64 ((f q : Int) + 1)] = ks (tb N g) := by
  have : ((f q : Int) + 1) = ((f q + 1 : Nat) : Int) := by omega
  rw [this, ks_set]
  congr 1
  refine List.ext_getElem? fun j => ?_
  rw [List.getElem?_set]
  by_cases hj : j < N
  · by_cases e : q = j
    · subst e; simp [tb, h, hg q h]
    · simp [e, tb, hj, hg j hj]
  · rw [if_neg (by omega)]
    simp [tb, hj]
theorem tb_rep (N : Nat) : List.replicate N [AV.int .i64 0] = ks (tb N fun _ => 0) := by
  rw [ks_rep]
  congr 1
  refine List.ext_getElem? fun j => ?_
  by_cases hj : j < N
  · simp [tb, hj]
  · simp [tb, hj, List.getElem?_eq_none]
theorem tb_congr {N : Nat} {f g : Nat → Nat} (h : ∀ j, j < N → f j = g j) : tb N f = tb N g := by
  refine List.map_congr_left fun j hj => h j (by simpa using hj)
theorem cnt_take_le (S : List Sl) (i j : Nat) : cnt (S.take i) j ≤ cnt S j := by
  have : cnt S j = cnt (S.take i) j + cnt (S.drop i) j := by
    simp only [cnt]
    rw [← List.sum_append, ← List.map_append, List.take_append_drop]
  omega
theorem cnt_take_snoc {S : List Sl} {i : Nat} {s : Sl} (h : S[i]? = some s) (j : Nat) : cnt (S.take (i + 1)) j = cnt (S.take i) j + s.kids.count j := by
  rw [List.take_add_one, h]; exact cnt_snoc _ _ _
theorem rcnt_take_le (r : List (Option Nat)) (i j : Nat) : rcnt (r.take i) j ≤ rcnt r j := List.Sublist.count_le _ (List.take_sublist _ _)
theorem rcnt_take_snoc {r : List (Option Nat)} {i : Nat} {o : Option Nat} (h : r[i]? = some o) (j : Nat) : rcnt (r.take (i + 1)) j = rcnt (r.take i) j + (if o = some j then 1 else 0) := by
  rw [List.take_add_one, h]; exact rcnt_snoc _ _ _

set_option maxHeartbeats 1000000 in
theorem fit9 (hw : Std w) (A : Ar) (hA : Inv A [] []) (hkb : KidB A.slots) (hr : A.roots.length ≤ 4096) {c : Int} (hRB : RB c A.slots) (hc : c ≤ 1000000000000) (hsz : ∀ r, some r ∈ A.roots → szOf A.slots r ≤ 5000) : PC (cfg w) 9 [arV A] (.bool true) := by
  refine PC_of (args' := [arV A]) hw.e9 hw.m9 (by simp [nrmA, nrm_arV]) ?_
  have p29 := plain29 hw A hA hkb hr
  have p30 := free30 hw A hA
  have p31 := sizes31 hw A hA hkb
  have hlen := hA.len
  have hsl : (A.slots.map slCan).length = A.slots.length := List.length_map _
  have hrl := rs_len A.roots
  have hneg : ∀ (i : Nat) (s : Sl), A.slots[i]? = some s → 0 ≤ s.refs := fun i s hs => by
    by_cases h : s.refs < 0
    · have := (hA.neg i s hs h).2; cases this
    · omega
  have hroot := fun i h => hA.root i h
  have hkid := fun i j s hs hj => hA.kid (i := i) (j := j) (s := s) hs hj
  have htot : ∀ (i : Nat) (s : Sl), A.slots[i]? = some s → s.refs = ((cnt A.slots i + rcnt A.roots i : Nat) : Int) := fun i s hs => by
    by_cases h0 : s.refs = 0
    · obtain ⟨h1, h2⟩ := hA.noref (j := i) (fun s' hs' => by rw [hs] at hs'; cases hs'; exact h0)
      omega
    · have := hA.refs i s hs h0
      have := hneg i s hs
      simp at *
      omega
  have hszl : ∀ i, i < A.slots.length → (ks (szL A.slots))[i]? = some [.int .i64 (szOf A.slots i : Int)] := fun i hi => by simp [ks, szL, hi]
  have hszn : (ks (szL A.slots)).length = A.slots.length := by simp [ks, szL]
  have hszp := szOf_pos A.slots
  have harv : arV A = .agg [.vec (A.slots.map slCan), .int .i64 (optI A.free), .vec (rs A.roots)] := rfl
  rw [harv] at p29 p30 p31
  rw [harv]
  obtain ⟨SL, FR, RT⟩ := A
  simp only at hlen hsl hrl hr hneg hroot hkid hkb htot hszl hszn hszp hRB hsz p29 p30 p31 ⊢
  generalize optI FR = FF at *
  generalize ks (szL SL) = ZL at *
  generalize szOf SL = ZF at *
  have hrep := tb_rep SL.length
  have hmk : ((0 : Int) ≤ (SL.length : Int)) := by omega
  have hmk2 : ((SL.length : Int) ≤ 281474976710656) := by omega
  have hmk3 := Int.le_refl (SL.length : Int)
  have hmk4 : (8 * (SL.length : Int) ≤ 281474976710656) := by omega
  have hTl : ∀ f, (ks (tb SL.length f)).length = SL.length := fun f => by rw [ks_len, tb_len]
  refine call_of_W (fn9 w) rfl ?_
  simp only [Tryd.f9, List.length_cons, List.length_nil, ↓reduceIte, Int.reduceLT, Int.reduceLE, Int.reduceAdd, Int.reduceSub, Int.reduceNeg, Int.reduceMul, Int.reduceToNat, Int.reduceEq, Int.reduceNe, Int.reduceGT, Int.reduceGE, Nat.reducePow, IntKind.bits, Nat.reduceAdd, Nat.reduceSub, List.cons_append, List.nil_append]
  repeat with_reducible (first | refine E0 ?_ | refine E1 ?_ | refine E2 ?_ | refine E3 ?_ | refine E4 ?_ | refine E5 (by decide) ?_ | refine E6 ?_ | refine E7 ?_ | refine E8 ?_ | refine E9 ?_ | refine Ea ?_ | refine Eb ?_ | refine Ec ?_ | refine Ed ?_)
  refine W_region fun K hK => ?_
  simp only [KA, KB, KP, KQ, KM, simprocAttr, KT w, KI, hw.KF]
  refine hK _ _ ?_
  clear hK
  clear K
  repeat with_reducible (first | refine E0 ?_ | refine E1 ?_ | refine E2 ?_ | refine E3 ?_ | refine E4 ?_ | refine E5 (by decide) ?_ | refine E6 ?_ | refine E7 ?_ | refine E8 ?_ | refine E9 ?_ | refine Ea ?_ | refine Eb ?_ | refine Ec ?_ | refine Ed ?_)
  refine W_region fun K hK => ?_
  simp only [KA, KB, KP, KQ, KM, simprocAttr, KT w, KI, hw.KF, p29, p30]
  refine hK _ _ ?_
  clear hK
  clear K
  repeat with_reducible (first | refine E0 ?_ | refine E1 ?_ | refine E2 ?_ | refine E3 ?_ | refine E4 ?_ | refine E5 (by decide) ?_ | refine E6 ?_ | refine E7 ?_ | refine E8 ?_ | refine E9 ?_ | refine Ea ?_ | refine Eb ?_ | refine Ec ?_ | refine Ed ?_)
  refine W_condF (by simp only [KA, KP, KQ, simprocAttr, KT w, KI, hw.KF]) ?_
  repeat with_reducible (first | refine E0 ?_ | refine E1 ?_ | refine E2 ?_ | refine E3 ?_ | refine E4 ?_ | refine E5 (by decide) ?_ | refine E6 ?_ | refine E7 ?_ | refine E8 ?_ | refine E9 ?_ | refine Ea ?_ | refine Eb ?_ | refine Ec ?_ | refine Ed ?_)
  refine W_region fun K hK => ?_
  simp only [KA, KB, KP, KQ, KM, reduceCtorEq, ↓reduceIte, Int.reduceLT, Int.reduceLE, Int.reduceAdd, Int.reduceSub, Int.reduceNeg, Int.reduceMul, Int.reduceToNat, Int.reduceEq, Int.reduceNe, Int.reduceGT, Int.reduceGE, Nat.reducePow, Nat.reduceAdd, Nat.reduceSub, Nat.reduceLT, Nat.reduceMul, Nat.reduceDiv, Nat.reduceEqDiff, Nat.reduceLeDiff, KT w, KI, hw.KF, hsl, hmk, hmk2, hmk3, hmk4, hrep]
  refine hK _ _ ?_
  clear hK
  clear K
  repeat with_reducible (first | refine E0 ?_ | refine E1 ?_ | refine E2 ?_ | refine E3 ?_ | refine E4 ?_ | refine E5 (by decide) ?_ | refine E6 ?_ | refine E7 ?_ | refine E8 ?_ | refine E9 ?_ | refine Ea ?_ | refine Eb ?_ | refine Ec ?_ | refine Ed ?_)
  refine W_region fun K hK => ?_
  simp only [KA, KB, KP, KQ, KM, simprocAttr, KT w, KI, hw.KF, p31]
  refine hK _ _ ?_
  clear hK
  clear K
  repeat with_reducible (first | refine E0 ?_ | refine E1 ?_ | refine E2 ?_ | refine E3 ?_ | refine E4 ?_ | refine E5 (by decide) ?_ | refine E6 ?_ | refine E7 ?_ | refine E8 ?_ | refine E9 ?_ | refine Ea ?_ | refine Eb ?_ | refine Ec ?_ | refine Ed ?_)
  refine W_region fun K hK => ?_
  simp only [KA, KB, KP, KQ, KM, simprocAttr, KT w, KI, hw.KF]
  refine hK _ _ ?_
  clear hK
  clear K
  repeat with_reducible (first | refine E0 ?_ | refine E1 ?_ | refine E2 ?_ | refine E3 ?_ | refine E4 ?_ | refine E5 (by decide) ?_ | refine E6 ?_ | refine E7 ?_ | refine E8 ?_ | refine E9 ?_ | refine Ea ?_ | refine Eb ?_ | refine Ec ?_ | refine Ed ?_)
  refine W_loop (fun k0 fr T => ∃ (tm : List AV) (i : Nat), fr = ⟨tm, [], none, 9⟩ ∧ T = (St.nil.push (.row [.vec (SL.map slCan), .int .i64 FF, .vec (rs RT)] false)).push (.seq 0 1 (ks (tb SL.length fun j => cnt (SL.take i) j)) 0) ∧ k0 = SL.length - i ∧ i ≤ SL.length ∧
      tm.length = 118 ∧ tget tm 1 = .ptr 0 0 ∧ tget tm 3 = .sref 1 0 0 SL.length ∧ tget tm 4 = .vec ZL ∧ tget tm 5 = .int .i64 (i : Nat)) SL.length
    ⟨_, 0, rfl, by simp [cnt], rfl, Nat.zero_le _, ?_⟩ ?_
  · simp only [KA, KP, KQ, simprocAttr, KT w, KI, hw.KF, Int.ofNat_zero]
  rintro k0 fr T ⟨tm, i, rfl, rfl, rfl, hi, htm, t1, t3, t4, t5⟩
  repeat with_reducible (first | refine E0 ?_ | refine E1 ?_ | refine E2 ?_ | refine E3 ?_ | refine E4 ?_ | refine E5 (by decide) ?_ | refine E6 ?_ | refine E7 ?_ | refine E8 ?_ | refine E9 ?_ | refine Ea ?_ | refine Eb ?_ | refine Ec ?_ | refine Ed ?_)
  by_cases hil : (i : Int) < (SL.length : Int)
  case neg =>
    have hie : i = SL.length := by omega
    subst hie
    rw [List.take_length]
    refine W_region fun K hK => ?_
    simp only [KA, KB, KP, KQ, KM, simprocAttr, KT w, KI, hw.KF, htm, t1, t5, hsl, hil]
    refine hK _ _ ?_
    clear hK
    clear K
    repeat with_reducible (first | refine E0 ?_ | refine E1 ?_ | refine E2 ?_ | refine E3 ?_ | refine E4 ?_ | refine E5 (by decide) ?_ | refine E6 ?_ | refine E7 ?_ | refine E8 ?_ | refine E9 ?_ | refine Ea ?_ | refine Eb ?_ | refine Ec ?_ | refine Ed ?_)
    refine W_condF (by simp only [KA, KP, KQ, simprocAttr, KT w, KI, hw.KF, htm]) ?_
    repeat with_reducible (first | refine E0 ?_ | refine E1 ?_ | refine E2 ?_ | refine E3 ?_ | refine E4 ?_ | refine E5 (by decide) ?_ | refine E6 ?_ | refine E7 ?_ | refine E8 ?_ | refine E9 ?_ | refine Ea ?_ | refine Eb ?_ | refine Ec ?_ | refine Ed ?_)
    refine W_region fun K hK => ?_
    simp only [KA, KB, KP, KQ, KM, simprocAttr, KT w, KI, hw.KF, htm]
    refine hK _ _ ?_
    clear hK
    clear K
    repeat with_reducible (first | refine E0 ?_ | refine E1 ?_ | refine E2 ?_ | refine E3 ?_ | refine E4 ?_ | refine E5 (by decide) ?_ | refine E6 ?_ | refine E7 ?_ | refine E8 ?_ | refine E9 ?_ | refine Ea ?_ | refine Eb ?_ | refine Ec ?_ | refine Ed ?_)
    refine W_loop (fun k0 fr T => ∃ (tm : List AV) (r : Nat), fr = ⟨tm, [], none, 9⟩ ∧ T = (St.nil.push (.row [.vec (SL.map slCan), .int .i64 FF, .vec (rs RT)] false)).push (.seq 0 1 (ks (tb SL.length fun j => cnt SL j + rcnt (RT.take r) j)) 0) ∧ k0 = RT.length - r ∧ r ≤ RT.length ∧
        tm.length = 118 ∧ tget tm 1 = .ptr 0 0 ∧ tget tm 3 = .sref 1 0 0 SL.length ∧ tget tm 4 = .vec ZL ∧ tget tm 7 = .int .i64 (r : Nat)) RT.length
      ⟨_, 0, rfl, by simp [rcnt], rfl, Nat.zero_le _, ?_⟩ ?_
    · simp only [KA, KP, KQ, simprocAttr, KT w, KI, hw.KF, htm, t1, t3, t4, Int.ofNat_zero]
    clear htm t1 t3 t4 t5 tm
    rintro k0 fr T ⟨tm, r, rfl, rfl, rfl, hrr, htm, t1, t3, t4, t7⟩
    repeat with_reducible (first | refine E0 ?_ | refine E1 ?_ | refine E2 ?_ | refine E3 ?_ | refine E4 ?_ | refine E5 (by decide) ?_ | refine E6 ?_ | refine E7 ?_ | refine E8 ?_ | refine E9 ?_ | refine Ea ?_ | refine Eb ?_ | refine Ec ?_ | refine Ed ?_)
    by_cases hrT : (r : Int) < (RT.length : Int)
    case neg =>
      have hre : r = RT.length := by omega
      subst hre
      rw [List.take_length]
      refine W_region fun K hK => ?_
      simp only [KA, KB, KP, KQ, KM, simprocAttr, KT w, KI, hw.KF, htm, t1, t7, hrl, hrT]
      refine hK _ _ ?_
      clear hK
      clear K
      repeat with_reducible (first | refine E0 ?_ | refine E1 ?_ | refine E2 ?_ | refine E3 ?_ | refine E4 ?_ | refine E5 (by decide) ?_ | refine E6 ?_ | refine E7 ?_ | refine E8 ?_ | refine E9 ?_ | refine Ea ?_ | refine Eb ?_ | refine Ec ?_ | refine Ed ?_)
      refine W_condF (by simp only [KA, KP, KQ, simprocAttr, KT w, KI, hw.KF, htm]) ?_
      repeat with_reducible (first | refine E0 ?_ | refine E1 ?_ | refine E2 ?_ | refine E3 ?_ | refine E4 ?_ | refine E5 (by decide) ?_ | refine E6 ?_ | refine E7 ?_ | refine E8 ?_ | refine E9 ?_ | refine Ea ?_ | refine Eb ?_ | refine Ec ?_ | refine Ed ?_)
      refine W_region fun K hK => ?_
      simp only [KA, KB, KP, KQ, KM, simprocAttr, KT w, KI, hw.KF, htm]
      refine hK _ _ ?_
      clear hK
      clear K
      repeat with_reducible (first | refine E0 ?_ | refine E1 ?_ | refine E2 ?_ | refine E3 ?_ | refine E4 ?_ | refine E5 (by decide) ?_ | refine E6 ?_ | refine E7 ?_ | refine E8 ?_ | refine E9 ?_ | refine Ea ?_ | refine Eb ?_ | refine Ec ?_ | refine Ed ?_)
      refine W_loop (fun k0 fr T => ∃ (tm : List AV) (i : Nat), fr = ⟨tm, [], none, 9⟩ ∧ T = (St.nil.push (.row [.vec (SL.map slCan), .int .i64 FF, .vec (rs RT)] false)).push (.seq 0 1 (ks (tb SL.length fun j => cnt SL j + rcnt RT j)) 0) ∧ k0 = SL.length - i ∧ i ≤ SL.length ∧
          tm.length = 118 ∧ tget tm 1 = .ptr 0 0 ∧ tget tm 3 = .sref 1 0 0 SL.length ∧ tget tm 8 = .int .i64 (i : Nat)) SL.length
        ⟨_, 0, rfl, rfl, rfl, Nat.zero_le _, ?_⟩ ?_
      · simp only [KA, KP, KQ, simprocAttr, KT w, KI, hw.KF, htm, t1, t3, t4, Int.ofNat_zero]
      clear htm t1 t3 t4 t7 tm
      rintro k0 fr T ⟨tm, i, rfl, rfl, rfl, hi, htm, t1, t3, t8⟩
      repeat with_reducible (first | refine E0 ?_ | refine E1 ?_ | refine E2 ?_ | refine E3 ?_ | refine E4 ?_ | refine E5 (by decide) ?_ | refine E6 ?_ | refine E7 ?_ | refine E8 ?_ | refine E9 ?_ | refine Ea ?_ | refine Eb ?_ | refine Ec ?_ | refine Ed ?_)
      by_cases hil : (i : Int) < (SL.length : Int)
      case neg =>
        refine W_region fun K hK => ?_
        simp only [KA, KB, KP, KQ, KM, simprocAttr, KT w, KI, hw.KF, htm, t3, t8, hil]
        refine hK _ _ ?_
        clear hK
        clear K
        repeat with_reducible (first | refine E0 ?_ | refine E1 ?_ | refine E2 ?_ | refine E3 ?_ | refine E4 ?_ | refine E5 (by decide) ?_ | refine E6 ?_ | refine E7 ?_ | refine E8 ?_ | refine E9 ?_ | refine Ea ?_ | refine Eb ?_ | refine Ec ?_ | refine Ed ?_)
        refine W_condF (by simp only [KA, KP, KQ, simprocAttr, KT w, KI, hw.KF, htm]) ?_
        repeat with_reducible (first | refine E0 ?_ | refine E1 ?_ | refine E2 ?_ | refine E3 ?_ | refine E4 ?_ | refine E5 (by decide) ?_ | refine E6 ?_ | refine E7 ?_ | refine E8 ?_ | refine E9 ?_ | refine Ea ?_ | refine Eb ?_ | refine Ec ?_ | refine Ed ?_)
        refine W_region fun K hK => ?_
        simp only [KA, KB, KP, KQ, KM, simprocAttr, KT w, KI, hw.KF, htm]
        refine hK _ _ ?_
        clear hK
        clear K
        repeat with_reducible (first | refine E0 ?_ | refine E1 ?_ | refine E2 ?_ | refine E3 ?_ | refine E4 ?_ | refine E5 (by decide) ?_ | refine E6 ?_ | refine E7 ?_ | refine E8 ?_ | refine E9 ?_ | refine Ea ?_ | refine Eb ?_ | refine Ec ?_ | refine Ed ?_)
        refine AtEnd_of rfl ?_
        simp only [KA, KP, KQ, simprocAttr, KT w, KI, hw.KF, htm, RS_some, aresults_nil, aresults_tmp, aresults_cell, one]
        exact FZ_bool
      obtain ⟨s, hs⟩ : ∃ s, SL[i]? = some s := ⟨_, List.getElem?_eq_getElem (by omega)⟩
      have hrow : (SL.map slCan)[i]? = some (slCan s) := by rw [List.getElem?_map, hs]; rfl
      have := hneg i s hs
      have hmx : max s.refs 0 = s.refs := by omega
      have htt := htot i s hs
      have htg := tb_get (fun j => cnt SL j + rcnt RT j) (show i < SL.length by omega)
      try simp only at htg
      rw [← htt] at htg
      simp only [slCan, slC, hmx] at hrow
      have hi0 : ¬ (i : Int) < 0 := by omega
      have e1 : IntKind.i64.wrap ((i : Int) + 1) = (i : Int) + 1 := i64_in _ (by omega)
      refine W_region fun K hK => ?_
      simp only [KA, KB, KP, KQ, KM, simprocAttr, KT w, KI, hw.KF, htm, t3, t8, hil]
      refine hK _ _ ?_
      clear hK
      clear K
      repeat with_reducible (first | refine E0 ?_ | refine E1 ?_ | refine E2 ?_ | refine E3 ?_ | refine E4 ?_ | refine E5 (by decide) ?_ | refine E6 ?_ | refine E7 ?_ | refine E8 ?_ | refine E9 ?_ | refine Ea ?_ | refine Eb ?_ | refine Ec ?_ | refine Ed ?_)
      refine W_condT (by simp only [KA, KP, KQ, simprocAttr, KT w, KI, hw.KF, htm]) ?_
      repeat with_reducible (first | refine E0 ?_ | refine E1 ?_ | refine E2 ?_ | refine E3 ?_ | refine E4 ?_ | refine E5 (by decide) ?_ | refine E6 ?_ | refine E7 ?_ | refine E8 ?_ | refine E9 ?_ | refine Ea ?_ | refine Eb ?_ | refine Ec ?_ | refine Ed ?_)
      refine W_regionD [[], [], [0, 1], [2, 0, 1], [], [4], [], [5, 4, 6], [7, 5, 4, 6], [8, 7, 5, 4, 6], [3, 2, 0, 1, 9, 8, 7, 5, 4, 6]] (by decide +kernel) (by decide +kernel) (by decide +kernel) fun K hK => ?_
      simp only [KA, KB, KP, KQ, KM, simprocAttr, KT w, KI, hw.KF, A58, A59, A5a, A5b, A5c, A5d, A5e, A5f, A5g, A5h, KX, Foot.big, A5i, opP, rfoot, refsO, refs, wfoot, A5j, A5k, noisyOk, pairOk, Foot.isQuiet, Foot.apart, Ft.apart, Foot.none, A5l, A5m, A48, A49, A5n, A5o, A5p, A5q, Nat.reduceBEq, htm, t1, t3, t8, hi0, hil, htg, hTl, hrow, hsl]
      refine hK _ _ ?_
      clear hK
      clear K
      repeat with_reducible (first | refine E0 ?_ | refine E1 ?_ | refine E2 ?_ | refine E3 ?_ | refine E4 ?_ | refine E5 (by decide) ?_ | refine E6 ?_ | refine E7 ?_ | refine E8 ?_ | refine E9 ?_ | refine Ea ?_ | refine Eb ?_ | refine Ec ?_ | refine Ed ?_)
      refine W_condF (by simp only [KA, KP, KQ, simprocAttr, KT w, KI, hw.KF, htm]) ?_
      repeat with_reducible (first | refine E0 ?_ | refine E1 ?_ | refine E2 ?_ | refine E3 ?_ | refine E4 ?_ | refine E5 (by decide) ?_ | refine E6 ?_ | refine E7 ?_ | refine E8 ?_ | refine E9 ?_ | refine Ea ?_ | refine Eb ?_ | refine Ec ?_ | refine Ed ?_)
      refine W_region fun K hK => ?_
      simp only [KA, KB, KP, KQ, KM, simprocAttr, KT w, KI, hw.KF, htm, t8, e1]
      refine hK _ _ ?_
      clear hK
      clear K
      refine ⟨SL.length - (i + 1), by omega, _, i + 1, rfl, rfl, rfl, by omega, ?_⟩
      simp only [KA, KP, KQ, simprocAttr, KT w, KI, hw.KF, htm, t1, t3, Int.natCast_add, A3z]
    obtain ⟨o, ho⟩ : ∃ o, RT[r]? = some o := ⟨_, List.getElem?_eq_getElem (by omega)⟩
    have hro : (rs RT)[r]? = some [.int .i64 (optI o)] := by rw [rs_get, ho]; rfl
    have hr0 : ¬ (r : Int) < 0 := by omega
    have e1 : IntKind.i64.wrap ((r : Int) + 1) = (r : Int) + 1 := i64_in _ (by omega)
    have hsn := rcnt_take_snoc ho
    refine W_region fun K hK => ?_
    simp only [KA, KB, KP, KQ, KM, simprocAttr, KT w, KI, hw.KF, htm, t1, t7, hrl, hrT]
    refine hK _ _ ?_
    clear hK
    clear K
    repeat with_reducible (first | refine E0 ?_ | refine E1 ?_ | refine E2 ?_ | refine E3 ?_ | refine E4 ?_ | refine E5 (by decide) ?_ | refine E6 ?_ | refine E7 ?_ | refine E8 ?_ | refine E9 ?_ | refine Ea ?_ | refine Eb ?_ | refine Ec ?_ | refine Ed ?_)
    refine W_condT (by simp only [KA, KP, KQ, simprocAttr, KT w, KI, hw.KF, htm]) ?_
    repeat with_reducible (first | refine E0 ?_ | refine E1 ?_ | refine E2 ?_ | refine E3 ?_ | refine E4 ?_ | refine E5 (by decide) ?_ | refine E6 ?_ | refine E7 ?_ | refine E8 ?_ | refine E9 ?_ | refine Ea ?_ | refine Eb ?_ | refine Ec ?_ | refine Ed ?_)
    cases o with
    | none =>
      rw [show optI none = -1 from rfl] at hro
      have hm1 : ¬ ((-1 : Int) ≥ 0) := by omega
      refine W_region fun K hK => ?_
      simp only [KA, KB, KP, KQ, KM, simprocAttr, KT w, KI, hw.KF, htm, t1, t7, hrl, hrT, hro, hr0, hm1]
      refine hK _ _ ?_
      clear hK
      clear K
      repeat with_reducible (first | refine E0 ?_ | refine E1 ?_ | refine E2 ?_ | refine E3 ?_ | refine E4 ?_ | refine E5 (by decide) ?_ | refine E6 ?_ | refine E7 ?_ | refine E8 ?_ | refine E9 ?_ | refine Ea ?_ | refine Eb ?_ | refine Ec ?_ | refine Ed ?_)
      refine W_condF (by simp only [KA, KP, KQ, simprocAttr, KT w, KI, hw.KF, htm]) ?_
      repeat with_reducible (first | refine E0 ?_ | refine E1 ?_ | refine E2 ?_ | refine E3 ?_ | refine E4 ?_ | refine E5 (by decide) ?_ | refine E6 ?_ | refine E7 ?_ | refine E8 ?_ | refine E9 ?_ | refine Ea ?_ | refine Eb ?_ | refine Ec ?_ | refine Ed ?_)
      refine W_region fun K hK => ?_
      simp only [KA, KB, KP, KQ, KM, simprocAttr, KT w, KI, hw.KF, htm, t7, e1]
      refine hK _ _ ?_
      clear hK
      clear K
      refine ⟨RT.length - (r + 1), by omega, _, r + 1, rfl, ?_, rfl, by omega, ?_⟩
      · rw [tb_congr (f := fun j => cnt SL j + rcnt (RT.take r) j) (g := fun j => cnt SL j + rcnt (RT.take (r + 1)) j) fun j _ => by simp [hsn j]]
      · simp only [KA, KP, KQ, simprocAttr, KT w, KI, hw.KF, htm, t1, t3, t4, Int.natCast_add, A3z]
    | some q =>
      rw [show optI (some q) = (q : Int) from rfl] at hro
      have hqm := List.mem_of_getElem? ho
      obtain ⟨s, hs, hs0⟩ := hroot q hqm
      have hqS : q < SL.length := (List.getElem?_eq_some_iff.1 hs).1
      have hq0 : ¬ (q : Int) < 0 := by omega
      have hq1 : (q : Int) ≥ 0 := by omega
      have hql : (q : Int) < (SL.length : Int) := by omega
      have hz5 := hsz q hqm
      have hz6 : ¬ ((ZF q : Int) > 5000) := by omega
      have hzl := hszl q hqS
      have htt := htot q s hs
      have hcc := hRB q s hs
      have h1 := hsn q
      have h2 := rcnt_take_le RT (r + 1) q
      simp only [↓reduceIte] at h1
      have e2 : IntKind.i64.wrap (((cnt SL q + rcnt (RT.take r) q : Nat) : Int) + 1) = ((cnt SL q + rcnt (RT.take r) q : Nat) : Int) + 1 := i64_in _ (by omega)
      have htg := tb_get (fun j => cnt SL j + rcnt (RT.take r) j) hqS
      have hts := tb_set (N := SL.length) (q := q) (f := fun j => cnt SL j + rcnt (RT.take r) j) (g := fun j => cnt SL j + rcnt (RT.take (r + 1)) j) hqS (fun j _ => by simp only [hsn j, Option.some.injEq]; omega)
      try simp only at htg hts
      generalize hTX : (ks (tb SL.length fun j => cnt SL j + rcnt (RT.take r) j)) = TX at *
      have hTXl : TX.length = SL.length := by rw [← hTX]; exact hTl _
      refine W_region fun K hK => ?_
      simp only [KA, KB, KP, KQ, KM, simprocAttr, KT w, KI, hw.KF, htm, t1, t7, hrl, hrT, hro, hr0, hq1]
      refine hK _ _ ?_
      clear hK
      clear K
      repeat with_reducible (first | refine E0 ?_ | refine E1 ?_ | refine E2 ?_ | refine E3 ?_ | refine E4 ?_ | refine E5 (by decide) ?_ | refine E6 ?_ | refine E7 ?_ | refine E8 ?_ | refine E9 ?_ | refine Ea ?_ | refine Eb ?_ | refine Ec ?_ | refine Ed ?_)
      refine W_condT (by simp only [KA, KP, KQ, simprocAttr, KT w, KI, hw.KF, htm]) ?_
      repeat with_reducible (first | refine E0 ?_ | refine E1 ?_ | refine E2 ?_ | refine E3 ?_ | refine E4 ?_ | refine E5 (by decide) ?_ | refine E6 ?_ | refine E7 ?_ | refine E8 ?_ | refine E9 ?_ | refine Ea ?_ | refine Eb ?_ | refine Ec ?_ | refine Ed ?_)
      refine W_region fun K hK => ?_
      simp only [KA, KB, KP, KQ, KM, simprocAttr, KT w, KI, hw.KF, htm, t1, t3, t7, hrl, hrT, hro, hr0, hq0, hql, hTXl, htg, e2, hts, splice]
      refine hK _ _ ?_
      clear hK
      clear K
      repeat with_reducible (first | refine E0 ?_ | refine E1 ?_ | refine E2 ?_ | refine E3 ?_ | refine E4 ?_ | refine E5 (by decide) ?_ | refine E6 ?_ | refine E7 ?_ | refine E8 ?_ | refine E9 ?_ | refine Ea ?_ | refine Eb ?_ | refine Ec ?_ | refine Ed ?_)
      refine W_region fun K hK => ?_
      simp only [KA, KB, KP, KQ, KM, simprocAttr, KT w, KI, hw.KF, htm, t1, t4, t7, hrl, hrT, hro, hr0, hq0, hql, hszn, hzl, hz6]
      refine hK _ _ ?_
      clear hK
      clear K
      repeat with_reducible (first | refine E0 ?_ | refine E1 ?_ | refine E2 ?_ | refine E3 ?_ | refine E4 ?_ | refine E5 (by decide) ?_ | refine E6 ?_ | refine E7 ?_ | refine E8 ?_ | refine E9 ?_ | refine Ea ?_ | refine Eb ?_ | refine Ec ?_ | refine Ed ?_)
      refine W_condF (by simp only [KA, KP, KQ, simprocAttr, KT w, KI, hw.KF, htm]) ?_
      repeat with_reducible (first | refine E0 ?_ | refine E1 ?_ | refine E2 ?_ | refine E3 ?_ | refine E4 ?_ | refine E5 (by decide) ?_ | refine E6 ?_ | refine E7 ?_ | refine E8 ?_ | refine E9 ?_ | refine Ea ?_ | refine Eb ?_ | refine Ec ?_ | refine Ed ?_)
      refine W_region fun K hK => ?_
      simp only [KA, KB, KP, KQ, KM, simprocAttr, KT w, KI, hw.KF, htm, t7, e1]
      refine hK _ _ ?_
      clear hK
      clear K
      refine ⟨RT.length - (r + 1), by omega, _, r + 1, rfl, rfl, rfl, by omega, ?_⟩
      simp only [KA, KP, KQ, simprocAttr, KT w, KI, hw.KF, htm, t1, t3, t4, Int.natCast_add, A3z]
  have hin : i < SL.length := by omega
  obtain ⟨s, hs⟩ : ∃ s, SL[i]? = some s := ⟨_, List.getElem?_eq_getElem hin⟩
  have hrow : (SL.map slCan)[i]? = some (slCan s) := by rw [List.getElem?_map, hs]; rfl
  have hs0 := hneg i s hs
  have hmx : max s.refs 0 = s.refs := by omega
  simp only [slCan, slC, hmx] at hrow
  have hi0 : ¬ (i : Int) < 0 := by omega
  have e1 : IntKind.i64.wrap ((i : Int) + 1) = (i : Int) + 1 := i64_in _ (by omega)
  have hzl := hszl i hin
  have hzn : ¬ ((ZF i : Int) = 0) := by have := hszp i; omega
  have hkl := (hkb i s hs).1
  have hkn := ks_len s.kids
  have hsn := cnt_take_snoc hs
  refine W_region fun K hK => ?_
  simp only [KA, KB, KP, KQ, KM, simprocAttr, KT w, KI, hw.KF, htm, t1, t5, hsl, hil]
  refine hK _ _ ?_
  clear hK
  clear K
  repeat with_reducible (first | refine E0 ?_ | refine E1 ?_ | refine E2 ?_ | refine E3 ?_ | refine E4 ?_ | refine E5 (by decide) ?_ | refine E6 ?_ | refine E7 ?_ | refine E8 ?_ | refine E9 ?_ | refine Ea ?_ | refine Eb ?_ | refine Ec ?_ | refine Ed ?_)
  refine W_condT (by simp only [KA, KP, KQ, simprocAttr, KT w, KI, hw.KF, htm]) ?_
  repeat with_reducible (first | refine E0 ?_ | refine E1 ?_ | refine E2 ?_ | refine E3 ?_ | refine E4 ?_ | refine E5 (by decide) ?_ | refine E6 ?_ | refine E7 ?_ | refine E8 ?_ | refine E9 ?_ | refine Ea ?_ | refine Eb ?_ | refine Ec ?_ | refine Ed ?_)
  by_cases hpos : s.refs > 0
  · refine W_region fun K hK => ?_
    simp only [KA, KB, KP, KQ, KM, simprocAttr, KT w, KI, hw.KF, htm, t1, t4, t5, hsl, hil, hi0, hrow, hpos, hszn, hzl, hzn]
    refine hK _ _ ?_
    clear hK
    clear K
    repeat with_reducible (first | refine E0 ?_ | refine E1 ?_ | refine E2 ?_ | refine E3 ?_ | refine E4 ?_ | refine E5 (by decide) ?_ | refine E6 ?_ | refine E7 ?_ | refine E8 ?_ | refine E9 ?_ | refine Ea ?_ | refine Eb ?_ | refine Ec ?_ | refine Ed ?_)
    refine W_condF (by simp only [KA, KP, KQ, simprocAttr, KT w, KI, hw.KF, htm]) ?_
    repeat with_reducible (first | refine E0 ?_ | refine E1 ?_ | refine E2 ?_ | refine E3 ?_ | refine E4 ?_ | refine E5 (by decide) ?_ | refine E6 ?_ | refine E7 ?_ | refine E8 ?_ | refine E9 ?_ | refine Ea ?_ | refine Eb ?_ | refine Ec ?_ | refine Ed ?_)
    refine W_region fun K hK => ?_
    simp only [KA, KB, KP, KQ, KM, simprocAttr, KT w, KI, hw.KF, htm]
    refine hK _ _ ?_
    clear hK
    clear K
    repeat with_reducible (first | refine E0 ?_ | refine E1 ?_ | refine E2 ?_ | refine E3 ?_ | refine E4 ?_ | refine E5 (by decide) ?_ | refine E6 ?_ | refine E7 ?_ | refine E8 ?_ | refine E9 ?_ | refine Ea ?_ | refine Eb ?_ | refine Ec ?_ | refine Ed ?_)
    refine W_loop (fun k0 fr T => ∃ (tm : List AV) (k : Nat), fr = ⟨tm, [], none, 9⟩ ∧ T = (St.nil.push (.row [.vec (SL.map slCan), .int .i64 FF, .vec (rs RT)] false)).push (.seq 0 1 (ks (tb SL.length fun j => cnt (SL.take i) j + (s.kids.take k).count j)) 0) ∧ k0 = s.kids.length - k ∧ k ≤ s.kids.length ∧
        tm.length = 118 ∧ tget tm 1 = .ptr 0 0 ∧ tget tm 3 = .sref 1 0 0 SL.length ∧ tget tm 4 = .vec ZL ∧ tget tm 5 = .int .i64 (i : Nat) ∧ tget tm 6 = .int .i64 (k : Nat)) s.kids.length
      ⟨_, 0, rfl, by simp, rfl, Nat.zero_le _, ?_⟩ ?_
    · simp only [KA, KP, KQ, simprocAttr, KT w, KI, hw.KF, htm, t1, t3, t4, t5, Int.ofNat_zero]
    clear htm t1 t3 t4 t5 tm
    rintro k0 fr T ⟨tm, k, rfl, rfl, rfl, hk, htm, t1, t3, t4, t5, t6⟩
    repeat with_reducible (first | refine E0 ?_ | refine E1 ?_ | refine E2 ?_ | refine E3 ?_ | refine E4 ?_ | refine E5 (by decide) ?_ | refine E6 ?_ | refine E7 ?_ | refine E8 ?_ | refine E9 ?_ | refine Ea ?_ | refine Eb ?_ | refine Ec ?_ | refine Ed ?_)
    by_cases hkk : (k : Int) < (s.kids.length : Int)
    case neg =>
      have hke : k = s.kids.length := by omega
      refine W_region fun K hK => ?_
      simp only [KA, KB, KP, KQ, KM, simprocAttr, KT w, KI, hw.KF, htm, t1, t5, t6, hsl, hil, hi0, hrow, hkn, hkk]
      refine hK _ _ ?_
      clear hK
      clear K
      repeat with_reducible (first | refine E0 ?_ | refine E1 ?_ | refine E2 ?_ | refine E3 ?_ | refine E4 ?_ | refine E5 (by decide) ?_ | refine E6 ?_ | refine E7 ?_ | refine E8 ?_ | refine E9 ?_ | refine Ea ?_ | refine Eb ?_ | refine Ec ?_ | refine Ed ?_)
      refine W_condF (by simp only [KA, KP, KQ, simprocAttr, KT w, KI, hw.KF, htm]) ?_
      repeat with_reducible (first | refine E0 ?_ | refine E1 ?_ | refine E2 ?_ | refine E3 ?_ | refine E4 ?_ | refine E5 (by decide) ?_ | refine E6 ?_ | refine E7 ?_ | refine E8 ?_ | refine E9 ?_ | refine Ea ?_ | refine Eb ?_ | refine Ec ?_ | refine Ed ?_)
      refine W_region fun K hK => ?_
      simp only [KA, KB, KP, KQ, KM, simprocAttr, KT w, KI, hw.KF, htm, t5, e1]
      refine hK _ _ ?_
      clear hK
      clear K
      refine ⟨SL.length - (i + 1), by omega, _, i + 1, rfl, ?_, rfl, by omega, ?_⟩
      · rw [tb_congr (f := fun j => cnt (SL.take i) j + (s.kids.take k).count j) (g := fun j => cnt (SL.take (i + 1)) j) fun j _ => by simp only [hsn j, hke, List.take_length]]
      · simp only [KA, KP, KQ, simprocAttr, KT w, KI, hw.KF, htm, t1, t3, t4, Int.natCast_add, A3z]
    obtain ⟨q, hq⟩ : ∃ q, s.kids[k]? = some q := ⟨_, List.getElem?_eq_getElem (by omega)⟩
    obtain ⟨s', hs', hs'0⟩ := hkid i q s hs (List.mem_of_getElem? hq)
    have hqS : q < SL.length := (List.getElem?_eq_some_iff.1 hs').1
    have hq0 : ¬ (q : Int) < 0 := by omega
    have hql : (q : Int) < (SL.length : Int) := by omega
    have hkq : (ks s.kids)[k]? = some [.int .i64 (q : Int)] := by rw [ks_get, hq]; rfl
    have hk0 : ¬ (k : Int) < 0 := by omega
    have htt := htot q s' hs'
    have hcc := hRB q s' hs'
    have htk : s.kids.take (k + 1) = s.kids.take k ++ [q] := by rw [List.take_add_one, hq]; rfl
    have hct : ∀ j, (s.kids.take (k + 1)).count j = (s.kids.take k).count j + (if q = j then 1 else 0) := fun j => by
      rw [htk, List.count_append, List.count_cons, List.count_nil]; simp only [beq_iff_eq, Nat.zero_add]
    have h1 := hct q
    have h2 : (s.kids.take (k + 1)).count q ≤ s.kids.count q := List.Sublist.count_le _ (List.take_sublist _ _)
    have h3 := hsn q
    have h4 := cnt_take_le SL (i + 1) q
    simp only [↓reduceIte] at h1
    have e2 : IntKind.i64.wrap (((cnt (SL.take i) q + (s.kids.take k).count q : Nat) : Int) + 1) = ((cnt (SL.take i) q + (s.kids.take k).count q : Nat) : Int) + 1 := i64_in _ (by omega)
    have e3 : IntKind.i64.wrap ((k : Int) + 1) = (k : Int) + 1 := i64_in _ (by omega)
    have htg := tb_get (fun j => cnt (SL.take i) j + (s.kids.take k).count j) hqS
    have hts := tb_set (N := SL.length) (q := q) (f := fun j => cnt (SL.take i) j + (s.kids.take k).count j) (g := fun j => cnt (SL.take i) j + (s.kids.take (k + 1)).count j) hqS (fun j _ => by simp only [hct j]; omega)
    try simp only at htg hts
    generalize hTX : (ks (tb SL.length fun j => cnt (SL.take i) j + (s.kids.take k).count j)) = TX at *
    have hTXl : TX.length = SL.length := by rw [← hTX]; exact hTl _
    refine W_region fun K hK => ?_
    simp only [KA, KB, KP, KQ, KM, simprocAttr, KT w, KI, hw.KF, htm, t1, t5, t6, hsl, hil, hi0, hrow, hkn, hkk]
    refine hK _ _ ?_
    clear hK
    clear K
    repeat with_reducible (first | refine E0 ?_ | refine E1 ?_ | refine E2 ?_ | refine E3 ?_ | refine E4 ?_ | refine E5 (by decide) ?_ | refine E6 ?_ | refine E7 ?_ | refine E8 ?_ | refine E9 ?_ | refine Ea ?_ | refine Eb ?_ | refine Ec ?_ | refine Ed ?_)
    refine W_condT (by simp only [KA, KP, KQ, simprocAttr, KT w, KI, hw.KF, htm]) ?_
    repeat with_reducible (first | refine E0 ?_ | refine E1 ?_ | refine E2 ?_ | refine E3 ?_ | refine E4 ?_ | refine E5 (by decide) ?_ | refine E6 ?_ | refine E7 ?_ | refine E8 ?_ | refine E9 ?_ | refine Ea ?_ | refine Eb ?_ | refine Ec ?_ | refine Ed ?_)
    refine W_region fun K hK => ?_
    simp only [KA, KB, KP, KQ, KM, simprocAttr, KT w, KI, hw.KF, htm, t1, t3, t5, t6, hsl, hil, hi0, hrow, hkn, hkk, hk0, hkq, hq0, hql, hTXl, htg, e2, hts, splice]
    refine hK _ _ ?_
    clear hK
    clear K
    repeat with_reducible (first | refine E0 ?_ | refine E1 ?_ | refine E2 ?_ | refine E3 ?_ | refine E4 ?_ | refine E5 (by decide) ?_ | refine E6 ?_ | refine E7 ?_ | refine E8 ?_ | refine E9 ?_ | refine Ea ?_ | refine Eb ?_ | refine Ec ?_ | refine Ed ?_)
    refine W_region fun K hK => ?_
    simp only [KA, KB, KP, KQ, KM, simprocAttr, KT w, KI, hw.KF, htm, t6, e3]
    refine hK _ _ ?_
    clear hK
    clear K
    refine ⟨s.kids.length - (k + 1), by omega, _, k + 1, rfl, rfl, rfl, by omega, ?_⟩
    simp only [KA, KP, KQ, simprocAttr, KT w, KI, hw.KF, htm, t1, t3, t4, t5, Int.natCast_add, A3z]
  · refine W_region fun K hK => ?_
    simp only [KA, KB, KP, KQ, KM, simprocAttr, KT w, KI, hw.KF, htm, t1, t4, t5, hsl, hil, hi0, hrow, hpos]
    refine hK _ _ ?_
    clear hK
    clear K
    repeat with_reducible (first | refine E0 ?_ | refine E1 ?_ | refine E2 ?_ | refine E3 ?_ | refine E4 ?_ | refine E5 (by decide) ?_ | refine E6 ?_ | refine E7 ?_ | refine E8 ?_ | refine E9 ?_ | refine Ea ?_ | refine Eb ?_ | refine Ec ?_ | refine Ed ?_)
    refine W_condF (by simp only [KA, KP, KQ, simprocAttr, KT w, KI, hw.KF, htm]) ?_
    repeat with_reducible (first | refine E0 ?_ | refine E1 ?_ | refine E2 ?_ | refine E3 ?_ | refine E4 ?_ | refine E5 (by decide) ?_ | refine E6 ?_ | refine E7 ?_ | refine E8 ?_ | refine E9 ?_ | refine Ea ?_ | refine Eb ?_ | refine Ec ?_ | refine Ed ?_)
    refine W_region fun K hK => ?_
    simp only [KA, KB, KP, KQ, KM, simprocAttr, KT w, KI, hw.KF, htm]
    refine hK _ _ ?_
    clear hK
    clear K
    repeat with_reducible (first | refine E0 ?_ | refine E1 ?_ | refine E2 ?_ | refine E3 ?_ | refine E4 ?_ | refine E5 (by decide) ?_ | refine E6 ?_ | refine E7 ?_ | refine E8 ?_ | refine E9 ?_ | refine Ea ?_ | refine Eb ?_ | refine Ec ?_ | refine Ed ?_)
    refine W_loop (fun k0 fr T => ∃ (tm : List AV) (k : Nat), fr = ⟨tm, [], none, 9⟩ ∧ T = (St.nil.push (.row [.vec (SL.map slCan), .int .i64 FF, .vec (rs RT)] false)).push (.seq 0 1 (ks (tb SL.length fun j => cnt (SL.take i) j + (s.kids.take k).count j)) 0) ∧ k0 = s.kids.length - k ∧ k ≤ s.kids.length ∧
        tm.length = 118 ∧ tget tm 1 = .ptr 0 0 ∧ tget tm 3 = .sref 1 0 0 SL.length ∧ tget tm 4 = .vec ZL ∧ tget tm 5 = .int .i64 (i : Nat) ∧ tget tm 6 = .int .i64 (k : Nat)) s.kids.length
      ⟨_, 0, rfl, by simp, rfl, Nat.zero_le _, ?_⟩ ?_
    · simp only [KA, KP, KQ, simprocAttr, KT w, KI, hw.KF, htm, t1, t3, t4, t5, Int.ofNat_zero]
    clear htm t1 t3 t4 t5 tm
    rintro k0 fr T ⟨tm, k, rfl, rfl, rfl, hk, htm, t1, t3, t4, t5, t6⟩
    repeat with_reducible (first | refine E0 ?_ | refine E1 ?_ | refine E2 ?_ | refine E3 ?_ | refine E4 ?_ | refine E5 (by decide) ?_ | refine E6 ?_ | refine E7 ?_ | refine E8 ?_ | refine E9 ?_ | refine Ea ?_ | refine Eb ?_ | refine Ec ?_ | refine Ed ?_)
    by_cases hkk : (k : Int) < (s.kids.length : Int)
    case neg =>
      have hke : k = s.kids.length := by omega
      refine W_region fun K hK => ?_
      simp only [KA, KB, KP, KQ, KM, simprocAttr, KT w, KI, hw.KF, htm, t1, t5, t6, hsl, hil, hi0, hrow, hkn, hkk]
      refine hK _ _ ?_
      clear hK
      clear K
      repeat with_reducible (first | refine E0 ?_ | refine E1 ?_ | refine E2 ?_ | refine E3 ?_ | refine E4 ?_ | refine E5 (by decide) ?_ | refine E6 ?_ | refine E7 ?_ | refine E8 ?_ | refine E9 ?_ | refine Ea ?_ | refine Eb ?_ | refine Ec ?_ | refine Ed ?_)
      refine W_condF (by simp only [KA, KP, KQ, simprocAttr, KT w, KI, hw.KF, htm]) ?_
      repeat with_reducible (first | refine E0 ?_ | refine E1 ?_ | refine E2 ?_ | refine E3 ?_ | refine E4 ?_ | refine E5 (by decide) ?_ | refine E6 ?_ | refine E7 ?_ | refine E8 ?_ | refine E9 ?_ | refine Ea ?_ | refine Eb ?_ | refine Ec ?_ | refine Ed ?_)
      refine W_region fun K hK => ?_
      simp only [KA, KB, KP, KQ, KM, simprocAttr, KT w, KI, hw.KF, htm, t5, e1]
      refine hK _ _ ?_
      clear hK
      clear K
      refine ⟨SL.length - (i + 1), by omega, _, i + 1, rfl, ?_, rfl, by omega, ?_⟩
      · rw [tb_congr (f := fun j => cnt (SL.take i) j + (s.kids.take k).count j) (g := fun j => cnt (SL.take (i + 1)) j) fun j _ => by simp only [hsn j, hke, List.take_length]]
      · simp only [KA, KP, KQ, simprocAttr, KT w, KI, hw.KF, htm, t1, t3, t4, Int.natCast_add, A3z]
    obtain ⟨q, hq⟩ : ∃ q, s.kids[k]? = some q := ⟨_, List.getElem?_eq_getElem (by omega)⟩
    obtain ⟨s', hs', hs'0⟩ := hkid i q s hs (List.mem_of_getElem? hq)
    have hqS : q < SL.length := (List.getElem?_eq_some_iff.1 hs').1
    have hq0 : ¬ (q : Int) < 0 := by omega
    have hql : (q : Int) < (SL.length : Int) := by omega
    have hkq : (ks s.kids)[k]? = some [.int .i64 (q : Int)] := by rw [ks_get, hq]; rfl
    have hk0 : ¬ (k : Int) < 0 := by omega
    have htt := htot q s' hs'
    have hcc := hRB q s' hs'
    have htk : s.kids.take (k + 1) = s.kids.take k ++ [q] := by rw [List.take_add_one, hq]; rfl
    have hct : ∀ j, (s.kids.take (k + 1)).count j = (s.kids.take k).count j + (if q = j then 1 else 0) := fun j => by
      rw [htk, List.count_append, List.count_cons, List.count_nil]; simp only [beq_iff_eq, Nat.zero_add]
    have h1 := hct q
    have h2 : (s.kids.take (k + 1)).count q ≤ s.kids.count q := List.Sublist.count_le _ (List.take_sublist _ _)
    have h3 := hsn q
    have h4 := cnt_take_le SL (i + 1) q
    simp only [↓reduceIte] at h1
    have e2 : IntKind.i64.wrap (((cnt (SL.take i) q + (s.kids.take k).count q : Nat) : Int) + 1) = ((cnt (SL.take i) q + (s.kids.take k).count q : Nat) : Int) + 1 := i64_in _ (by omega)
    have e3 : IntKind.i64.wrap ((k : Int) + 1) = (k : Int) + 1 := i64_in _ (by omega)
    have htg := tb_get (fun j => cnt (SL.take i) j + (s.kids.take k).count j) hqS
    have hts := tb_set (N := SL.length) (q := q) (f := fun j => cnt (SL.take i) j + (s.kids.take k).count j) (g := fun j => cnt (SL.take i) j + (s.kids.take (k + 1)).count j) hqS (fun j _ => by simp only [hct j]; omega)
    try simp only at htg hts
    generalize hTX : (ks (tb SL.length fun j => cnt (SL.take i) j + (s.kids.take k).count j)) = TX at *
    have hTXl : TX.length = SL.length := by rw [← hTX]; exact hTl _
    refine W_region fun K hK => ?_
    simp only [KA, KB, KP, KQ, KM, simprocAttr, KT w, KI, hw.KF, htm, t1, t5, t6, hsl, hil, hi0, hrow, hkn, hkk]
    refine hK _ _ ?_
    clear hK
    clear K
    repeat with_reducible (first | refine E0 ?_ | refine E1 ?_ | refine E2 ?_ | refine E3 ?_ | refine E4 ?_ | refine E5 (by decide) ?_ | refine E6 ?_ | refine E7 ?_ | refine E8 ?_ | refine E9 ?_ | refine Ea ?_ | refine Eb ?_ | refine Ec ?_ | refine Ed ?_)
    refine W_condT (by simp only [KA, KP, KQ, simprocAttr, KT w, KI, hw.KF, htm]) ?_
    repeat with_reducible (first | refine E0 ?_ | refine E1 ?_ | refine E2 ?_ | refine E3 ?_ | refine E4 ?_ | refine E5 (by decide) ?_ | refine E6 ?_ | refine E7 ?_ | refine E8 ?_ | refine E9 ?_ | refine Ea ?_ | refine Eb ?_ | refine Ec ?_ | refine Ed ?_)
    refine W_region fun K hK => ?_
    simp only [KA, KB, KP, KQ, KM, simprocAttr, KT w, KI, hw.KF, htm, t1, t3, t5, t6, hsl, hil, hi0, hrow, hkn, hkk, hk0, hkq, hq0, hql, hTXl, htg, e2, hts, splice]
    refine hK _ _ ?_
    clear hK
    clear K
    repeat with_reducible (first | refine E0 ?_ | refine E1 ?_ | refine E2 ?_ | refine E3 ?_ | refine E4 ?_ | refine E5 (by decide) ?_ | refine E6 ?_ | refine E7 ?_ | refine E8 ?_ | refine E9 ?_ | refine Ea ?_ | refine Eb ?_ | refine Ec ?_ | refine Ed ?_)
    refine W_region fun K hK => ?_
    simp only [KA, KB, KP, KQ, KM, simprocAttr, KT w, KI, hw.KF, htm, t6, e3]
    refine hK _ _ ?_
    clear hK
    clear K
    refine ⟨s.kids.length - (k + 1), by omega, _, k + 1, rfl, rfl, rfl, by omega, ?_⟩
    simp only [KA, KP, KQ, simprocAttr, KT w, KI, hw.KF, htm, t1, t3, t4, t5, Int.natCast_add, A3z]
end Go.Am.R
