/- THE LAW ArenaHandles. -/
import Derived.Test.YtbmfnoaogebjfaaDoorU11
import Derived.Test.YtbmfnoaogebjfaaDoorT13
set_option linter.unusedSimpArgs false
set_option linter.unusedVariables false
set_option maxRecDepth 20000
namespace Go.Am.R
open Go.Proofs Go.IntWalk

variable {w : Ways}

theorem arC_len (A : Ar) : (arC A).length = 3 := rfl
theorem arC_take (A : Ar) : (arC A).take 3 = arC A := rfl
theorem arC_drop (A : Ar) : (arC A).drop 3 = [] := rfl
theorem arC_nrm (A : Ar) : nrmL (arC A) = some (arC A) := by
  have := nrm_arV A
  simpa [arV, nrm] using this

set_option maxHeartbeats 4000000 in
theorem handles5 (l : List Deed) (hl : l.length ≤ 1000000000000000) (hd : ∀ d ∈ l, d.node.ok ∧ -9223372036854775808 ≤ d.h ∧ d.h ≤ 9223372036854775807) : PC (cfg vw) 5 [.vec (drows l)] (.bool true) := by
  have hw := stdV
  have haw := awake11
  refine PC_of (args' := [.vec (drows l)]) hw.e5 hw.m5 (by simp [nrmA, nrm, drows_nrm]) ?_
  have p17 : PC (cfg vw) 17 [] (.agg (arC ar0)) := new17 hw
  have hsm := fun (d : Deed) h => small_okB hw d.node h 100 (by omega) (by omega)
  have pAdd : ∀ {A C : Ar} {tr : List Node} {gn : List Bool} {n : Node}, HS A tr gn → nn n ≤ 100 → addR A n = (C, ((tr.length : Nat) : Int), 0) → PC (cfg vw) 12 [.agg (arC A), .agg n.cells] (.tup [.agg (arC C), .int .i64 ((tr.length : Nat) : Int), .int .i64 0]) := fun {A C tr gn n} h h100 hA => by
    have := add12 hw (by rfl) (by rfl) (by rfl) A n h.inv (100 * (tr.length : Int)) h.rb (by omega) (by have := h.le; omega) h.kl (by have := h.rl; have := h.le; omega)
    rw [hA] at this
    exact this
  have pNo : ∀ {A : Ar} {tr : List Node} {gn : List Bool}, HS A tr gn → ∀ (h : Int), (rootR A h).2 = false → PC (cfg vw) 14 [.agg (arC A), .int .i64 h] (.tup [.agg (arC A), .int .i64 19]) := fun {A tr gn} h k hk =>
    drop14_no hw A k (by have := h.rl; have := h.le; omega) hk
  have pDrop : ∀ {A C : Ar} {tr : List Node} {gn : List Bool} {k i : Nat}, HS A tr gn → A.roots[k]? = some (some i) → LessL ⟨A.slots, A.free, A.roots.set k none⟩ [i] C → PC (cfg vw) 14 [.agg (arC A), .int .i64 (k : Nat)] (.tup [.agg (arC C), .int .i64 0]) := fun {A C tr gn k i} h hk hC =>
    drop14 hw (by rfl) (by rfl) (by rfl) A C k i h.inv (100 * (tr.length : Int)) h.rb (by omega) (by have := h.le; omega) h.kl (by have := h.rl; have := h.le; omega) hk hC
  have pSame : ∀ {A : Ar} {tr : List Node} {gn : List Bool}, HS A tr gn → PC (cfg vw) 16 [.agg (arC A), .agg (arC A)] (.bool true) := fun {A tr gn} h =>
    same16 hw A (by have := h.inv.len; omega) (by have := h.rl; have := h.le; omega) (fun s hs => by
      obtain ⟨i, hi⟩ := List.mem_iff_getElem?.1 hs
      exact h.kl i s hi)
  have pFit : ∀ {A : Ar} {tr : List Node} {gn : List Bool}, HS A tr gn → PC (cfg vw) 9 [.agg (arC A)] (.bool true) := fun {A tr gn} h =>
    fit9 hw A h.inv (h.inv.kb h.kl) (by have := h.rl; have := h.le; omega) h.rb (by have := h.le; omega) h.sz
  have pRdNo : ∀ {A : Ar} {tr : List Node} {gn : List Bool}, HS A tr gn → ∀ (j : Nat), gn[j]? = some true → PC (cfg vw) 19 [.agg (arC A), .int .i64 (j : Nat)] (.tup [.agg nd0.cells, .int .i64 19]) := fun {A tr gn} h j hj =>
    read19_no hw A j (by have := h.rl; have := h.le; omega) (by simp [rootR, h.dead j hj])
  have pRd : ∀ {A : Ar} {tr : List Node} {gn : List Bool}, HS A tr gn → ∀ (j : Nat) (n : Node), gn[j]? = some false → tr[j]? = some n → PC (cfg vw) 19 [.agg (arC A), .int .i64 (j : Nat)] (.tup [.agg n.cells, .int .i64 0]) := fun {A tr gn} h j n hj hn => by
    obtain ⟨i, h1, h2⟩ := h.live j n hj hn
    have := read19 hw A j i _ (by have := h.inv.len; omega) (h.inv.kb h.kl) (by have := h.rl; have := h.le; omega) h1 h2
    rw [unt_nt n 0 (h.nok n (List.mem_of_getElem? hn)).1] at this
    exact this
  have pEq : ∀ (n : Node), n.ok → PC (cfg vw) 20 [.agg n.cells, .agg n.cells] (.bool true) := fun n h => same20 hw n h
  have pLive : ∀ {A : Ar} {tr : List Node} {gn : List Bool}, HS A tr gn → PC (cfg vw) 18 [.agg (arC A)] (.int .i64 (used A.slots : Nat)) := fun {A tr gn} h =>
    live18 hw A (by have := h.inv.len; omega) (nonneg h.inv)
  have acl := arC_len
  have act := arC_take
  have acd := arC_drop
  have acn := arC_nrm
  have drl := drows_len l
  generalize hW : vw = w at *
  refine call_of_W (fn5 w) rfl ?_
  simp only [Tryd.f5, List.length_cons, List.length_nil, ↓reduceIte, Int.reduceLT, Int.reduceLE, Int.reduceAdd, Int.reduceSub, Int.reduceNeg, Int.reduceMul, Int.reduceToNat, Int.reduceEq, Int.reduceNe, Int.reduceGT, Int.reduceGE, Nat.reducePow, IntKind.bits, Nat.reduceAdd, Nat.reduceSub, List.cons_append, List.nil_append]
  repeat with_reducible (first | refine E0 ?_ | refine E1 ?_ | refine E2 ?_ | refine E3 ?_ | refine E4 ?_ | refine E5 (by decide) ?_ | refine E6 ?_ | refine E7 ?_ | refine E8 ?_ | refine E9 ?_ | refine Ea ?_ | refine Eb ?_ | refine Ec ?_ | refine Ed ?_)
  refine W_region fun K hK => ?_
  simp only [KA, KB, KP, KQ, KM, simprocAttr, KT w, KI, hw.KF]
  refine hK _ _ ?_
  clear hK
  clear K
  repeat with_reducible (first | refine E0 ?_ | refine E1 ?_ | refine E2 ?_ | refine E3 ?_ | refine E4 ?_ | refine E5 (by decide) ?_ | refine E6 ?_ | refine E7 ?_ | refine E8 ?_ | refine E9 ?_ | refine Ea ?_ | refine Eb ?_ | refine Ec ?_ | refine Ed ?_)
  refine W_region fun K hK => ?_
  simp only [KA, KB, KP, KQ, KM, simprocAttr, KT w, KI, hw.KF, p17, acl, act, acd, splice]
  refine hK _ _ ?_
  clear hK
  clear K
  repeat with_reducible (first | refine E0 ?_ | refine E1 ?_ | refine E2 ?_ | refine E3 ?_ | refine E4 ?_ | refine E5 (by decide) ?_ | refine E6 ?_ | refine E7 ?_ | refine E8 ?_ | refine E9 ?_ | refine Ea ?_ | refine Eb ?_ | refine Ec ?_ | refine Ed ?_)
  refine W_region fun K hK => ?_
  simp only [KA, KB, KP, KQ, KM, simprocAttr, KT w, KI, hw.KF]
  refine hK _ _ ?_
  clear hK
  clear K
  repeat with_reducible (first | refine E0 ?_ | refine E1 ?_ | refine E2 ?_ | refine E3 ?_ | refine E4 ?_ | refine E5 (by decide) ?_ | refine E6 ?_ | refine E7 ?_ | refine E8 ?_ | refine E9 ?_ | refine Ea ?_ | refine Eb ?_ | refine Ec ?_ | refine Ed ?_)
  refine W_region fun K hK => ?_
  simp only [KA, KB, KP, KQ, KM, simprocAttr, KT w, KI, hw.KF]
  refine hK _ _ ?_
  clear hK
  clear K
  repeat with_reducible (first | refine E0 ?_ | refine E1 ?_ | refine E2 ?_ | refine E3 ?_ | refine E4 ?_ | refine E5 (by decide) ?_ | refine E6 ?_ | refine E7 ?_ | refine E8 ?_ | refine E9 ?_ | refine Ea ?_ | refine Eb ?_ | refine Ec ?_ | refine Ed ?_)
  refine W_region fun K hK => ?_
  simp only [KA, KB, KP, KQ, KM, simprocAttr, KT w, KI, hw.KF, drl]
  refine hK _ _ ?_
  clear hK
  clear K
  repeat with_reducible (first | refine E0 ?_ | refine E1 ?_ | refine E2 ?_ | refine E3 ?_ | refine E4 ?_ | refine E5 (by decide) ?_ | refine E6 ?_ | refine E7 ?_ | refine E8 ?_ | refine E9 ?_ | refine Ea ?_ | refine Eb ?_ | refine Ec ?_ | refine Ed ?_)
  -- MAIN
  refine W_loop (fun k0 fr T => ∃ (tm : List AV) (i : Nat) (A : Ar) (tr : List Node) (gn : List Bool) (trv gnv : AV), fr = ⟨tm, [], none, 5⟩ ∧ T.ok ∧ T.base = 0 ∧ 1 ≤ T.n ∧ T.get 0 = some (.row (arC A) false) ∧ HS A tr gn ∧ tr.length ≤ i ∧ MV 7 trv (Node.rows tr) T ∧ MV 1 gnv (bls gn) T ∧ k0 = l.length - i ∧ i ≤ l.length ∧
      tm.length = 163 ∧ tget tm 3 = .ptr 0 0 ∧ tget tm 4 = trv ∧ tget tm 5 = gnv ∧ tget tm 19 = .vec (drows l) ∧ tget tm 20 = .int .i64 (l.length : Nat) ∧ tget tm 21 = .int .i64 (i : Nat)) l.length
    ⟨_, 0, ar0, [], [], .nils, .nils, rfl, St.ok_push St.ok_nil, rfl, by simp [St.pushN], rfl, HS.init, by simp, .inl ⟨rfl, .inr rfl⟩, .inl ⟨rfl, .inr rfl⟩, rfl, Nat.zero_le _, ?_⟩ ?_
  · simp only [KA, KP, KQ, simprocAttr, KT w, KI, hw.KF, Int.ofNat_zero]
  rintro k0 fr T ⟨tm, i, A, tr, gn, trv, gnv, rfl, hok, hb, hn, g0, hHS, hti, htv, hgv, rfl, hi, htm, t3, t4, t5, t19, t20, t21⟩
  repeat with_reducible (first | refine E0 ?_ | refine E1 ?_ | refine E2 ?_ | refine E3 ?_ | refine E4 ?_ | refine E5 (by decide) ?_ | refine E6 ?_ | refine E7 ?_ | refine E8 ?_ | refine E9 ?_ | refine Ea ?_ | refine Eb ?_ | refine Ec ?_ | refine Ed ?_)
  by_cases hil : (i : Int) < (l.length : Int)
  case neg =>
    refine W_region fun K hK => ?_
    simp only [KA, KB, KP, KQ, KM, simprocAttr, KT w, KI, hw.KF, htm, t20, t21, hil]
    refine hK _ _ ?_
    clear hK
    clear K
    repeat with_reducible (first | refine E0 ?_ | refine E1 ?_ | refine E2 ?_ | refine E3 ?_ | refine E4 ?_ | refine E5 (by decide) ?_ | refine E6 ?_ | refine E7 ?_ | refine E8 ?_ | refine E9 ?_ | refine Ea ?_ | refine Eb ?_ | refine Ec ?_ | refine Ed ?_)
    refine W_condF (by simp only [KA, KP, KQ, simprocAttr, KT w, KI, hw.KF, htm]) ?_
    repeat with_reducible (first | refine E0 ?_ | refine E1 ?_ | refine E2 ?_ | refine E3 ?_ | refine E4 ?_ | refine E5 (by decide) ?_ | refine E6 ?_ | refine E7 ?_ | refine E8 ?_ | refine E9 ?_ | refine Ea ?_ | refine Eb ?_ | refine Ec ?_ | refine Ed ?_)
    have hbl := bls_len gn
    have halg := fun T' => hgv.alen (w := w) (t := 47) (e := 4) (Tk47 w) T'
    rw [hbl] at halg
    refine W_region fun K hK => ?_
    simp only [KA, KB, KP, KQ, KM, simprocAttr, KT w, KI, hw.KF, htm, t5, halg]
    refine hK _ _ ?_
    clear hK
    clear K
    repeat with_reducible (first | refine E0 ?_ | refine E1 ?_ | refine E2 ?_ | refine E3 ?_ | refine E4 ?_ | refine E5 (by decide) ?_ | refine E6 ?_ | refine E7 ?_ | refine E8 ?_ | refine E9 ?_ | refine Ea ?_ | refine Eb ?_ | refine Ec ?_ | refine Ed ?_)
    refine W_loop (fun k0 fr T => ∃ (tm : List AV) (j : Nat) (A : Ar) (gn' : List Bool), fr = ⟨tm, [], none, 5⟩ ∧ T.ok ∧ T.base = 0 ∧ 1 ≤ T.n ∧ T.get 0 = some (.row (arC A) false) ∧ HS A tr gn' ∧ gn'.length = gn.length ∧ (∀ i, i < j → gn'[i]? = some true) ∧ k0 = gn.length - j ∧ j ≤ gn.length ∧
        tm.length = 163 ∧ tget tm 3 = .ptr 0 0 ∧ tget tm 146 = .int .i64 (gn.length : Nat) ∧ tget tm 147 = .int .i64 (j : Nat)) gn.length
      ⟨_, 0, A, gn, rfl, hok, hb, hn, g0, hHS, rfl, (fun i h => by omega), rfl, Nat.zero_le _, ?_⟩ ?_
    · simp only [KA, KP, KQ, simprocAttr, KT w, KI, hw.KF, htm, t3, Int.ofNat_zero]
    rintro k0 fr T2 ⟨tm, j, A2, gn', rfl, ok2, b2, n2, g2, hHS2, hgl2, hall, rfl, hj, htm, t3, t146, t147⟩
    repeat with_reducible (first | refine E0 ?_ | refine E1 ?_ | refine E2 ?_ | refine E3 ?_ | refine E4 ?_ | refine E5 (by decide) ?_ | refine E6 ?_ | refine E7 ?_ | refine E8 ?_ | refine E9 ?_ | refine Ea ?_ | refine Eb ?_ | refine Ec ?_ | refine Ed ?_)
    have hgl := hHS.gl
    have hle := hHS.le
    by_cases hjl : (j : Int) < (gn.length : Int)
    case neg =>
      have hu0 := hHS2.none (fun i hi => hall i (by omega))
      have pl := pLive hHS2
      rw [hu0] at pl
      refine W_region fun K hK => ?_
      simp only [KA, KB, KP, KQ, KM, simprocAttr, KT w, KI, hw.KF, htm, t146, t147, hjl]
      refine hK _ _ ?_
      clear hK
      clear K
      repeat with_reducible (first | refine E0 ?_ | refine E1 ?_ | refine E2 ?_ | refine E3 ?_ | refine E4 ?_ | refine E5 (by decide) ?_ | refine E6 ?_ | refine E7 ?_ | refine E8 ?_ | refine E9 ?_ | refine Ea ?_ | refine Eb ?_ | refine Ec ?_ | refine Ed ?_)
      refine W_condF (by simp only [KA, KP, KQ, simprocAttr, KT w, KI, hw.KF, htm]) ?_
      repeat with_reducible (first | refine E0 ?_ | refine E1 ?_ | refine E2 ?_ | refine E3 ?_ | refine E4 ?_ | refine E5 (by decide) ?_ | refine E6 ?_ | refine E7 ?_ | refine E8 ?_ | refine E9 ?_ | refine Ea ?_ | refine Eb ?_ | refine Ec ?_ | refine Ed ?_)
      refine W_region fun K hK => ?_
      simp only [KA, KB, KP, KQ, KM, simprocAttr, KT w, KI, hw.KF, htm, t3, g2, acl, act, acd, pl, haw, Int.ofNat_zero]
      refine hK _ _ ?_
      clear hK
      clear K
      repeat with_reducible (first | refine E0 ?_ | refine E1 ?_ | refine E2 ?_ | refine E3 ?_ | refine E4 ?_ | refine E5 (by decide) ?_ | refine E6 ?_ | refine E7 ?_ | refine E8 ?_ | refine E9 ?_ | refine Ea ?_ | refine Eb ?_ | refine Ec ?_ | refine Ed ?_)
      refine AtEnd_of rfl ?_
      simp only [KA, KP, KQ, simprocAttr, KT w, KI, hw.KF, htm, RS_some, aresults_nil, aresults_tmp, aresults_cell, one]
      exact FZ_bool
    have hjn : j < gn'.length := by omega
    have e1 : IntKind.i64.wrap ((j : Int) + 1) = (j : Int) + 1 := i64_in _ (by omega)
    obtain ⟨b, hb⟩ : ∃ b, gn'[j]? = some b := ⟨_, List.getElem?_eq_getElem hjn⟩
    refine W_region fun K hK => ?_
    simp only [KA, KB, KP, KQ, KM, simprocAttr, KT w, KI, hw.KF, htm, t146, t147, hjl]
    refine hK _ _ ?_
    clear hK
    clear K
    repeat with_reducible (first | refine E0 ?_ | refine E1 ?_ | refine E2 ?_ | refine E3 ?_ | refine E4 ?_ | refine E5 (by decide) ?_ | refine E6 ?_ | refine E7 ?_ | refine E8 ?_ | refine E9 ?_ | refine Ea ?_ | refine Eb ?_ | refine Ec ?_ | refine Ed ?_)
    refine W_condT (by simp only [KA, KP, KQ, simprocAttr, KT w, KI, hw.KF, htm]) ?_
    repeat with_reducible (first | refine E0 ?_ | refine E1 ?_ | refine E2 ?_ | refine E3 ?_ | refine E4 ?_ | refine E5 (by decide) ?_ | refine E6 ?_ | refine E7 ?_ | refine E8 ?_ | refine E9 ?_ | refine Ea ?_ | refine Eb ?_ | refine Ec ?_ | refine Ed ?_)
    refine W_region fun K hK => ?_
    simp only [KA, KB, KP, KQ, KM, simprocAttr, KT w, KI, hw.KF, htm, t147]
    refine hK _ _ ?_
    clear hK
    clear K
    repeat with_reducible (first | refine E0 ?_ | refine E1 ?_ | refine E2 ?_ | refine E3 ?_ | refine E4 ?_ | refine E5 (by decide) ?_ | refine E6 ?_ | refine E7 ?_ | refine E8 ?_ | refine E9 ?_ | refine Ea ?_ | refine Eb ?_ | refine Ec ?_ | refine Ed ?_)
    cases b with
    | true =>
      have pd := pNo hHS2 (j : Int) (by simp [rootR, hHS2.dead j hb])
      refine W_region fun K hK => ?_
      simp only [KA, KB, KP, KQ, KM, simprocAttr, KT w, KI, hw.KF, htm, t3, t147, g2, acl, act, acd, pd, ok2, b2, n2, splice]
      refine hK _ _ ?_
      clear hK
      clear K
      repeat with_reducible (first | refine E0 ?_ | refine E1 ?_ | refine E2 ?_ | refine E3 ?_ | refine E4 ?_ | refine E5 (by decide) ?_ | refine E6 ?_ | refine E7 ?_ | refine E8 ?_ | refine E9 ?_ | refine Ea ?_ | refine Eb ?_ | refine Ec ?_ | refine Ed ?_)
      refine W_region fun K hK => ?_
      simp only [KA, KB, KP, KQ, KM, simprocAttr, KT w, KI, hw.KF, htm, t147, e1]
      refine hK _ _ ?_
      clear hK
      clear K
      refine ⟨gn.length - (j + 1), by omega, _, j + 1, A2, gn', rfl, St.ok_set ok2, by rw [St.setB]; exact b2, by rw [St.setN]; exact n2, by exact St.get_sete ok2 (by omega), hHS2, hgl2, fun i hi => ?_, rfl, by omega, ?_⟩
      · by_cases e : i < j
        · exact hall i e
        · have : i = j := by omega
          subst this; exact hb
      · simp only [KA, KP, KQ, simprocAttr, KT w, KI, hw.KF, htm, t3, t146, Int.natCast_add, A3z]
    | false =>
      obtain ⟨q, C, hq, hC, hHC⟩ := hHS2.drop hb
      have pd := pDrop hHS2 hq hC
      refine W_region fun K hK => ?_
      simp only [KA, KB, KP, KQ, KM, simprocAttr, KT w, KI, hw.KF, htm, t3, t147, g2, acl, act, acd, pd, ok2, b2, n2, splice]
      refine hK _ _ ?_
      clear hK
      clear K
      repeat with_reducible (first | refine E0 ?_ | refine E1 ?_ | refine E2 ?_ | refine E3 ?_ | refine E4 ?_ | refine E5 (by decide) ?_ | refine E6 ?_ | refine E7 ?_ | refine E8 ?_ | refine E9 ?_ | refine Ea ?_ | refine Eb ?_ | refine Ec ?_ | refine Ed ?_)
      refine W_region fun K hK => ?_
      simp only [KA, KB, KP, KQ, KM, simprocAttr, KT w, KI, hw.KF, htm, t147, e1]
      refine hK _ _ ?_
      clear hK
      clear K
      refine ⟨gn.length - (j + 1), by omega, _, j + 1, C, gn'.set j true, rfl, St.ok_set ok2, by rw [St.setB]; exact b2, by rw [St.setN]; exact n2, by exact St.get_sete ok2 (by omega), hHC, by simp [hgl2], fun i hi => ?_, rfl, by omega, ?_⟩
      · rw [List.getElem?_set]
        by_cases e : j = i
        · rw [if_pos e, if_pos hjn]
        · rw [if_neg e]; exact hall i (by omega)
      · simp only [KA, KP, KQ, simprocAttr, KT w, KI, hw.KF, htm, t3, t146, Int.natCast_add, A3z]
  have hi0 : ¬ (i : Int) < 0 := by omega
  obtain ⟨d, hdi⟩ : ∃ d, l[i]? = some d := ⟨_, List.getElem?_eq_getElem (by omega)⟩
  obtain ⟨hdn, hdh1, hdh2⟩ := hd d (List.mem_of_getElem? hdi)
  have hdr := drows_get hdi
  have h9 := d.row_len
  have h7t := d.row_take
  have h77 := d.row7
  have h78 := d.row8
  have h9t : d.row.take 9 = d.row := List.take_of_length_le (by rw [h9]; omega)
  have h9d : d.row.drop 9 = [] := List.drop_eq_nil_of_le (by rw [h9]; omega)
  have ncl := Node.cells_len d.node
  have nct := Node.cells_take d.node
  have ncd := Node.cells_drop d.node
  have e1 : IntKind.i64.wrap ((i : Int) + 1) = (i : Int) + 1 := i64_in _ (by omega)
  have hsmd := hsm d hdn
  generalize hDR : d.row = DR at *
  refine W_region fun K hK => ?_
  simp only [KA, KB, KP, KQ, KM, simprocAttr, KT w, KI, hw.KF, htm, t20, t21, hil]
  refine hK _ _ ?_
  clear hK
  clear K
  repeat with_reducible (first | refine E0 ?_ | refine E1 ?_ | refine E2 ?_ | refine E3 ?_ | refine E4 ?_ | refine E5 (by decide) ?_ | refine E6 ?_ | refine E7 ?_ | refine E8 ?_ | refine E9 ?_ | refine Ea ?_ | refine Eb ?_ | refine Ec ?_ | refine Ed ?_)
  refine W_condT (by simp only [KA, KP, KQ, simprocAttr, KT w, KI, hw.KF, htm]) ?_
  repeat with_reducible (first | refine E0 ?_ | refine E1 ?_ | refine E2 ?_ | refine E3 ?_ | refine E4 ?_ | refine E5 (by decide) ?_ | refine E6 ?_ | refine E7 ?_ | refine E8 ?_ | refine E9 ?_ | refine Ea ?_ | refine Eb ?_ | refine Ec ?_ | refine Ed ?_)
  refine W_region fun K hK => ?_
  simp only [KA, KB, KP, KQ, KM, simprocAttr, KT w, KI, hw.KF, htm, t19, t21, drl, hdr, hi0, hil, h9, h9t, h9d, hok, hb, A3p, splice]
  refine hK _ _ ?_
  clear hK
  clear K
  repeat with_reducible (first | refine E0 ?_ | refine E1 ?_ | refine E2 ?_ | refine E3 ?_ | refine E4 ?_ | refine E5 (by decide) ?_ | refine E6 ?_ | refine E7 ?_ | refine E8 ?_ | refine E9 ?_ | refine Ea ?_ | refine Eb ?_ | refine Ec ?_ | refine Ed ?_)
  have ok1 : (T.push (.row DR false)).ok := St.ok_push hok
  have b1 : (T.push (.row DR false)).base = 0 := by rw [St.pushB]; exact hb
  have n1 : (T.push (.row DR false)).n = T.n + 1 := St.pushN _ _
  have g01 : (T.push (.row DR false)).get 0 = some (.row (arC A) false) := (St.get_pushn (by omega)).trans g0
  have gN1 : (T.push (.row DR false)).get T.n = some (.row DR false) := St.get_pushe
  have htv1 := htv.push (.row DR false)
  have hgv1 := hgv.push (.row DR false)
  generalize hN : T.n = N at *
  generalize T.push (.row DR false) = T1 at *
  by_cases h20 : 20 ≤ i
  · have h20' : (i : Int) ≥ 20 := by omega
    refine W_region fun K hK => ?_
    simp only [KA, KB, KP, KQ, KM, simprocAttr, KT w, KI, hw.KF, htm, h20']
    refine hK _ _ ?_
    clear hK
    clear K
    repeat with_reducible (first | refine E0 ?_ | refine E1 ?_ | refine E2 ?_ | refine E3 ?_ | refine E4 ?_ | refine E5 (by decide) ?_ | refine E6 ?_ | refine E7 ?_ | refine E8 ?_ | refine E9 ?_ | refine Ea ?_ | refine Eb ?_ | refine Ec ?_ | refine Ed ?_)
    refine W_condT (by simp only [KA, KP, KQ, simprocAttr, KT w, KI, hw.KF, htm]) ?_
    repeat with_reducible (first | refine E0 ?_ | refine E1 ?_ | refine E2 ?_ | refine E3 ?_ | refine E4 ?_ | refine E5 (by decide) ?_ | refine E6 ?_ | refine E7 ?_ | refine E8 ?_ | refine E9 ?_ | refine Ea ?_ | refine Eb ?_ | refine Ec ?_ | refine Ed ?_)
    have hbl := bls_len gn
    have halg := fun T' => hgv1.alen (w := w) (t := 47) (e := 4) (Tk47 w) T'
    rw [hbl] at halg
    refine W_region fun K hK => ?_
    simp only [KA, KB, KP, KQ, KM, simprocAttr, KT w, KI, hw.KF, htm, t5, halg]
    refine hK _ _ ?_
    clear hK
    clear K
    repeat with_reducible (first | refine E0 ?_ | refine E1 ?_ | refine E2 ?_ | refine E3 ?_ | refine E4 ?_ | refine E5 (by decide) ?_ | refine E6 ?_ | refine E7 ?_ | refine E8 ?_ | refine E9 ?_ | refine Ea ?_ | refine Eb ?_ | refine Ec ?_ | refine Ed ?_)
    refine W_loop (fun k0 fr T => ∃ (tm : List AV) (j : Nat) (A : Ar) (gn' : List Bool), fr = ⟨tm, [], none, 5⟩ ∧ T.ok ∧ T.base = 0 ∧ 1 ≤ T.n ∧ T.get 0 = some (.row (arC A) false) ∧ HS A tr gn' ∧ gn'.length = gn.length ∧ (∀ i, i < j → gn'[i]? = some true) ∧ k0 = gn.length - j ∧ j ≤ gn.length ∧
        tm.length = 163 ∧ tget tm 3 = .ptr 0 0 ∧ tget tm 146 = .int .i64 (gn.length : Nat) ∧ tget tm 147 = .int .i64 (j : Nat)) gn.length
      ⟨_, 0, A, gn, rfl, ok1, b1, (by omega), g01, hHS, rfl, (fun i h => by omega), rfl, Nat.zero_le _, ?_⟩ ?_
    · simp only [KA, KP, KQ, simprocAttr, KT w, KI, hw.KF, htm, t3, Int.ofNat_zero]
    rintro k0 fr T2 ⟨tm, j, A2, gn', rfl, ok2, b2, n2, g2, hHS2, hgl2, hall, rfl, hj, htm, t3, t146, t147⟩
    repeat with_reducible (first | refine E0 ?_ | refine E1 ?_ | refine E2 ?_ | refine E3 ?_ | refine E4 ?_ | refine E5 (by decide) ?_ | refine E6 ?_ | refine E7 ?_ | refine E8 ?_ | refine E9 ?_ | refine Ea ?_ | refine Eb ?_ | refine Ec ?_ | refine Ed ?_)
    have hgl := hHS.gl
    have hle := hHS.le
    by_cases hjl : (j : Int) < (gn.length : Int)
    case neg =>
      have hu0 := hHS2.none (fun i hi => hall i (by omega))
      have pl := pLive hHS2
      rw [hu0] at pl
      refine W_region fun K hK => ?_
      simp only [KA, KB, KP, KQ, KM, simprocAttr, KT w, KI, hw.KF, htm, t146, t147, hjl]
      refine hK _ _ ?_
      clear hK
      clear K
      repeat with_reducible (first | refine E0 ?_ | refine E1 ?_ | refine E2 ?_ | refine E3 ?_ | refine E4 ?_ | refine E5 (by decide) ?_ | refine E6 ?_ | refine E7 ?_ | refine E8 ?_ | refine E9 ?_ | refine Ea ?_ | refine Eb ?_ | refine Ec ?_ | refine Ed ?_)
      refine W_condF (by simp only [KA, KP, KQ, simprocAttr, KT w, KI, hw.KF, htm]) ?_
      repeat with_reducible (first | refine E0 ?_ | refine E1 ?_ | refine E2 ?_ | refine E3 ?_ | refine E4 ?_ | refine E5 (by decide) ?_ | refine E6 ?_ | refine E7 ?_ | refine E8 ?_ | refine E9 ?_ | refine Ea ?_ | refine Eb ?_ | refine Ec ?_ | refine Ed ?_)
      refine W_region fun K hK => ?_
      simp only [KA, KB, KP, KQ, KM, simprocAttr, KT w, KI, hw.KF, htm, t3, g2, acl, act, acd, pl, haw, Int.ofNat_zero]
      refine hK _ _ ?_
      clear hK
      clear K
      repeat with_reducible (first | refine E0 ?_ | refine E1 ?_ | refine E2 ?_ | refine E3 ?_ | refine E4 ?_ | refine E5 (by decide) ?_ | refine E6 ?_ | refine E7 ?_ | refine E8 ?_ | refine E9 ?_ | refine Ea ?_ | refine Eb ?_ | refine Ec ?_ | refine Ed ?_)
      refine AtEnd_of rfl ?_
      simp only [KA, KP, KQ, simprocAttr, KT w, KI, hw.KF, htm, RS_some, aresults_nil, aresults_tmp, aresults_cell, one]
      exact FZ_bool
    have hjn : j < gn'.length := by omega
    have e1 : IntKind.i64.wrap ((j : Int) + 1) = (j : Int) + 1 := i64_in _ (by omega)
    obtain ⟨b, hb⟩ : ∃ b, gn'[j]? = some b := ⟨_, List.getElem?_eq_getElem hjn⟩
    refine W_region fun K hK => ?_
    simp only [KA, KB, KP, KQ, KM, simprocAttr, KT w, KI, hw.KF, htm, t146, t147, hjl]
    refine hK _ _ ?_
    clear hK
    clear K
    repeat with_reducible (first | refine E0 ?_ | refine E1 ?_ | refine E2 ?_ | refine E3 ?_ | refine E4 ?_ | refine E5 (by decide) ?_ | refine E6 ?_ | refine E7 ?_ | refine E8 ?_ | refine E9 ?_ | refine Ea ?_ | refine Eb ?_ | refine Ec ?_ | refine Ed ?_)
    refine W_condT (by simp only [KA, KP, KQ, simprocAttr, KT w, KI, hw.KF, htm]) ?_
    repeat with_reducible (first | refine E0 ?_ | refine E1 ?_ | refine E2 ?_ | refine E3 ?_ | refine E4 ?_ | refine E5 (by decide) ?_ | refine E6 ?_ | refine E7 ?_ | refine E8 ?_ | refine E9 ?_ | refine Ea ?_ | refine Eb ?_ | refine Ec ?_ | refine Ed ?_)
    refine W_region fun K hK => ?_
    simp only [KA, KB, KP, KQ, KM, simprocAttr, KT w, KI, hw.KF, htm, t147]
    refine hK _ _ ?_
    clear hK
    clear K
    repeat with_reducible (first | refine E0 ?_ | refine E1 ?_ | refine E2 ?_ | refine E3 ?_ | refine E4 ?_ | refine E5 (by decide) ?_ | refine E6 ?_ | refine E7 ?_ | refine E8 ?_ | refine E9 ?_ | refine Ea ?_ | refine Eb ?_ | refine Ec ?_ | refine Ed ?_)
    cases b with
    | true =>
      have pd := pNo hHS2 (j : Int) (by simp [rootR, hHS2.dead j hb])
      refine W_region fun K hK => ?_
      simp only [KA, KB, KP, KQ, KM, simprocAttr, KT w, KI, hw.KF, htm, t3, t147, g2, acl, act, acd, pd, ok2, b2, n2, splice]
      refine hK _ _ ?_
      clear hK
      clear K
      repeat with_reducible (first | refine E0 ?_ | refine E1 ?_ | refine E2 ?_ | refine E3 ?_ | refine E4 ?_ | refine E5 (by decide) ?_ | refine E6 ?_ | refine E7 ?_ | refine E8 ?_ | refine E9 ?_ | refine Ea ?_ | refine Eb ?_ | refine Ec ?_ | refine Ed ?_)
      refine W_region fun K hK => ?_
      simp only [KA, KB, KP, KQ, KM, simprocAttr, KT w, KI, hw.KF, htm, t147, e1]
      refine hK _ _ ?_
      clear hK
      clear K
      refine ⟨gn.length - (j + 1), by omega, _, j + 1, A2, gn', rfl, St.ok_set ok2, by rw [St.setB]; exact b2, by rw [St.setN]; exact n2, by exact St.get_sete ok2 (by omega), hHS2, hgl2, fun i hi => ?_, rfl, by omega, ?_⟩
      · by_cases e : i < j
        · exact hall i e
        · have : i = j := by omega
          subst this; exact hb
      · simp only [KA, KP, KQ, simprocAttr, KT w, KI, hw.KF, htm, t3, t146, Int.natCast_add, A3z]
    | false =>
      obtain ⟨q, C, hq, hC, hHC⟩ := hHS2.drop hb
      have pd := pDrop hHS2 hq hC
      refine W_region fun K hK => ?_
      simp only [KA, KB, KP, KQ, KM, simprocAttr, KT w, KI, hw.KF, htm, t3, t147, g2, acl, act, acd, pd, ok2, b2, n2, splice]
      refine hK _ _ ?_
      clear hK
      clear K
      repeat with_reducible (first | refine E0 ?_ | refine E1 ?_ | refine E2 ?_ | refine E3 ?_ | refine E4 ?_ | refine E5 (by decide) ?_ | refine E6 ?_ | refine E7 ?_ | refine E8 ?_ | refine E9 ?_ | refine Ea ?_ | refine Eb ?_ | refine Ec ?_ | refine Ed ?_)
      refine W_region fun K hK => ?_
      simp only [KA, KB, KP, KQ, KM, simprocAttr, KT w, KI, hw.KF, htm, t147, e1]
      refine hK _ _ ?_
      clear hK
      clear K
      refine ⟨gn.length - (j + 1), by omega, _, j + 1, C, gn'.set j true, rfl, St.ok_set ok2, by rw [St.setB]; exact b2, by rw [St.setN]; exact n2, by exact St.get_sete ok2 (by omega), hHC, by simp [hgl2], fun i hi => ?_, rfl, by omega, ?_⟩
      · rw [List.getElem?_set]
        by_cases e : j = i
        · rw [if_pos e, if_pos hjn]
        · rw [if_neg e]; exact hall i (by omega)
      · simp only [KA, KP, KQ, simprocAttr, KT w, KI, hw.KF, htm, t3, t146, Int.natCast_add, A3z]
  have h20' : ¬ (i : Int) ≥ 20 := by omega
  refine W_region fun K hK => ?_
  simp only [KA, KB, KP, KQ, KM, simprocAttr, KT w, KI, hw.KF, htm, h20']
  refine hK _ _ ?_
  clear hK
  clear K
  repeat with_reducible (first | refine E0 ?_ | refine E1 ?_ | refine E2 ?_ | refine E3 ?_ | refine E4 ?_ | refine E5 (by decide) ?_ | refine E6 ?_ | refine E7 ?_ | refine E8 ?_ | refine E9 ?_ | refine Ea ?_ | refine Eb ?_ | refine Ec ?_ | refine Ed ?_)
  refine W_condF (by simp only [KA, KP, KQ, simprocAttr, KT w, KI, hw.KF, htm]) ?_
  repeat with_reducible (first | refine E0 ?_ | refine E1 ?_ | refine E2 ?_ | refine E3 ?_ | refine E4 ?_ | refine E5 (by decide) ?_ | refine E6 ?_ | refine E7 ?_ | refine E8 ?_ | refine E9 ?_ | refine Ea ?_ | refine Eb ?_ | refine Ec ?_ | refine Ed ?_)
  have hne0 : ¬ 0 = N := by omega
  cases hdd : d.drop with
  | false =>
    rw [hdd] at h77
    refine W_region fun K hK => ?_
    simp only [KA, KB, KP, KQ, KM, simprocAttr, KT w, KI, hw.KF, htm, gN1, h77]
    refine hK _ _ ?_
    clear hK
    clear K
    repeat with_reducible (first | refine E0 ?_ | refine E1 ?_ | refine E2 ?_ | refine E3 ?_ | refine E4 ?_ | refine E5 (by decide) ?_ | refine E6 ?_ | refine E7 ?_ | refine E8 ?_ | refine E9 ?_ | refine Ea ?_ | refine Eb ?_ | refine Ec ?_ | refine Ed ?_)
    refine W_condT (by simp only [KA, KP, KQ, simprocAttr, KT w, KI, hw.KF, htm]) ?_
    repeat with_reducible (first | refine E0 ?_ | refine E1 ?_ | refine E2 ?_ | refine E3 ?_ | refine E4 ?_ | refine E5 (by decide) ?_ | refine E6 ?_ | refine E7 ?_ | refine E8 ?_ | refine E9 ?_ | refine Ea ?_ | refine Eb ?_ | refine Ec ?_ | refine Ed ?_)
    by_cases hsn : small d.node 100 < 0
    · refine W_region fun K hK => ?_
      simp only [KA, KB, KP, KQ, KM, simprocAttr, KT w, KI, hw.KF, htm, gN1, h9, h7t, ncl, nct, ncd, hsmd, hsn]
      refine hK _ _ ?_
      clear hK
      clear K
      repeat with_reducible (first | refine E0 ?_ | refine E1 ?_ | refine E2 ?_ | refine E3 ?_ | refine E4 ?_ | refine E5 (by decide) ?_ | refine E6 ?_ | refine E7 ?_ | refine E8 ?_ | refine E9 ?_ | refine Ea ?_ | refine Eb ?_ | refine Ec ?_ | refine Ed ?_)
      refine W_condT (by simp only [KA, KP, KQ, simprocAttr, KT w, KI, hw.KF, htm]) ?_
      repeat with_reducible (first | refine E0 ?_ | refine E1 ?_ | refine E2 ?_ | refine E3 ?_ | refine E4 ?_ | refine E5 (by decide) ?_ | refine E6 ?_ | refine E7 ?_ | refine E8 ?_ | refine E9 ?_ | refine Ea ?_ | refine Eb ?_ | refine Ec ?_ | refine Ed ?_)
      refine W_region fun K hK => ?_
      simp only [KA, KB, KP, KQ, KM, simprocAttr, KT w, KI, hw.KF, haw]
      refine hK _ _ ?_
      clear hK
      clear K
      repeat with_reducible (first | refine E0 ?_ | refine E1 ?_ | refine E2 ?_ | refine E3 ?_ | refine E4 ?_ | refine E5 (by decide) ?_ | refine E6 ?_ | refine E7 ?_ | refine E8 ?_ | refine E9 ?_ | refine Ea ?_ | refine Eb ?_ | refine Ec ?_ | refine Ed ?_)
      refine AtEnd_of rfl ?_
      simp only [KA, KP, KQ, simprocAttr, KT w, KI, hw.KF, htm, RS_some, aresults_nil, aresults_tmp, aresults_cell, one]
      exact FZ_bool
    have h100 : nn d.node ≤ 100 := by have := small_nn (n := d.node) (l := 100) (by omega); omega
    obtain ⟨C, hC, hHC⟩ := hHS.add hdn h100 (by omega)
    have pa := pAdd hHS h100 hC
    refine W_region fun K hK => ?_
    simp only [KA, KB, KP, KQ, KM, simprocAttr, KT w, KI, hw.KF, htm, gN1, h9, h7t, ncl, nct, ncd, hsmd, hsn]
    refine hK _ _ ?_
    clear hK
    clear K
    repeat with_reducible (first | refine E0 ?_ | refine E1 ?_ | refine E2 ?_ | refine E3 ?_ | refine E4 ?_ | refine E5 (by decide) ?_ | refine E6 ?_ | refine E7 ?_ | refine E8 ?_ | refine E9 ?_ | refine Ea ?_ | refine Eb ?_ | refine Ec ?_ | refine Ed ?_)
    refine W_condF (by simp only [KA, KP, KQ, simprocAttr, KT w, KI, hw.KF, htm]) ?_
    repeat with_reducible (first | refine E0 ?_ | refine E1 ?_ | refine E2 ?_ | refine E3 ?_ | refine E4 ?_ | refine E5 (by decide) ?_ | refine E6 ?_ | refine E7 ?_ | refine E8 ?_ | refine E9 ?_ | refine Ea ?_ | refine Eb ?_ | refine Ec ?_ | refine Ed ?_)
    refine W_region fun K hK => ?_
    simp only [KA, KB, KP, KQ, KM, simprocAttr, KT w, KI, hw.KF, htm, t3, g01, gN1, h9, h7t, ncl, nct, ncd, acl, act, acd, pa, ok1, b1, A3p, splice]
    refine hK _ _ ?_
    clear hK
    clear K
    repeat with_reducible (first | refine E0 ?_ | refine E1 ?_ | refine E2 ?_ | refine E3 ?_ | refine E4 ?_ | refine E5 (by decide) ?_ | refine E6 ?_ | refine E7 ?_ | refine E8 ?_ | refine E9 ?_ | refine Ea ?_ | refine Eb ?_ | refine Ec ?_ | refine Ed ?_)
    have ok2 : (T1.push (.row (arC C) false)).ok := St.ok_push ok1
    have b2 : (T1.push (.row (arC C) false)).base = 0 := by rw [St.pushB]; exact b1
    have n2 : (T1.push (.row (arC C) false)).n = T1.n + 1 := St.pushN _ _
    have g02 : (T1.push (.row (arC C) false)).get 0 = some (.row (arC A) false) := (St.get_pushn (by omega)).trans g01
    have gN2 : (T1.push (.row (arC C) false)).get N = some (.row DR false) := (St.get_pushn (by omega)).trans gN1
    have gM2 : (T1.push (.row (arC C) false)).get T1.n = some (.row (arC C) false) := St.get_pushe
    have htv2 := htv1.push (.row (arC C) false)
    have hgv2 := hgv1.push (.row (arC C) false)
    generalize hT2 : T1.push (.row (arC C) false) = T2 at *
    have hal2 := htv2.alen (w := w) (t := 26) (e := 28) (Tk26 w) T2
    rw [Node.rows_len] at hal2
    refine W_region fun K hK => ?_
    simp only [KA, KB, KP, KQ, KM, simprocAttr, KT w, KI, hw.KF, htm, t4, hal2]
    refine hK _ _ ?_
    clear hK
    clear K
    repeat with_reducible (first | refine E0 ?_ | refine E1 ?_ | refine E2 ?_ | refine E3 ?_ | refine E4 ?_ | refine E5 (by decide) ?_ | refine E6 ?_ | refine E7 ?_ | refine E8 ?_ | refine E9 ?_ | refine Ea ?_ | refine Eb ?_ | refine Ec ?_ | refine Ed ?_)
    refine W_condF (by simp only [KA, KP, KQ, simprocAttr, KT w, KI, hw.KF, htm]) ?_
    repeat with_reducible (first | refine E0 ?_ | refine E1 ?_ | refine E2 ?_ | refine E3 ?_ | refine E4 ?_ | refine E5 (by decide) ?_ | refine E6 ?_ | refine E7 ?_ | refine E8 ?_ | refine E9 ?_ | refine Ea ?_ | refine Eb ?_ | refine Ec ?_ | refine Ed ?_)
    refine W_region fun K hK => ?_
    simp only [KA, KB, KP, KQ, KM, simprocAttr, KT w, KI, hw.KF, htm, t3, gM2, g02, acl, act, acd, ok2, b2, n2, splice]
    refine hK _ _ ?_
    clear hK
    clear K
    repeat with_reducible (first | refine E0 ?_ | refine E1 ?_ | refine E2 ?_ | refine E3 ?_ | refine E4 ?_ | refine E5 (by decide) ?_ | refine E6 ?_ | refine E7 ?_ | refine E8 ?_ | refine E9 ?_ | refine Ea ?_ | refine Eb ?_ | refine Ec ?_ | refine Ed ?_)
    have ok3 : (T2.set 0 (.row (arC C) false)).ok := St.ok_set ok2
    have b3 : (T2.set 0 (.row (arC C) false)).base = 0 := by rw [St.setB]; exact b2
    have n3 : (T2.set 0 (.row (arC C) false)).n = T2.n := St.setN _ _ _
    have g03 : (T2.set 0 (.row (arC C) false)).get 0 = some (.row (arC C) false) := St.get_sete ok2 (by omega)
    have gN3 : (T2.set 0 (.row (arC C) false)).get N = some (.row DR false) := (St.get_setn (by omega) (by omega)).trans gN2
    have htv3 := htv2.setRow (by omega) g02 (.row (arC C) false)
    have hgv3 := hgv2.setRow (by omega) g02 (.row (arC C) false)
    generalize hT3 : T2.set 0 (.row (arC C) false) = T3 at *
    obtain ⟨trv', T4, hap4, htv4, ok4, b4, n4, lf4, cl4, fr4⟩ := app_mv2 (bytes := 88) d.node.cells htv3 ok3 b3 (Node.cells_len _) (nrows_hd tr) (by have := hHS.le; simp [capOk, Node.rows_len]; omega)
    have g04 := fr4 0 _ (by omega) (htv3.sw_row g03) g03
    have hgv4 := hgv3.other htv3 (by decide) n4 fr4
    obtain ⟨gnv', T5, hap5, hgv5, ok5, b5, n5, lf5, cl5, fr5⟩ := app_mv2 (bytes := 1) [.bool false] hgv4 ok4 b4 rfl (bls_hd gn) (by have := hHS.le; have := hHS.gl; simp [capOk, bls_len]; omega)
    have g05 := fr5 0 _ (by omega) (hgv4.sw_row g04) g04
    have htv5 := htv4.other hgv4 (by decide) n5 fr5
    rw [nrows_snoc] at htv5
    rw [bls_snoc] at hgv5
    have n50 : 1 ≤ T5.n := by omega
    refine W_region fun K hK => ?_
    simp only [KA, KB, KP, KQ, KM, simprocAttr, KT w, KI, hw.KF, htm, t4, t5, gN3, h9, h7t, ncl, nct, ncd, hap4, hap5, fillR_one1]
    refine hK _ _ ?_
    clear hK
    clear K
    repeat with_reducible (first | refine E0 ?_ | refine E1 ?_ | refine E2 ?_ | refine E3 ?_ | refine E4 ?_ | refine E5 (by decide) ?_ | refine E6 ?_ | refine E7 ?_ | refine E8 ?_ | refine E9 ?_ | refine Ea ?_ | refine Eb ?_ | refine Ec ?_ | refine Ed ?_)
    refine W_cut (fun tm => tm.length = 163 ∧ tget tm 3 = .ptr 0 0 ∧ tget tm 4 = trv' ∧ tget tm 5 = gnv' ∧ tget tm 19 = .vec (drows l) ∧ tget tm 20 = .int .i64 (l.length : Nat) ∧ tget tm 21 = .int .i64 (i : Nat)) (by simp only [KA, KP, KQ, simprocAttr, KT w, KI, hw.KF, htm, t3, t19, t20, t21]) fun tm ⟨htm, t3, t4, t5, t19, t20, t21⟩ => ?_
    have hlt' : (tr ++ [d.node]).length ≤ i + 1 := by simp; omega
    obtain ⟨tr', htr'⟩ : ∃ tr', tr ++ [d.node] = tr' := ⟨_, rfl⟩
    obtain ⟨gn', hgn'⟩ : ∃ gn', gn ++ [false] = gn' := ⟨_, rfl⟩
    rw [htr'] at hHC htv5 hlt'
    rw [hgn'] at hHC hgv5
    clear hT2 hT3 fr4 fr5
    have pf := pFit hHC
    refine W_region fun K hK => ?_
    simp only [KA, KB, KP, KQ, KM, simprocAttr, KT w, KI, hw.KF, htm, t3, g05, acl, act, acd, pf]
    refine hK _ _ ?_
    clear hK
    clear K
    repeat with_reducible (first | refine E0 ?_ | refine E1 ?_ | refine E2 ?_ | refine E3 ?_ | refine E4 ?_ | refine E5 (by decide) ?_ | refine E6 ?_ | refine E7 ?_ | refine E8 ?_ | refine E9 ?_ | refine Ea ?_ | refine Eb ?_ | refine Ec ?_ | refine Ed ?_)
    refine W_condF (by simp only [KA, KP, KQ, simprocAttr, KT w, KI, hw.KF, htm]) ?_
    repeat with_reducible (first | refine E0 ?_ | refine E1 ?_ | refine E2 ?_ | refine E3 ?_ | refine E4 ?_ | refine E5 (by decide) ?_ | refine E6 ?_ | refine E7 ?_ | refine E8 ?_ | refine E9 ?_ | refine Ea ?_ | refine Eb ?_ | refine Ec ?_ | refine Ed ?_)
    have haltr := fun T' => htv5.alen (w := w) (t := 26) (e := 28) (Tk26 w) T'
    rw [Node.rows_len] at haltr
    refine W_region fun K hK => ?_
    simp only [KA, KB, KP, KQ, KM, simprocAttr, KT w, KI, hw.KF, htm, t4, haltr]
    refine hK _ _ ?_
    clear hK
    clear K
    repeat with_reducible (first | refine E0 ?_ | refine E1 ?_ | refine E2 ?_ | refine E3 ?_ | refine E4 ?_ | refine E5 (by decide) ?_ | refine E6 ?_ | refine E7 ?_ | refine E8 ?_ | refine E9 ?_ | refine Ea ?_ | refine Eb ?_ | refine Ec ?_ | refine Ed ?_)
    have hglx := hHC.gl
    have hlex := hHC.le
    refine W_loop (fun k0 fr T => ∃ (tm : List AV) (j : Nat), fr = ⟨tm, [], none, 5⟩ ∧ T.ok ∧ T.base = 0 ∧ 1 ≤ T.n ∧ T.get 0 = some (.row (arC C) false) ∧ MV 7 trv' (Node.rows tr') T ∧ MV 1 gnv' (bls gn') T ∧ k0 = tr'.length - j ∧ j ≤ tr'.length ∧
        tm.length = 163 ∧ tget tm 3 = .ptr 0 0 ∧ tget tm 4 = trv' ∧ tget tm 5 = gnv' ∧ tget tm 19 = .vec (drows l) ∧ tget tm 20 = .int .i64 (l.length : Nat) ∧ tget tm 21 = .int .i64 (i : Nat) ∧ tget tm 110 = .int .i64 (tr'.length : Nat) ∧ tget tm 111 = .int .i64 (j : Nat)) tr'.length
      ⟨_, 0, rfl, ok5, b5, n50, g05, htv5, hgv5, rfl, Nat.zero_le _, ?_⟩ ?_
    · simp only [KA, KP, KQ, simprocAttr, KT w, KI, hw.KF, htm, t3, t4, t5, t19, t20, t21, Int.ofNat_zero]
    rintro k0 fr T5 ⟨tm, j, rfl, ok5, b5, n5, g5, htv5, hgv5, rfl, hj, htm, t3, t4, t5, t19, t20, t21, t110, t111⟩
    repeat with_reducible (first | refine E0 ?_ | refine E1 ?_ | refine E2 ?_ | refine E3 ?_ | refine E4 ?_ | refine E5 (by decide) ?_ | refine E6 ?_ | refine E7 ?_ | refine E8 ?_ | refine E9 ?_ | refine Ea ?_ | refine Eb ?_ | refine Ec ?_ | refine Ed ?_)
    by_cases hjl : (j : Int) < (tr'.length : Int)
    case neg =>
      refine W_region fun K hK => ?_
      simp only [KA, KB, KP, KQ, KM, simprocAttr, KT w, KI, hw.KF, htm, t110, t111, hjl]
      refine hK _ _ ?_
      clear hK
      clear K
      repeat with_reducible (first | refine E0 ?_ | refine E1 ?_ | refine E2 ?_ | refine E3 ?_ | refine E4 ?_ | refine E5 (by decide) ?_ | refine E6 ?_ | refine E7 ?_ | refine E8 ?_ | refine E9 ?_ | refine Ea ?_ | refine Eb ?_ | refine Ec ?_ | refine Ed ?_)
      refine W_condF (by simp only [KA, KP, KQ, simprocAttr, KT w, KI, hw.KF, htm]) ?_
      repeat with_reducible (first | refine E0 ?_ | refine E1 ?_ | refine E2 ?_ | refine E3 ?_ | refine E4 ?_ | refine E5 (by decide) ?_ | refine E6 ?_ | refine E7 ?_ | refine E8 ?_ | refine E9 ?_ | refine Ea ?_ | refine Eb ?_ | refine Ec ?_ | refine Ed ?_)
      refine W_region fun K hK => ?_
      simp only [KA, KB, KP, KQ, KM, simprocAttr, KT w, KI, hw.KF, htm, t21, e1]
      refine hK _ _ ?_
      clear hK
      clear K
      refine ⟨l.length - (i + 1), by omega, _, i + 1, C, tr', gn', trv', gnv', rfl, ok5, b5, n5, g5, hHC, by omega, htv5, hgv5, rfl, by omega, ?_⟩
      simp only [KA, KP, KQ, simprocAttr, KT w, KI, hw.KF, htm, t3, t4, t5, t19, t20, Int.natCast_add, A3z]
    have hj0 : ¬ (j : Int) < 0 := by omega
    have e2 : IntKind.i64.wrap ((j : Int) + 1) = (j : Int) + 1 := i64_in _ (by omega)
    obtain ⟨n, hnj⟩ : ∃ n, tr'[j]? = some n := ⟨_, List.getElem?_eq_getElem (by omega)⟩
    obtain ⟨b, hbj⟩ : ∃ b, gn'[j]? = some b := ⟨_, List.getElem?_eq_getElem (by omega)⟩
    have hnr : (Node.rows tr')[j]? = some n.cells := by rw [Node.rows_get, hnj]; rfl
    have hbr := bls_get hbj
    obtain ⟨o1, v1, rfl, ho1, hg1⟩ : ∃ o g, trv' = .sref o g 0 (Node.rows tr').length ∧ o < T5.n ∧ T5.get o = some (.seq g 7 (Node.rows tr') 0) := by
      rcases htv5 with ⟨h, _⟩ | h
      · have : (Node.rows tr').length = 0 := by rw [h]; rfl
        rw [Node.rows_len] at this; omega
      · exact h
    obtain ⟨o2, v2, rfl, ho2, hg2⟩ : ∃ o g, gnv' = .sref o g 0 (bls gn').length ∧ o < T5.n ∧ T5.get o = some (.seq g 1 (bls gn') 0) := by
      rcases hgv5 with ⟨h, _⟩ | h
      · have : (bls gn').length = 0 := by rw [h]; rfl
        rw [bls_len] at this; omega
      · exact h
    have ho1n : ¬ o1 = T5.n := by omega
    have ho2n : ¬ o2 = T5.n := by omega
    have hlr1 : (Node.rows tr').length = tr'.length := Node.rows_len _
    have hlr2 : (bls gn').length = tr'.length := by rw [bls_len, hglx]
    have acc := Node.cells_len n
    have act' := Node.cells_take n
    have acd' := Node.cells_drop n
    have pe := pEq n (hHC.nok n (List.mem_of_getElem? hnj)).1
    have nrn := Node.nrm_all n
    refine W_region fun K hK => ?_
    simp only [KA, KB, KP, KQ, KM, simprocAttr, KT w, KI, hw.KF, htm, t110, t111, hjl]
    refine hK _ _ ?_
    clear hK
    clear K
    repeat with_reducible (first | refine E0 ?_ | refine E1 ?_ | refine E2 ?_ | refine E3 ?_ | refine E4 ?_ | refine E5 (by decide) ?_ | refine E6 ?_ | refine E7 ?_ | refine E8 ?_ | refine E9 ?_ | refine Ea ?_ | refine Eb ?_ | refine Ec ?_ | refine Ed ?_)
    refine W_condT (by simp only [KA, KP, KQ, simprocAttr, KT w, KI, hw.KF, htm]) ?_
    repeat with_reducible (first | refine E0 ?_ | refine E1 ?_ | refine E2 ?_ | refine E3 ?_ | refine E4 ?_ | refine E5 (by decide) ?_ | refine E6 ?_ | refine E7 ?_ | refine E8 ?_ | refine E9 ?_ | refine Ea ?_ | refine Eb ?_ | refine Ec ?_ | refine Ed ?_)
    refine W_region fun K hK => ?_
    simp only [KA, KB, KP, KQ, KM, simprocAttr, KT w, KI, hw.KF, htm, t111]
    refine hK _ _ ?_
    clear hK
    clear K
    repeat with_reducible (first | refine E0 ?_ | refine E1 ?_ | refine E2 ?_ | refine E3 ?_ | refine E4 ?_ | refine E5 (by decide) ?_ | refine E6 ?_ | refine E7 ?_ | refine E8 ?_ | refine E9 ?_ | refine Ea ?_ | refine Eb ?_ | refine Ec ?_ | refine Ed ?_)
    cases b with
    | true =>
      have pr := pRdNo hHC j hbj
      have zc1 := Node.cells_len nd0
      have zc2 := Node.cells_take nd0
      have zc3 := Node.cells_drop nd0
      generalize nd0.cells = ZC at *
      have ok6 : (T5.push (.row ZC false)).ok := St.ok_push ok5
      have b6 : (T5.push (.row ZC false)).base = 0 := by rw [St.pushB]; exact b5
      have g61 : (T5.push (.row ZC false)).get o1 = some (.seq v1 7 (Node.rows tr') 0) := (St.get_pushn (by omega)).trans hg1
      have g62 : (T5.push (.row ZC false)).get o2 = some (.seq v2 1 (bls gn') 0) := (St.get_pushn (by omega)).trans hg2
      have htv6 := htv5.push (.row ZC false)
      have hgv6 := hgv5.push (.row ZC false)
      have g60 := (St.get_pushn (S := T5) (o := .row ZC false) (i := 0) (by omega)).trans g5
      refine W_region fun K hK => ?_
      simp only [KA, KB, KP, KQ, KM, simprocAttr, KT w, KI, hw.KF, htm, t3, t111, g5, acl, act, acd, pr, zc1, zc2, zc3, ok5, b5, A3p, splice]
      refine hK _ _ ?_
      clear hK
      clear K
      repeat with_reducible (first | refine E0 ?_ | refine E1 ?_ | refine E2 ?_ | refine E3 ?_ | refine E4 ?_ | refine E5 (by decide) ?_ | refine E6 ?_ | refine E7 ?_ | refine E8 ?_ | refine E9 ?_ | refine Ea ?_ | refine Eb ?_ | refine Ec ?_ | refine Ed ?_)
      refine W_regionD [[], [], [0, 1], [2, 0, 1], [], [4], [3, 2, 0, 1, 5, 4], [6, 3, 2, 0, 1, 5, 4], [7, 6, 3, 2, 0, 1, 5, 4], [7, 6, 3, 2, 0, 1, 5, 4], [8, 7, 6, 3, 2, 0, 1, 5, 4, 9], [10, 8, 7, 6, 3, 2, 0, 1, 5, 4, 9], [11, 10, 8, 7, 6, 3, 2, 0, 1, 5, 4, 9], [12, 11, 10, 8, 7, 6, 3, 2, 0, 1, 5, 4, 9], [13, 12, 11, 10, 8, 7, 6, 3, 2, 0, 1, 5, 4, 9], [13, 12, 11, 10, 8, 7, 6, 3, 2, 0, 1, 5, 4, 9], [13, 12, 11, 10, 8, 7, 6, 3, 2, 0, 1, 5, 4, 9], [15, 13, 12, 11, 10, 8, 7, 6, 3, 2, 0, 1, 5, 4, 9, 16], [17, 15, 13, 12, 11, 10, 8, 7, 6, 3, 2, 0, 1, 5, 4, 9, 16], [14, 13, 12, 11, 10, 8, 7, 6, 3, 2, 0, 1, 5, 4, 9, 18, 17, 15, 16], [19, 14, 13, 12, 11, 10, 8, 7, 6, 3, 2, 0, 1, 5, 4, 9, 18, 17, 15, 16], [13, 12, 11, 10, 8, 7, 6, 3, 2, 0, 1, 5, 4, 9, 20, 19, 14, 18, 17, 15, 16], [7, 6, 3, 2, 0, 1, 5, 4, 21, 13, 12, 11, 10, 8, 9, 20, 19, 14, 18, 17, 15, 16]] (by decide +kernel) (by decide +kernel) (by decide +kernel) fun K hK => ?_
      simp only [KA, KB, KP, KQ, KM, simprocAttr, KT w, KI, hw.KF, A58, A59, A5a, A5b, A5c, A5d, A5e, A5f, A5g, A5h, KX, Foot.big, A5i, opP, rfoot, refsO, refs, wfoot, A5j, A5k, noisyOk, pairOk, Foot.isQuiet, Foot.apart, Ft.apart, Foot.none, A5l, A5m, A48, A49, A5n, A5o, A5p, A5q, Nat.reduceBEq, htm, t4, t5, hg2, ho2n, hbr, hlr2, hj0, hjl]
      refine hK _ _ ?_
      clear hK
      clear K
      repeat with_reducible (first | refine E0 ?_ | refine E1 ?_ | refine E2 ?_ | refine E3 ?_ | refine E4 ?_ | refine E5 (by decide) ?_ | refine E6 ?_ | refine E7 ?_ | refine E8 ?_ | refine E9 ?_ | refine Ea ?_ | refine Eb ?_ | refine Ec ?_ | refine Ed ?_)
      refine W_condF (by simp only [KA, KP, KQ, simprocAttr, KT w, KI, hw.KF, htm]) ?_
      repeat with_reducible (first | refine E0 ?_ | refine E1 ?_ | refine E2 ?_ | refine E3 ?_ | refine E4 ?_ | refine E5 (by decide) ?_ | refine E6 ?_ | refine E7 ?_ | refine E8 ?_ | refine E9 ?_ | refine Ea ?_ | refine Eb ?_ | refine Ec ?_ | refine Ed ?_)
      refine W_region fun K hK => ?_
      simp only [KA, KB, KP, KQ, KM, simprocAttr, KT w, KI, hw.KF, htm, t111, e2]
      refine hK _ _ ?_
      clear hK
      clear K
      refine ⟨tr'.length - (j + 1), by omega, _, j + 1, rfl, ok6, b6, by rw [St.pushN]; omega, g60, htv6, hgv6, rfl, by omega, ?_⟩
      simp only [KA, KP, KQ, simprocAttr, KT w, KI, hw.KF, htm, t3, t4, t5, t19, t20, t21, t110, Int.natCast_add, A3z]
    | false =>
      have pr := pRd hHC j n hbj hnj
      generalize n.cells = NC at *
      have ok6 : (T5.push (.row NC false)).ok := St.ok_push ok5
      have b6 : (T5.push (.row NC false)).base = 0 := by rw [St.pushB]; exact b5
      have g61 : (T5.push (.row NC false)).get o1 = some (.seq v1 7 (Node.rows tr') 0) := (St.get_pushn (by omega)).trans hg1
      have g62 : (T5.push (.row NC false)).get o2 = some (.seq v2 1 (bls gn') 0) := (St.get_pushn (by omega)).trans hg2
      have g6N : (T5.push (.row NC false)).get T5.n = some (.row NC false) := St.get_pushe
      have htv6 := htv5.push (.row NC false)
      have hgv6 := hgv5.push (.row NC false)
      have g60 := (St.get_pushn (S := T5) (o := .row NC false) (i := 0) (by omega)).trans g5
      refine W_region fun K hK => ?_
      simp only [KA, KB, KP, KQ, KM, simprocAttr, KT w, KI, hw.KF, htm, t3, t111, g5, acl, act, acd, pr, acc, act', acd', ok5, b5, A3p, splice]
      refine hK _ _ ?_
      clear hK
      clear K
      repeat with_reducible (first | refine E0 ?_ | refine E1 ?_ | refine E2 ?_ | refine E3 ?_ | refine E4 ?_ | refine E5 (by decide) ?_ | refine E6 ?_ | refine E7 ?_ | refine E8 ?_ | refine E9 ?_ | refine Ea ?_ | refine Eb ?_ | refine Ec ?_ | refine Ed ?_)
      refine W_regionD [[], [], [0, 1], [2, 0, 1], [], [4], [3, 2, 0, 1, 5, 4], [6, 3, 2, 0, 1, 5, 4], [7, 6, 3, 2, 0, 1, 5, 4], [7, 6, 3, 2, 0, 1, 5, 4], [8, 7, 6, 3, 2, 0, 1, 5, 4, 9], [10, 8, 7, 6, 3, 2, 0, 1, 5, 4, 9], [11, 10, 8, 7, 6, 3, 2, 0, 1, 5, 4, 9], [12, 11, 10, 8, 7, 6, 3, 2, 0, 1, 5, 4, 9], [13, 12, 11, 10, 8, 7, 6, 3, 2, 0, 1, 5, 4, 9], [13, 12, 11, 10, 8, 7, 6, 3, 2, 0, 1, 5, 4, 9], [13, 12, 11, 10, 8, 7, 6, 3, 2, 0, 1, 5, 4, 9], [15, 13, 12, 11, 10, 8, 7, 6, 3, 2, 0, 1, 5, 4, 9, 16], [17, 15, 13, 12, 11, 10, 8, 7, 6, 3, 2, 0, 1, 5, 4, 9, 16], [14, 13, 12, 11, 10, 8, 7, 6, 3, 2, 0, 1, 5, 4, 9, 18, 17, 15, 16], [19, 14, 13, 12, 11, 10, 8, 7, 6, 3, 2, 0, 1, 5, 4, 9, 18, 17, 15, 16], [13, 12, 11, 10, 8, 7, 6, 3, 2, 0, 1, 5, 4, 9, 20, 19, 14, 18, 17, 15, 16], [7, 6, 3, 2, 0, 1, 5, 4, 21, 13, 12, 11, 10, 8, 9, 20, 19, 14, 18, 17, 15, 16]] (by decide +kernel) (by decide +kernel) (by decide +kernel) fun K hK => ?_
      simp only [KA, KB, KP, KQ, KM, simprocAttr, KT w, KI, hw.KF, A58, A59, A5a, A5b, A5c, A5d, A5e, A5f, A5g, A5h, KX, Foot.big, A5i, opP, rfoot, refsO, refs, wfoot, A5j, A5k, noisyOk, pairOk, Foot.isQuiet, Foot.apart, Ft.apart, Foot.none, A5l, A5m, A48, A49, A5n, A5o, A5p, A5q, Nat.reduceBEq, htm, t4, t5, hg1, hg2, ho1n, ho2n, g6N, hbr, hnr, hlr1, hlr2, hj0, hjl, acc, act', acd', pe, nrn]
      refine hK _ _ ?_
      clear hK
      clear K
      repeat with_reducible (first | refine E0 ?_ | refine E1 ?_ | refine E2 ?_ | refine E3 ?_ | refine E4 ?_ | refine E5 (by decide) ?_ | refine E6 ?_ | refine E7 ?_ | refine E8 ?_ | refine E9 ?_ | refine Ea ?_ | refine Eb ?_ | refine Ec ?_ | refine Ed ?_)
      refine W_condF (by simp only [KA, KP, KQ, simprocAttr, KT w, KI, hw.KF, htm]) ?_
      repeat with_reducible (first | refine E0 ?_ | refine E1 ?_ | refine E2 ?_ | refine E3 ?_ | refine E4 ?_ | refine E5 (by decide) ?_ | refine E6 ?_ | refine E7 ?_ | refine E8 ?_ | refine E9 ?_ | refine Ea ?_ | refine Eb ?_ | refine Ec ?_ | refine Ed ?_)
      refine W_region fun K hK => ?_
      simp only [KA, KB, KP, KQ, KM, simprocAttr, KT w, KI, hw.KF, htm, t111, e2]
      refine hK _ _ ?_
      clear hK
      clear K
      refine ⟨tr'.length - (j + 1), by omega, _, j + 1, rfl, ok6, b6, by rw [St.pushN]; omega, g60, htv6, hgv6, rfl, by omega, ?_⟩
      simp only [KA, KP, KQ, simprocAttr, KT w, KI, hw.KF, htm, t3, t4, t5, t19, t20, t21, t110, Int.natCast_add, A3z]
  | true =>
    rw [hdd] at h77
    have ps := pSame hHS
    have hgl := hHS.gl
    have hrl := hHS.rl
    refine W_region fun K hK => ?_
    simp only [KA, KB, KP, KQ, KM, simprocAttr, KT w, KI, hw.KF, htm, gN1, h77]
    refine hK _ _ ?_
    clear hK
    clear K
    repeat with_reducible (first | refine E0 ?_ | refine E1 ?_ | refine E2 ?_ | refine E3 ?_ | refine E4 ?_ | refine E5 (by decide) ?_ | refine E6 ?_ | refine E7 ?_ | refine E8 ?_ | refine E9 ?_ | refine Ea ?_ | refine Eb ?_ | refine Ec ?_ | refine Ed ?_)
    refine W_condF (by simp only [KA, KP, KQ, simprocAttr, KT w, KI, hw.KF, htm]) ?_
    repeat with_reducible (first | refine E0 ?_ | refine E1 ?_ | refine E2 ?_ | refine E3 ?_ | refine E4 ?_ | refine E5 (by decide) ?_ | refine E6 ?_ | refine E7 ?_ | refine E8 ?_ | refine E9 ?_ | refine Ea ?_ | refine Eb ?_ | refine Ec ?_ | refine Ed ?_)
    by_cases hneg : d.h < 0
    · have hng : ¬ (d.h ≥ 0) := by omega
      have pd := pNo hHS d.h (by rw [rootR, if_neg (by omega)])
      refine W_region fun K hK => ?_
      simp only [KA, KB, KP, KQ, KM, simprocAttr, KT w, KI, hw.KF, htm, t3, g01, gN1, h78, acl, act, acd, pd, ok1, b1, A3p, splice]
      refine hK _ _ ?_
      clear hK
      clear K
      repeat with_reducible (first | refine E0 ?_ | refine E1 ?_ | refine E2 ?_ | refine E3 ?_ | refine E4 ?_ | refine E5 (by decide) ?_ | refine E6 ?_ | refine E7 ?_ | refine E8 ?_ | refine E9 ?_ | refine Ea ?_ | refine Eb ?_ | refine Ec ?_ | refine Ed ?_)
      have ok2 : (T1.push (.row (arC A) false)).ok := St.ok_push ok1
      have b2 : (T1.push (.row (arC A) false)).base = 0 := by rw [St.pushB]; exact b1
      have n2 : (T1.push (.row (arC A) false)).n = T1.n + 1 := St.pushN _ _
      have g02 : (T1.push (.row (arC A) false)).get 0 = some (.row (arC A) false) := (St.get_pushn (by omega)).trans g01
      have gN2 : (T1.push (.row (arC A) false)).get N = some (.row DR false) := (St.get_pushn (by omega)).trans gN1
      have gM2 : (T1.push (.row (arC A) false)).get T1.n = some (.row (arC A) false) := St.get_pushe
      have htv2 := htv1.push (.row (arC A) false)
      have hgv2 := hgv1.push (.row (arC A) false)
      have hal2 := hgv2.alen (w := w) (t := 47) (e := 4) (Tk47 w) (T1.push (.row (arC A) false))
      rw [bls_len] at hal2
      generalize hT2 : T1.push (.row (arC A) false) = T2 at *
      generalize hM : T1.n = M at *
      refine W_region fun K hK => ?_
      simp only [KA, KB, KP, KQ, KM, simprocAttr, KT w, KI, hw.KF, htm, gN2, h78, hng]
      refine hK _ _ ?_
      clear hK
      clear K
      repeat with_reducible (first | refine E0 ?_ | refine E1 ?_ | refine E2 ?_ | refine E3 ?_ | refine E4 ?_ | refine E5 (by decide) ?_ | refine E6 ?_ | refine E7 ?_ | refine E8 ?_ | refine E9 ?_ | refine Ea ?_ | refine Eb ?_ | refine Ec ?_ | refine Ed ?_)
      refine W_cut (fun tm => tm.length = 163 ∧ tget tm 3 = .ptr 0 0 ∧ tget tm 4 = trv ∧ tget tm 5 = gnv ∧ tget tm 11 = .ptr M 0 ∧ tget tm 12 = .int .i64 19 ∧ tget tm 13 = .bool false ∧ tget tm 19 = .vec (drows l) ∧ tget tm 20 = .int .i64 (l.length : Nat) ∧ tget tm 21 = .int .i64 (i : Nat)) (by simp only [KA, KP, KQ, simprocAttr, KT w, KI, hw.KF, htm, t3, t4, t5, t19, t20, t21]) fun tm ⟨htm, t3, t4, t5, t11, t12, t13, t19, t20, t21⟩ => ?_
      refine W_region fun K hK => ?_
      simp only [KA, KB, KP, KQ, KM, simprocAttr, KT w, KI, hw.KF, htm, t3, t11, t12, t13, g02, gM2, acl, act, acd, ps]
      refine hK _ _ ?_
      clear hK
      clear K
      repeat with_reducible (first | refine E0 ?_ | refine E1 ?_ | refine E2 ?_ | refine E3 ?_ | refine E4 ?_ | refine E5 (by decide) ?_ | refine E6 ?_ | refine E7 ?_ | refine E8 ?_ | refine E9 ?_ | refine Ea ?_ | refine Eb ?_ | refine Ec ?_ | refine Ed ?_)
      refine W_condF (by simp only [KA, KP, KQ, simprocAttr, KT w, KI, hw.KF, htm]) ?_
      repeat with_reducible (first | refine E0 ?_ | refine E1 ?_ | refine E2 ?_ | refine E3 ?_ | refine E4 ?_ | refine E5 (by decide) ?_ | refine E6 ?_ | refine E7 ?_ | refine E8 ?_ | refine E9 ?_ | refine Ea ?_ | refine Eb ?_ | refine Ec ?_ | refine Ed ?_)
      refine W_region fun K hK => ?_
      simp only [KA, KB, KP, KQ, KM, simprocAttr, KT w, KI, hw.KF, htm, t13]
      refine hK _ _ ?_
      clear hK
      clear K
      repeat with_reducible (first | refine E0 ?_ | refine E1 ?_ | refine E2 ?_ | refine E3 ?_ | refine E4 ?_ | refine E5 (by decide) ?_ | refine E6 ?_ | refine E7 ?_ | refine E8 ?_ | refine E9 ?_ | refine Ea ?_ | refine Eb ?_ | refine Ec ?_ | refine Ed ?_)
      refine W_condF (by simp only [KA, KP, KQ, simprocAttr, KT w, KI, hw.KF, htm]) ?_
      repeat with_reducible (first | refine E0 ?_ | refine E1 ?_ | refine E2 ?_ | refine E3 ?_ | refine E4 ?_ | refine E5 (by decide) ?_ | refine E6 ?_ | refine E7 ?_ | refine E8 ?_ | refine E9 ?_ | refine Ea ?_ | refine Eb ?_ | refine Ec ?_ | refine Ed ?_)
      refine W_region fun K hK => ?_
      simp only [KA, KB, KP, KQ, KM, simprocAttr, KT w, KI, hw.KF, htm, t3, t11, g02, gM2, acl, act, acd, ok2, b2, n2, splice]
      refine hK _ _ ?_
      clear hK
      clear K
      repeat with_reducible (first | refine E0 ?_ | refine E1 ?_ | refine E2 ?_ | refine E3 ?_ | refine E4 ?_ | refine E5 (by decide) ?_ | refine E6 ?_ | refine E7 ?_ | refine E8 ?_ | refine E9 ?_ | refine Ea ?_ | refine Eb ?_ | refine Ec ?_ | refine Ed ?_)
      have ok3 : (T2.set 0 (.row (arC A) false)).ok := St.ok_set ok2
      have b3 : (T2.set 0 (.row (arC A) false)).base = 0 := by rw [St.setB]; exact b2
      have n3 : 1 ≤ (T2.set 0 (.row (arC A) false)).n := by rw [St.setN]; omega
      have g03 : (T2.set 0 (.row (arC A) false)).get 0 = some (.row (arC A) false) := St.get_sete ok2 (by omega)
      have htv3 := htv2.setRow (by omega) g02 (.row (arC A) false)
      have hgv3 := hgv2.setRow (by omega) g02 (.row (arC A) false)
      generalize hT3 : T2.set 0 (.row (arC A) false) = T3 at *
      have hlt' : tr.length ≤ i + 1 := by omega
      have pf := pFit hHS
      refine W_region fun K hK => ?_
      simp only [KA, KB, KP, KQ, KM, simprocAttr, KT w, KI, hw.KF, htm, t3, g03, acl, act, acd, pf]
      refine hK _ _ ?_
      clear hK
      clear K
      repeat with_reducible (first | refine E0 ?_ | refine E1 ?_ | refine E2 ?_ | refine E3 ?_ | refine E4 ?_ | refine E5 (by decide) ?_ | refine E6 ?_ | refine E7 ?_ | refine E8 ?_ | refine E9 ?_ | refine Ea ?_ | refine Eb ?_ | refine Ec ?_ | refine Ed ?_)
      refine W_condF (by simp only [KA, KP, KQ, simprocAttr, KT w, KI, hw.KF, htm]) ?_
      repeat with_reducible (first | refine E0 ?_ | refine E1 ?_ | refine E2 ?_ | refine E3 ?_ | refine E4 ?_ | refine E5 (by decide) ?_ | refine E6 ?_ | refine E7 ?_ | refine E8 ?_ | refine E9 ?_ | refine Ea ?_ | refine Eb ?_ | refine Ec ?_ | refine Ed ?_)
      have haltr := fun T' => htv3.alen (w := w) (t := 26) (e := 28) (Tk26 w) T'
      rw [Node.rows_len] at haltr
      refine W_region fun K hK => ?_
      simp only [KA, KB, KP, KQ, KM, simprocAttr, KT w, KI, hw.KF, htm, t4, haltr]
      refine hK _ _ ?_
      clear hK
      clear K
      repeat with_reducible (first | refine E0 ?_ | refine E1 ?_ | refine E2 ?_ | refine E3 ?_ | refine E4 ?_ | refine E5 (by decide) ?_ | refine E6 ?_ | refine E7 ?_ | refine E8 ?_ | refine E9 ?_ | refine Ea ?_ | refine Eb ?_ | refine Ec ?_ | refine Ed ?_)
      have hglx := hHS.gl
      have hlex := hHS.le
      refine W_loop (fun k0 fr T => ∃ (tm : List AV) (j : Nat), fr = ⟨tm, [], none, 5⟩ ∧ T.ok ∧ T.base = 0 ∧ 1 ≤ T.n ∧ T.get 0 = some (.row (arC A) false) ∧ MV 7 trv (Node.rows tr) T ∧ MV 1 gnv (bls gn) T ∧ k0 = tr.length - j ∧ j ≤ tr.length ∧
          tm.length = 163 ∧ tget tm 3 = .ptr 0 0 ∧ tget tm 4 = trv ∧ tget tm 5 = gnv ∧ tget tm 19 = .vec (drows l) ∧ tget tm 20 = .int .i64 (l.length : Nat) ∧ tget tm 21 = .int .i64 (i : Nat) ∧ tget tm 110 = .int .i64 (tr.length : Nat) ∧ tget tm 111 = .int .i64 (j : Nat)) tr.length
        ⟨_, 0, rfl, ok3, b3, n3, g03, htv3, hgv3, rfl, Nat.zero_le _, ?_⟩ ?_
      · simp only [KA, KP, KQ, simprocAttr, KT w, KI, hw.KF, htm, t3, t4, t5, t19, t20, t21, Int.ofNat_zero]
      rintro k0 fr T5 ⟨tm, j, rfl, ok5, b5, n5, g5, htv5, hgv5, rfl, hj, htm, t3, t4, t5, t19, t20, t21, t110, t111⟩
      repeat with_reducible (first | refine E0 ?_ | refine E1 ?_ | refine E2 ?_ | refine E3 ?_ | refine E4 ?_ | refine E5 (by decide) ?_ | refine E6 ?_ | refine E7 ?_ | refine E8 ?_ | refine E9 ?_ | refine Ea ?_ | refine Eb ?_ | refine Ec ?_ | refine Ed ?_)
      by_cases hjl : (j : Int) < (tr.length : Int)
      case neg =>
        refine W_region fun K hK => ?_
        simp only [KA, KB, KP, KQ, KM, simprocAttr, KT w, KI, hw.KF, htm, t110, t111, hjl]
        refine hK _ _ ?_
        clear hK
        clear K
        repeat with_reducible (first | refine E0 ?_ | refine E1 ?_ | refine E2 ?_ | refine E3 ?_ | refine E4 ?_ | refine E5 (by decide) ?_ | refine E6 ?_ | refine E7 ?_ | refine E8 ?_ | refine E9 ?_ | refine Ea ?_ | refine Eb ?_ | refine Ec ?_ | refine Ed ?_)
        refine W_condF (by simp only [KA, KP, KQ, simprocAttr, KT w, KI, hw.KF, htm]) ?_
        repeat with_reducible (first | refine E0 ?_ | refine E1 ?_ | refine E2 ?_ | refine E3 ?_ | refine E4 ?_ | refine E5 (by decide) ?_ | refine E6 ?_ | refine E7 ?_ | refine E8 ?_ | refine E9 ?_ | refine Ea ?_ | refine Eb ?_ | refine Ec ?_ | refine Ed ?_)
        refine W_region fun K hK => ?_
        simp only [KA, KB, KP, KQ, KM, simprocAttr, KT w, KI, hw.KF, htm, t21, e1]
        refine hK _ _ ?_
        clear hK
        clear K
        refine ⟨l.length - (i + 1), by omega, _, i + 1, A, tr, gn, trv, gnv, rfl, ok5, b5, n5, g5, hHS, by omega, htv5, hgv5, rfl, by omega, ?_⟩
        simp only [KA, KP, KQ, simprocAttr, KT w, KI, hw.KF, htm, t3, t4, t5, t19, t20, Int.natCast_add, A3z]
      have hj0 : ¬ (j : Int) < 0 := by omega
      have e2 : IntKind.i64.wrap ((j : Int) + 1) = (j : Int) + 1 := i64_in _ (by omega)
      obtain ⟨n, hnj⟩ : ∃ n, tr[j]? = some n := ⟨_, List.getElem?_eq_getElem (by omega)⟩
      obtain ⟨b, hbj⟩ : ∃ b, gn[j]? = some b := ⟨_, List.getElem?_eq_getElem (by omega)⟩
      have hnr : (Node.rows tr)[j]? = some n.cells := by rw [Node.rows_get, hnj]; rfl
      have hbr := bls_get hbj
      obtain ⟨o1, v1, rfl, ho1, hg1⟩ : ∃ o g, trv = .sref o g 0 (Node.rows tr).length ∧ o < T5.n ∧ T5.get o = some (.seq g 7 (Node.rows tr) 0) := by
        rcases htv5 with ⟨h, _⟩ | h
        · have : (Node.rows tr).length = 0 := by rw [h]; rfl
          rw [Node.rows_len] at this; omega
        · exact h
      obtain ⟨o2, v2, rfl, ho2, hg2⟩ : ∃ o g, gnv = .sref o g 0 (bls gn).length ∧ o < T5.n ∧ T5.get o = some (.seq g 1 (bls gn) 0) := by
        rcases hgv5 with ⟨h, _⟩ | h
        · have : (bls gn).length = 0 := by rw [h]; rfl
          rw [bls_len] at this; omega
        · exact h
      have ho1n : ¬ o1 = T5.n := by omega
      have ho2n : ¬ o2 = T5.n := by omega
      have hlr1 : (Node.rows tr).length = tr.length := Node.rows_len _
      have hlr2 : (bls gn).length = tr.length := by rw [bls_len, hglx]
      have acc := Node.cells_len n
      have act' := Node.cells_take n
      have acd' := Node.cells_drop n
      have pe := pEq n (hHS.nok n (List.mem_of_getElem? hnj)).1
      have nrn := Node.nrm_all n
      refine W_region fun K hK => ?_
      simp only [KA, KB, KP, KQ, KM, simprocAttr, KT w, KI, hw.KF, htm, t110, t111, hjl]
      refine hK _ _ ?_
      clear hK
      clear K
      repeat with_reducible (first | refine E0 ?_ | refine E1 ?_ | refine E2 ?_ | refine E3 ?_ | refine E4 ?_ | refine E5 (by decide) ?_ | refine E6 ?_ | refine E7 ?_ | refine E8 ?_ | refine E9 ?_ | refine Ea ?_ | refine Eb ?_ | refine Ec ?_ | refine Ed ?_)
      refine W_condT (by simp only [KA, KP, KQ, simprocAttr, KT w, KI, hw.KF, htm]) ?_
      repeat with_reducible (first | refine E0 ?_ | refine E1 ?_ | refine E2 ?_ | refine E3 ?_ | refine E4 ?_ | refine E5 (by decide) ?_ | refine E6 ?_ | refine E7 ?_ | refine E8 ?_ | refine E9 ?_ | refine Ea ?_ | refine Eb ?_ | refine Ec ?_ | refine Ed ?_)
      refine W_region fun K hK => ?_
      simp only [KA, KB, KP, KQ, KM, simprocAttr, KT w, KI, hw.KF, htm, t111]
      refine hK _ _ ?_
      clear hK
      clear K
      repeat with_reducible (first | refine E0 ?_ | refine E1 ?_ | refine E2 ?_ | refine E3 ?_ | refine E4 ?_ | refine E5 (by decide) ?_ | refine E6 ?_ | refine E7 ?_ | refine E8 ?_ | refine E9 ?_ | refine Ea ?_ | refine Eb ?_ | refine Ec ?_ | refine Ed ?_)
      cases b with
      | true =>
        have pr := pRdNo hHS j hbj
        have zc1 := Node.cells_len nd0
        have zc2 := Node.cells_take nd0
        have zc3 := Node.cells_drop nd0
        generalize nd0.cells = ZC at *
        have ok6 : (T5.push (.row ZC false)).ok := St.ok_push ok5
        have b6 : (T5.push (.row ZC false)).base = 0 := by rw [St.pushB]; exact b5
        have g61 : (T5.push (.row ZC false)).get o1 = some (.seq v1 7 (Node.rows tr) 0) := (St.get_pushn (by omega)).trans hg1
        have g62 : (T5.push (.row ZC false)).get o2 = some (.seq v2 1 (bls gn) 0) := (St.get_pushn (by omega)).trans hg2
        have htv6 := htv5.push (.row ZC false)
        have hgv6 := hgv5.push (.row ZC false)
        have g60 := (St.get_pushn (S := T5) (o := .row ZC false) (i := 0) (by omega)).trans g5
        refine W_region fun K hK => ?_
        simp only [KA, KB, KP, KQ, KM, simprocAttr, KT w, KI, hw.KF, htm, t3, t111, g5, acl, act, acd, pr, zc1, zc2, zc3, ok5, b5, A3p, splice]
        refine hK _ _ ?_
        clear hK
        clear K
        repeat with_reducible (first | refine E0 ?_ | refine E1 ?_ | refine E2 ?_ | refine E3 ?_ | refine E4 ?_ | refine E5 (by decide) ?_ | refine E6 ?_ | refine E7 ?_ | refine E8 ?_ | refine E9 ?_ | refine Ea ?_ | refine Eb ?_ | refine Ec ?_ | refine Ed ?_)
        refine W_regionD [[], [], [0, 1], [2, 0, 1], [], [4], [3, 2, 0, 1, 5, 4], [6, 3, 2, 0, 1, 5, 4], [7, 6, 3, 2, 0, 1, 5, 4], [7, 6, 3, 2, 0, 1, 5, 4], [8, 7, 6, 3, 2, 0, 1, 5, 4, 9], [10, 8, 7, 6, 3, 2, 0, 1, 5, 4, 9], [11, 10, 8, 7, 6, 3, 2, 0, 1, 5, 4, 9], [12, 11, 10, 8, 7, 6, 3, 2, 0, 1, 5, 4, 9], [13, 12, 11, 10, 8, 7, 6, 3, 2, 0, 1, 5, 4, 9], [13, 12, 11, 10, 8, 7, 6, 3, 2, 0, 1, 5, 4, 9], [13, 12, 11, 10, 8, 7, 6, 3, 2, 0, 1, 5, 4, 9], [15, 13, 12, 11, 10, 8, 7, 6, 3, 2, 0, 1, 5, 4, 9, 16], [17, 15, 13, 12, 11, 10, 8, 7, 6, 3, 2, 0, 1, 5, 4, 9, 16], [14, 13, 12, 11, 10, 8, 7, 6, 3, 2, 0, 1, 5, 4, 9, 18, 17, 15, 16], [19, 14, 13, 12, 11, 10, 8, 7, 6, 3, 2, 0, 1, 5, 4, 9, 18, 17, 15, 16], [13, 12, 11, 10, 8, 7, 6, 3, 2, 0, 1, 5, 4, 9, 20, 19, 14, 18, 17, 15, 16], [7, 6, 3, 2, 0, 1, 5, 4, 21, 13, 12, 11, 10, 8, 9, 20, 19, 14, 18, 17, 15, 16]] (by decide +kernel) (by decide +kernel) (by decide +kernel) fun K hK => ?_
        simp only [KA, KB, KP, KQ, KM, simprocAttr, KT w, KI, hw.KF, A58, A59, A5a, A5b, A5c, A5d, A5e, A5f, A5g, A5h, KX, Foot.big, A5i, opP, rfoot, refsO, refs, wfoot, A5j, A5k, noisyOk, pairOk, Foot.isQuiet, Foot.apart, Ft.apart, Foot.none, A5l, A5m, A48, A49, A5n, A5o, A5p, A5q, Nat.reduceBEq, htm, t4, t5, hg2, ho2n, hbr, hlr2, hj0, hjl]
        refine hK _ _ ?_
        clear hK
        clear K
        repeat with_reducible (first | refine E0 ?_ | refine E1 ?_ | refine E2 ?_ | refine E3 ?_ | refine E4 ?_ | refine E5 (by decide) ?_ | refine E6 ?_ | refine E7 ?_ | refine E8 ?_ | refine E9 ?_ | refine Ea ?_ | refine Eb ?_ | refine Ec ?_ | refine Ed ?_)
        refine W_condF (by simp only [KA, KP, KQ, simprocAttr, KT w, KI, hw.KF, htm]) ?_
        repeat with_reducible (first | refine E0 ?_ | refine E1 ?_ | refine E2 ?_ | refine E3 ?_ | refine E4 ?_ | refine E5 (by decide) ?_ | refine E6 ?_ | refine E7 ?_ | refine E8 ?_ | refine E9 ?_ | refine Ea ?_ | refine Eb ?_ | refine Ec ?_ | refine Ed ?_)
        refine W_region fun K hK => ?_
        simp only [KA, KB, KP, KQ, KM, simprocAttr, KT w, KI, hw.KF, htm, t111, e2]
        refine hK _ _ ?_
        clear hK
        clear K
        refine ⟨tr.length - (j + 1), by omega, _, j + 1, rfl, ok6, b6, by rw [St.pushN]; omega, g60, htv6, hgv6, rfl, by omega, ?_⟩
        simp only [KA, KP, KQ, simprocAttr, KT w, KI, hw.KF, htm, t3, t4, t5, t19, t20, t21, t110, Int.natCast_add, A3z]
      | false =>
        have pr := pRd hHS j n hbj hnj
        generalize n.cells = NC at *
        have ok6 : (T5.push (.row NC false)).ok := St.ok_push ok5
        have b6 : (T5.push (.row NC false)).base = 0 := by rw [St.pushB]; exact b5
        have g61 : (T5.push (.row NC false)).get o1 = some (.seq v1 7 (Node.rows tr) 0) := (St.get_pushn (by omega)).trans hg1
        have g62 : (T5.push (.row NC false)).get o2 = some (.seq v2 1 (bls gn) 0) := (St.get_pushn (by omega)).trans hg2
        have g6N : (T5.push (.row NC false)).get T5.n = some (.row NC false) := St.get_pushe
        have htv6 := htv5.push (.row NC false)
        have hgv6 := hgv5.push (.row NC false)
        have g60 := (St.get_pushn (S := T5) (o := .row NC false) (i := 0) (by omega)).trans g5
        refine W_region fun K hK => ?_
        simp only [KA, KB, KP, KQ, KM, simprocAttr, KT w, KI, hw.KF, htm, t3, t111, g5, acl, act, acd, pr, acc, act', acd', ok5, b5, A3p, splice]
        refine hK _ _ ?_
        clear hK
        clear K
        repeat with_reducible (first | refine E0 ?_ | refine E1 ?_ | refine E2 ?_ | refine E3 ?_ | refine E4 ?_ | refine E5 (by decide) ?_ | refine E6 ?_ | refine E7 ?_ | refine E8 ?_ | refine E9 ?_ | refine Ea ?_ | refine Eb ?_ | refine Ec ?_ | refine Ed ?_)
        refine W_regionD [[], [], [0, 1], [2, 0, 1], [], [4], [3, 2, 0, 1, 5, 4], [6, 3, 2, 0, 1, 5, 4], [7, 6, 3, 2, 0, 1, 5, 4], [7, 6, 3, 2, 0, 1, 5, 4], [8, 7, 6, 3, 2, 0, 1, 5, 4, 9], [10, 8, 7, 6, 3, 2, 0, 1, 5, 4, 9], [11, 10, 8, 7, 6, 3, 2, 0, 1, 5, 4, 9], [12, 11, 10, 8, 7, 6, 3, 2, 0, 1, 5, 4, 9], [13, 12, 11, 10, 8, 7, 6, 3, 2, 0, 1, 5, 4, 9], [13, 12, 11, 10, 8, 7, 6, 3, 2, 0, 1, 5, 4, 9], [13, 12, 11, 10, 8, 7, 6, 3, 2, 0, 1, 5, 4, 9], [15, 13, 12, 11, 10, 8, 7, 6, 3, 2, 0, 1, 5, 4, 9, 16], [17, 15, 13, 12, 11, 10, 8, 7, 6, 3, 2, 0, 1, 5, 4, 9, 16], [14, 13, 12, 11, 10, 8, 7, 6, 3, 2, 0, 1, 5, 4, 9, 18, 17, 15, 16], [19, 14, 13, 12, 11, 10, 8, 7, 6, 3, 2, 0, 1, 5, 4, 9, 18, 17, 15, 16], [13, 12, 11, 10, 8, 7, 6, 3, 2, 0, 1, 5, 4, 9, 20, 19, 14, 18, 17, 15, 16], [7, 6, 3, 2, 0, 1, 5, 4, 21, 13, 12, 11, 10, 8, 9, 20, 19, 14, 18, 17, 15, 16]] (by decide +kernel) (by decide +kernel) (by decide +kernel) fun K hK => ?_
        simp only [KA, KB, KP, KQ, KM, simprocAttr, KT w, KI, hw.KF, A58, A59, A5a, A5b, A5c, A5d, A5e, A5f, A5g, A5h, KX, Foot.big, A5i, opP, rfoot, refsO, refs, wfoot, A5j, A5k, noisyOk, pairOk, Foot.isQuiet, Foot.apart, Ft.apart, Foot.none, A5l, A5m, A48, A49, A5n, A5o, A5p, A5q, Nat.reduceBEq, htm, t4, t5, hg1, hg2, ho1n, ho2n, g6N, hbr, hnr, hlr1, hlr2, hj0, hjl, acc, act', acd', pe, nrn]
        refine hK _ _ ?_
        clear hK
        clear K
        repeat with_reducible (first | refine E0 ?_ | refine E1 ?_ | refine E2 ?_ | refine E3 ?_ | refine E4 ?_ | refine E5 (by decide) ?_ | refine E6 ?_ | refine E7 ?_ | refine E8 ?_ | refine E9 ?_ | refine Ea ?_ | refine Eb ?_ | refine Ec ?_ | refine Ed ?_)
        refine W_condF (by simp only [KA, KP, KQ, simprocAttr, KT w, KI, hw.KF, htm]) ?_
        repeat with_reducible (first | refine E0 ?_ | refine E1 ?_ | refine E2 ?_ | refine E3 ?_ | refine E4 ?_ | refine E5 (by decide) ?_ | refine E6 ?_ | refine E7 ?_ | refine E8 ?_ | refine E9 ?_ | refine Ea ?_ | refine Eb ?_ | refine Ec ?_ | refine Ed ?_)
        refine W_region fun K hK => ?_
        simp only [KA, KB, KP, KQ, KM, simprocAttr, KT w, KI, hw.KF, htm, t111, e2]
        refine hK _ _ ?_
        clear hK
        clear K
        refine ⟨tr.length - (j + 1), by omega, _, j + 1, rfl, ok6, b6, by rw [St.pushN]; omega, g60, htv6, hgv6, rfl, by omega, ?_⟩
        simp only [KA, KP, KQ, simprocAttr, KT w, KI, hw.KF, htm, t3, t4, t5, t19, t20, t21, t110, Int.natCast_add, A3z]
    have hge : d.h ≥ 0 := by omega
    by_cases hbig : ¬ (d.h < (gn.length : Int))
    · have hnone : A.roots[d.h.toNat]? = none := List.getElem?_eq_none (by omega)
      have pd := pNo hHS d.h (by rw [rootR, if_pos (by omega), hnone])
      refine W_region fun K hK => ?_
      simp only [KA, KB, KP, KQ, KM, simprocAttr, KT w, KI, hw.KF, htm, t3, g01, gN1, h78, acl, act, acd, pd, ok1, b1, A3p, splice]
      refine hK _ _ ?_
      clear hK
      clear K
      repeat with_reducible (first | refine E0 ?_ | refine E1 ?_ | refine E2 ?_ | refine E3 ?_ | refine E4 ?_ | refine E5 (by decide) ?_ | refine E6 ?_ | refine E7 ?_ | refine E8 ?_ | refine E9 ?_ | refine Ea ?_ | refine Eb ?_ | refine Ec ?_ | refine Ed ?_)
      have ok2 : (T1.push (.row (arC A) false)).ok := St.ok_push ok1
      have b2 : (T1.push (.row (arC A) false)).base = 0 := by rw [St.pushB]; exact b1
      have n2 : (T1.push (.row (arC A) false)).n = T1.n + 1 := St.pushN _ _
      have g02 : (T1.push (.row (arC A) false)).get 0 = some (.row (arC A) false) := (St.get_pushn (by omega)).trans g01
      have gN2 : (T1.push (.row (arC A) false)).get N = some (.row DR false) := (St.get_pushn (by omega)).trans gN1
      have gM2 : (T1.push (.row (arC A) false)).get T1.n = some (.row (arC A) false) := St.get_pushe
      have htv2 := htv1.push (.row (arC A) false)
      have hgv2 := hgv1.push (.row (arC A) false)
      have hal2 := hgv2.alen (w := w) (t := 47) (e := 4) (Tk47 w) (T1.push (.row (arC A) false))
      rw [bls_len] at hal2
      generalize hT2 : T1.push (.row (arC A) false) = T2 at *
      generalize hM : T1.n = M at *
      refine W_region fun K hK => ?_
      simp only [KA, KB, KP, KQ, KM, simprocAttr, KT w, KI, hw.KF, htm, t5, gN2, h78, hge, hal2, hbig]
      refine hK _ _ ?_
      clear hK
      clear K
      repeat with_reducible (first | refine E0 ?_ | refine E1 ?_ | refine E2 ?_ | refine E3 ?_ | refine E4 ?_ | refine E5 (by decide) ?_ | refine E6 ?_ | refine E7 ?_ | refine E8 ?_ | refine E9 ?_ | refine Ea ?_ | refine Eb ?_ | refine Ec ?_ | refine Ed ?_)
      refine W_cut (fun tm => tm.length = 163 ∧ tget tm 3 = .ptr 0 0 ∧ tget tm 4 = trv ∧ tget tm 5 = gnv ∧ tget tm 11 = .ptr M 0 ∧ tget tm 12 = .int .i64 19 ∧ tget tm 13 = .bool false ∧ tget tm 19 = .vec (drows l) ∧ tget tm 20 = .int .i64 (l.length : Nat) ∧ tget tm 21 = .int .i64 (i : Nat)) (by simp only [KA, KP, KQ, simprocAttr, KT w, KI, hw.KF, htm, t3, t4, t5, t19, t20, t21]) fun tm ⟨htm, t3, t4, t5, t11, t12, t13, t19, t20, t21⟩ => ?_
      refine W_region fun K hK => ?_
      simp only [KA, KB, KP, KQ, KM, simprocAttr, KT w, KI, hw.KF, htm, t3, t11, t12, t13, g02, gM2, acl, act, acd, ps]
      refine hK _ _ ?_
      clear hK
      clear K
      repeat with_reducible (first | refine E0 ?_ | refine E1 ?_ | refine E2 ?_ | refine E3 ?_ | refine E4 ?_ | refine E5 (by decide) ?_ | refine E6 ?_ | refine E7 ?_ | refine E8 ?_ | refine E9 ?_ | refine Ea ?_ | refine Eb ?_ | refine Ec ?_ | refine Ed ?_)
      refine W_condF (by simp only [KA, KP, KQ, simprocAttr, KT w, KI, hw.KF, htm]) ?_
      repeat with_reducible (first | refine E0 ?_ | refine E1 ?_ | refine E2 ?_ | refine E3 ?_ | refine E4 ?_ | refine E5 (by decide) ?_ | refine E6 ?_ | refine E7 ?_ | refine E8 ?_ | refine E9 ?_ | refine Ea ?_ | refine Eb ?_ | refine Ec ?_ | refine Ed ?_)
      refine W_region fun K hK => ?_
      simp only [KA, KB, KP, KQ, KM, simprocAttr, KT w, KI, hw.KF, htm, t13]
      refine hK _ _ ?_
      clear hK
      clear K
      repeat with_reducible (first | refine E0 ?_ | refine E1 ?_ | refine E2 ?_ | refine E3 ?_ | refine E4 ?_ | refine E5 (by decide) ?_ | refine E6 ?_ | refine E7 ?_ | refine E8 ?_ | refine E9 ?_ | refine Ea ?_ | refine Eb ?_ | refine Ec ?_ | refine Ed ?_)
      refine W_condF (by simp only [KA, KP, KQ, simprocAttr, KT w, KI, hw.KF, htm]) ?_
      repeat with_reducible (first | refine E0 ?_ | refine E1 ?_ | refine E2 ?_ | refine E3 ?_ | refine E4 ?_ | refine E5 (by decide) ?_ | refine E6 ?_ | refine E7 ?_ | refine E8 ?_ | refine E9 ?_ | refine Ea ?_ | refine Eb ?_ | refine Ec ?_ | refine Ed ?_)
      refine W_region fun K hK => ?_
      simp only [KA, KB, KP, KQ, KM, simprocAttr, KT w, KI, hw.KF, htm, t3, t11, g02, gM2, acl, act, acd, ok2, b2, n2, splice]
      refine hK _ _ ?_
      clear hK
      clear K
      repeat with_reducible (first | refine E0 ?_ | refine E1 ?_ | refine E2 ?_ | refine E3 ?_ | refine E4 ?_ | refine E5 (by decide) ?_ | refine E6 ?_ | refine E7 ?_ | refine E8 ?_ | refine E9 ?_ | refine Ea ?_ | refine Eb ?_ | refine Ec ?_ | refine Ed ?_)
      have ok3 : (T2.set 0 (.row (arC A) false)).ok := St.ok_set ok2
      have b3 : (T2.set 0 (.row (arC A) false)).base = 0 := by rw [St.setB]; exact b2
      have n3 : 1 ≤ (T2.set 0 (.row (arC A) false)).n := by rw [St.setN]; omega
      have g03 : (T2.set 0 (.row (arC A) false)).get 0 = some (.row (arC A) false) := St.get_sete ok2 (by omega)
      have htv3 := htv2.setRow (by omega) g02 (.row (arC A) false)
      have hgv3 := hgv2.setRow (by omega) g02 (.row (arC A) false)
      generalize hT3 : T2.set 0 (.row (arC A) false) = T3 at *
      have hlt' : tr.length ≤ i + 1 := by omega
      have pf := pFit hHS
      refine W_region fun K hK => ?_
      simp only [KA, KB, KP, KQ, KM, simprocAttr, KT w, KI, hw.KF, htm, t3, g03, acl, act, acd, pf]
      refine hK _ _ ?_
      clear hK
      clear K
      repeat with_reducible (first | refine E0 ?_ | refine E1 ?_ | refine E2 ?_ | refine E3 ?_ | refine E4 ?_ | refine E5 (by decide) ?_ | refine E6 ?_ | refine E7 ?_ | refine E8 ?_ | refine E9 ?_ | refine Ea ?_ | refine Eb ?_ | refine Ec ?_ | refine Ed ?_)
      refine W_condF (by simp only [KA, KP, KQ, simprocAttr, KT w, KI, hw.KF, htm]) ?_
      repeat with_reducible (first | refine E0 ?_ | refine E1 ?_ | refine E2 ?_ | refine E3 ?_ | refine E4 ?_ | refine E5 (by decide) ?_ | refine E6 ?_ | refine E7 ?_ | refine E8 ?_ | refine E9 ?_ | refine Ea ?_ | refine Eb ?_ | refine Ec ?_ | refine Ed ?_)
      have haltr := fun T' => htv3.alen (w := w) (t := 26) (e := 28) (Tk26 w) T'
      rw [Node.rows_len] at haltr
      refine W_region fun K hK => ?_
      simp only [KA, KB, KP, KQ, KM, simprocAttr, KT w, KI, hw.KF, htm, t4, haltr]
      refine hK _ _ ?_
      clear hK
      clear K
      repeat with_reducible (first | refine E0 ?_ | refine E1 ?_ | refine E2 ?_ | refine E3 ?_ | refine E4 ?_ | refine E5 (by decide) ?_ | refine E6 ?_ | refine E7 ?_ | refine E8 ?_ | refine E9 ?_ | refine Ea ?_ | refine Eb ?_ | refine Ec ?_ | refine Ed ?_)
      have hglx := hHS.gl
      have hlex := hHS.le
      refine W_loop (fun k0 fr T => ∃ (tm : List AV) (j : Nat), fr = ⟨tm, [], none, 5⟩ ∧ T.ok ∧ T.base = 0 ∧ 1 ≤ T.n ∧ T.get 0 = some (.row (arC A) false) ∧ MV 7 trv (Node.rows tr) T ∧ MV 1 gnv (bls gn) T ∧ k0 = tr.length - j ∧ j ≤ tr.length ∧
          tm.length = 163 ∧ tget tm 3 = .ptr 0 0 ∧ tget tm 4 = trv ∧ tget tm 5 = gnv ∧ tget tm 19 = .vec (drows l) ∧ tget tm 20 = .int .i64 (l.length : Nat) ∧ tget tm 21 = .int .i64 (i : Nat) ∧ tget tm 110 = .int .i64 (tr.length : Nat) ∧ tget tm 111 = .int .i64 (j : Nat)) tr.length
        ⟨_, 0, rfl, ok3, b3, n3, g03, htv3, hgv3, rfl, Nat.zero_le _, ?_⟩ ?_
      · simp only [KA, KP, KQ, simprocAttr, KT w, KI, hw.KF, htm, t3, t4, t5, t19, t20, t21, Int.ofNat_zero]
      rintro k0 fr T5 ⟨tm, j, rfl, ok5, b5, n5, g5, htv5, hgv5, rfl, hj, htm, t3, t4, t5, t19, t20, t21, t110, t111⟩
      repeat with_reducible (first | refine E0 ?_ | refine E1 ?_ | refine E2 ?_ | refine E3 ?_ | refine E4 ?_ | refine E5 (by decide) ?_ | refine E6 ?_ | refine E7 ?_ | refine E8 ?_ | refine E9 ?_ | refine Ea ?_ | refine Eb ?_ | refine Ec ?_ | refine Ed ?_)
      by_cases hjl : (j : Int) < (tr.length : Int)
      case neg =>
        refine W_region fun K hK => ?_
        simp only [KA, KB, KP, KQ, KM, simprocAttr, KT w, KI, hw.KF, htm, t110, t111, hjl]
        refine hK _ _ ?_
        clear hK
        clear K
        repeat with_reducible (first | refine E0 ?_ | refine E1 ?_ | refine E2 ?_ | refine E3 ?_ | refine E4 ?_ | refine E5 (by decide) ?_ | refine E6 ?_ | refine E7 ?_ | refine E8 ?_ | refine E9 ?_ | refine Ea ?_ | refine Eb ?_ | refine Ec ?_ | refine Ed ?_)
        refine W_condF (by simp only [KA, KP, KQ, simprocAttr, KT w, KI, hw.KF, htm]) ?_
        repeat with_reducible (first | refine E0 ?_ | refine E1 ?_ | refine E2 ?_ | refine E3 ?_ | refine E4 ?_ | refine E5 (by decide) ?_ | refine E6 ?_ | refine E7 ?_ | refine E8 ?_ | refine E9 ?_ | refine Ea ?_ | refine Eb ?_ | refine Ec ?_ | refine Ed ?_)
        refine W_region fun K hK => ?_
        simp only [KA, KB, KP, KQ, KM, simprocAttr, KT w, KI, hw.KF, htm, t21, e1]
        refine hK _ _ ?_
        clear hK
        clear K
        refine ⟨l.length - (i + 1), by omega, _, i + 1, A, tr, gn, trv, gnv, rfl, ok5, b5, n5, g5, hHS, by omega, htv5, hgv5, rfl, by omega, ?_⟩
        simp only [KA, KP, KQ, simprocAttr, KT w, KI, hw.KF, htm, t3, t4, t5, t19, t20, Int.natCast_add, A3z]
      have hj0 : ¬ (j : Int) < 0 := by omega
      have e2 : IntKind.i64.wrap ((j : Int) + 1) = (j : Int) + 1 := i64_in _ (by omega)
      obtain ⟨n, hnj⟩ : ∃ n, tr[j]? = some n := ⟨_, List.getElem?_eq_getElem (by omega)⟩
      obtain ⟨b, hbj⟩ : ∃ b, gn[j]? = some b := ⟨_, List.getElem?_eq_getElem (by omega)⟩
      have hnr : (Node.rows tr)[j]? = some n.cells := by rw [Node.rows_get, hnj]; rfl
      have hbr := bls_get hbj
      obtain ⟨o1, v1, rfl, ho1, hg1⟩ : ∃ o g, trv = .sref o g 0 (Node.rows tr).length ∧ o < T5.n ∧ T5.get o = some (.seq g 7 (Node.rows tr) 0) := by
        rcases htv5 with ⟨h, _⟩ | h
        · have : (Node.rows tr).length = 0 := by rw [h]; rfl
          rw [Node.rows_len] at this; omega
        · exact h
      obtain ⟨o2, v2, rfl, ho2, hg2⟩ : ∃ o g, gnv = .sref o g 0 (bls gn).length ∧ o < T5.n ∧ T5.get o = some (.seq g 1 (bls gn) 0) := by
        rcases hgv5 with ⟨h, _⟩ | h
        · have : (bls gn).length = 0 := by rw [h]; rfl
          rw [bls_len] at this; omega
        · exact h
      have ho1n : ¬ o1 = T5.n := by omega
      have ho2n : ¬ o2 = T5.n := by omega
      have hlr1 : (Node.rows tr).length = tr.length := Node.rows_len _
      have hlr2 : (bls gn).length = tr.length := by rw [bls_len, hglx]
      have acc := Node.cells_len n
      have act' := Node.cells_take n
      have acd' := Node.cells_drop n
      have pe := pEq n (hHS.nok n (List.mem_of_getElem? hnj)).1
      have nrn := Node.nrm_all n
      refine W_region fun K hK => ?_
      simp only [KA, KB, KP, KQ, KM, simprocAttr, KT w, KI, hw.KF, htm, t110, t111, hjl]
      refine hK _ _ ?_
      clear hK
      clear K
      repeat with_reducible (first | refine E0 ?_ | refine E1 ?_ | refine E2 ?_ | refine E3 ?_ | refine E4 ?_ | refine E5 (by decide) ?_ | refine E6 ?_ | refine E7 ?_ | refine E8 ?_ | refine E9 ?_ | refine Ea ?_ | refine Eb ?_ | refine Ec ?_ | refine Ed ?_)
      refine W_condT (by simp only [KA, KP, KQ, simprocAttr, KT w, KI, hw.KF, htm]) ?_
      repeat with_reducible (first | refine E0 ?_ | refine E1 ?_ | refine E2 ?_ | refine E3 ?_ | refine E4 ?_ | refine E5 (by decide) ?_ | refine E6 ?_ | refine E7 ?_ | refine E8 ?_ | refine E9 ?_ | refine Ea ?_ | refine Eb ?_ | refine Ec ?_ | refine Ed ?_)
      refine W_region fun K hK => ?_
      simp only [KA, KB, KP, KQ, KM, simprocAttr, KT w, KI, hw.KF, htm, t111]
      refine hK _ _ ?_
      clear hK
      clear K
      repeat with_reducible (first | refine E0 ?_ | refine E1 ?_ | refine E2 ?_ | refine E3 ?_ | refine E4 ?_ | refine E5 (by decide) ?_ | refine E6 ?_ | refine E7 ?_ | refine E8 ?_ | refine E9 ?_ | refine Ea ?_ | refine Eb ?_ | refine Ec ?_ | refine Ed ?_)
      cases b with
      | true =>
        have pr := pRdNo hHS j hbj
        have zc1 := Node.cells_len nd0
        have zc2 := Node.cells_take nd0
        have zc3 := Node.cells_drop nd0
        generalize nd0.cells = ZC at *
        have ok6 : (T5.push (.row ZC false)).ok := St.ok_push ok5
        have b6 : (T5.push (.row ZC false)).base = 0 := by rw [St.pushB]; exact b5
        have g61 : (T5.push (.row ZC false)).get o1 = some (.seq v1 7 (Node.rows tr) 0) := (St.get_pushn (by omega)).trans hg1
        have g62 : (T5.push (.row ZC false)).get o2 = some (.seq v2 1 (bls gn) 0) := (St.get_pushn (by omega)).trans hg2
        have htv6 := htv5.push (.row ZC false)
        have hgv6 := hgv5.push (.row ZC false)
        have g60 := (St.get_pushn (S := T5) (o := .row ZC false) (i := 0) (by omega)).trans g5
        refine W_region fun K hK => ?_
        simp only [KA, KB, KP, KQ, KM, simprocAttr, KT w, KI, hw.KF, htm, t3, t111, g5, acl, act, acd, pr, zc1, zc2, zc3, ok5, b5, A3p, splice]
        refine hK _ _ ?_
        clear hK
        clear K
        repeat with_reducible (first | refine E0 ?_ | refine E1 ?_ | refine E2 ?_ | refine E3 ?_ | refine E4 ?_ | refine E5 (by decide) ?_ | refine E6 ?_ | refine E7 ?_ | refine E8 ?_ | refine E9 ?_ | refine Ea ?_ | refine Eb ?_ | refine Ec ?_ | refine Ed ?_)
        refine W_regionD [[], [], [0, 1], [2, 0, 1], [], [4], [3, 2, 0, 1, 5, 4], [6, 3, 2, 0, 1, 5, 4], [7, 6, 3, 2, 0, 1, 5, 4], [7, 6, 3, 2, 0, 1, 5, 4], [8, 7, 6, 3, 2, 0, 1, 5, 4, 9], [10, 8, 7, 6, 3, 2, 0, 1, 5, 4, 9], [11, 10, 8, 7, 6, 3, 2, 0, 1, 5, 4, 9], [12, 11, 10, 8, 7, 6, 3, 2, 0, 1, 5, 4, 9], [13, 12, 11, 10, 8, 7, 6, 3, 2, 0, 1, 5, 4, 9], [13, 12, 11, 10, 8, 7, 6, 3, 2, 0, 1, 5, 4, 9], [13, 12, 11, 10, 8, 7, 6, 3, 2, 0, 1, 5, 4, 9], [15, 13, 12, 11, 10, 8, 7, 6, 3, 2, 0, 1, 5, 4, 9, 16], [17, 15, 13, 12, 11, 10, 8, 7, 6, 3, 2, 0, 1, 5, 4, 9, 16], [14, 13, 12, 11, 10, 8, 7, 6, 3, 2, 0, 1, 5, 4, 9, 18, 17, 15, 16], [19, 14, 13, 12, 11, 10, 8, 7, 6, 3, 2, 0, 1, 5, 4, 9, 18, 17, 15, 16], [13, 12, 11, 10, 8, 7, 6, 3, 2, 0, 1, 5, 4, 9, 20, 19, 14, 18, 17, 15, 16], [7, 6, 3, 2, 0, 1, 5, 4, 21, 13, 12, 11, 10, 8, 9, 20, 19, 14, 18, 17, 15, 16]] (by decide +kernel) (by decide +kernel) (by decide +kernel) fun K hK => ?_
        simp only [KA, KB, KP, KQ, KM, simprocAttr, KT w, KI, hw.KF, A58, A59, A5a, A5b, A5c, A5d, A5e, A5f, A5g, A5h, KX, Foot.big, A5i, opP, rfoot, refsO, refs, wfoot, A5j, A5k, noisyOk, pairOk, Foot.isQuiet, Foot.apart, Ft.apart, Foot.none, A5l, A5m, A48, A49, A5n, A5o, A5p, A5q, Nat.reduceBEq, htm, t4, t5, hg2, ho2n, hbr, hlr2, hj0, hjl]
        refine hK _ _ ?_
        clear hK
        clear K
        repeat with_reducible (first | refine E0 ?_ | refine E1 ?_ | refine E2 ?_ | refine E3 ?_ | refine E4 ?_ | refine E5 (by decide) ?_ | refine E6 ?_ | refine E7 ?_ | refine E8 ?_ | refine E9 ?_ | refine Ea ?_ | refine Eb ?_ | refine Ec ?_ | refine Ed ?_)
        refine W_condF (by simp only [KA, KP, KQ, simprocAttr, KT w, KI, hw.KF, htm]) ?_
        repeat with_reducible (first | refine E0 ?_ | refine E1 ?_ | refine E2 ?_ | refine E3 ?_ | refine E4 ?_ | refine E5 (by decide) ?_ | refine E6 ?_ | refine E7 ?_ | refine E8 ?_ | refine E9 ?_ | refine Ea ?_ | refine Eb ?_ | refine Ec ?_ | refine Ed ?_)
        refine W_region fun K hK => ?_
        simp only [KA, KB, KP, KQ, KM, simprocAttr, KT w, KI, hw.KF, htm, t111, e2]
        refine hK _ _ ?_
        clear hK
        clear K
        refine ⟨tr.length - (j + 1), by omega, _, j + 1, rfl, ok6, b6, by rw [St.pushN]; omega, g60, htv6, hgv6, rfl, by omega, ?_⟩
        simp only [KA, KP, KQ, simprocAttr, KT w, KI, hw.KF, htm, t3, t4, t5, t19, t20, t21, t110, Int.natCast_add, A3z]
      | false =>
        have pr := pRd hHS j n hbj hnj
        generalize n.cells = NC at *
        have ok6 : (T5.push (.row NC false)).ok := St.ok_push ok5
        have b6 : (T5.push (.row NC false)).base = 0 := by rw [St.pushB]; exact b5
        have g61 : (T5.push (.row NC false)).get o1 = some (.seq v1 7 (Node.rows tr) 0) := (St.get_pushn (by omega)).trans hg1
        have g62 : (T5.push (.row NC false)).get o2 = some (.seq v2 1 (bls gn) 0) := (St.get_pushn (by omega)).trans hg2
        have g6N : (T5.push (.row NC false)).get T5.n = some (.row NC false) := St.get_pushe
        have htv6 := htv5.push (.row NC false)
        have hgv6 := hgv5.push (.row NC false)
        have g60 := (St.get_pushn (S := T5) (o := .row NC false) (i := 0) (by omega)).trans g5
        refine W_region fun K hK => ?_
        simp only [KA, KB, KP, KQ, KM, simprocAttr, KT w, KI, hw.KF, htm, t3, t111, g5, acl, act, acd, pr, acc, act', acd', ok5, b5, A3p, splice]
        refine hK _ _ ?_
        clear hK
        clear K
        repeat with_reducible (first | refine E0 ?_ | refine E1 ?_ | refine E2 ?_ | refine E3 ?_ | refine E4 ?_ | refine E5 (by decide) ?_ | refine E6 ?_ | refine E7 ?_ | refine E8 ?_ | refine E9 ?_ | refine Ea ?_ | refine Eb ?_ | refine Ec ?_ | refine Ed ?_)
        refine W_regionD [[], [], [0, 1], [2, 0, 1], [], [4], [3, 2, 0, 1, 5, 4], [6, 3, 2, 0, 1, 5, 4], [7, 6, 3, 2, 0, 1, 5, 4], [7, 6, 3, 2, 0, 1, 5, 4], [8, 7, 6, 3, 2, 0, 1, 5, 4, 9], [10, 8, 7, 6, 3, 2, 0, 1, 5, 4, 9], [11, 10, 8, 7, 6, 3, 2, 0, 1, 5, 4, 9], [12, 11, 10, 8, 7, 6, 3, 2, 0, 1, 5, 4, 9], [13, 12, 11, 10, 8, 7, 6, 3, 2, 0, 1, 5, 4, 9], [13, 12, 11, 10, 8, 7, 6, 3, 2, 0, 1, 5, 4, 9], [13, 12, 11, 10, 8, 7, 6, 3, 2, 0, 1, 5, 4, 9], [15, 13, 12, 11, 10, 8, 7, 6, 3, 2, 0, 1, 5, 4, 9, 16], [17, 15, 13, 12, 11, 10, 8, 7, 6, 3, 2, 0, 1, 5, 4, 9, 16], [14, 13, 12, 11, 10, 8, 7, 6, 3, 2, 0, 1, 5, 4, 9, 18, 17, 15, 16], [19, 14, 13, 12, 11, 10, 8, 7, 6, 3, 2, 0, 1, 5, 4, 9, 18, 17, 15, 16], [13, 12, 11, 10, 8, 7, 6, 3, 2, 0, 1, 5, 4, 9, 20, 19, 14, 18, 17, 15, 16], [7, 6, 3, 2, 0, 1, 5, 4, 21, 13, 12, 11, 10, 8, 9, 20, 19, 14, 18, 17, 15, 16]] (by decide +kernel) (by decide +kernel) (by decide +kernel) fun K hK => ?_
        simp only [KA, KB, KP, KQ, KM, simprocAttr, KT w, KI, hw.KF, A58, A59, A5a, A5b, A5c, A5d, A5e, A5f, A5g, A5h, KX, Foot.big, A5i, opP, rfoot, refsO, refs, wfoot, A5j, A5k, noisyOk, pairOk, Foot.isQuiet, Foot.apart, Ft.apart, Foot.none, A5l, A5m, A48, A49, A5n, A5o, A5p, A5q, Nat.reduceBEq, htm, t4, t5, hg1, hg2, ho1n, ho2n, g6N, hbr, hnr, hlr1, hlr2, hj0, hjl, acc, act', acd', pe, nrn]
        refine hK _ _ ?_
        clear hK
        clear K
        repeat with_reducible (first | refine E0 ?_ | refine E1 ?_ | refine E2 ?_ | refine E3 ?_ | refine E4 ?_ | refine E5 (by decide) ?_ | refine E6 ?_ | refine E7 ?_ | refine E8 ?_ | refine E9 ?_ | refine Ea ?_ | refine Eb ?_ | refine Ec ?_ | refine Ed ?_)
        refine W_condF (by simp only [KA, KP, KQ, simprocAttr, KT w, KI, hw.KF, htm]) ?_
        repeat with_reducible (first | refine E0 ?_ | refine E1 ?_ | refine E2 ?_ | refine E3 ?_ | refine E4 ?_ | refine E5 (by decide) ?_ | refine E6 ?_ | refine E7 ?_ | refine E8 ?_ | refine E9 ?_ | refine Ea ?_ | refine Eb ?_ | refine Ec ?_ | refine Ed ?_)
        refine W_region fun K hK => ?_
        simp only [KA, KB, KP, KQ, KM, simprocAttr, KT w, KI, hw.KF, htm, t111, e2]
        refine hK _ _ ?_
        clear hK
        clear K
        refine ⟨tr.length - (j + 1), by omega, _, j + 1, rfl, ok6, b6, by rw [St.pushN]; omega, g60, htv6, hgv6, rfl, by omega, ?_⟩
        simp only [KA, KP, KQ, simprocAttr, KT w, KI, hw.KF, htm, t3, t4, t5, t19, t20, t21, t110, Int.natCast_add, A3z]
    rw [Decidable.not_not] at hbig
    obtain ⟨k, hk⟩ : ∃ k : Nat, d.h = (k : Int) := ⟨d.h.toNat, by omega⟩
    rw [hk] at h78 hbig
    have hkg : k < gn.length := by omega
    obtain ⟨b, hbk⟩ : ∃ b, gn[k]? = some b := ⟨_, List.getElem?_eq_getElem hkg⟩
    have hbr := bls_get hbk
    have hbl : (bls gn).length = gn.length := bls_len _
    have hk0 : ¬ (k : Int) < 0 := by omega
    have hkL : (k : Int) < (gn.length : Int) := by omega
    have hkG : (k : Int) ≥ 0 := by omega
    obtain ⟨o2, v2, rfl, ho2, hg2⟩ : ∃ o g, gnv = .sref o g 0 (bls gn).length ∧ o < T1.n ∧ T1.get o = some (.seq g 1 (bls gn) 0) := by
      rcases hgv1 with ⟨h, _⟩ | h
      · have : (bls gn).length = 0 := by rw [h]; rfl
        omega
      · exact h
    cases b with
    | true =>
      have pd := pNo hHS (k : Int) (by simp [rootR, hHS.dead k hbk])
      refine W_region fun K hK => ?_
      simp only [KA, KB, KP, KQ, KM, simprocAttr, KT w, KI, hw.KF, htm, t3, g01, gN1, h78, acl, act, acd, pd, ok1, b1, A3p, splice]
      refine hK _ _ ?_
      clear hK
      clear K
      repeat with_reducible (first | refine E0 ?_ | refine E1 ?_ | refine E2 ?_ | refine E3 ?_ | refine E4 ?_ | refine E5 (by decide) ?_ | refine E6 ?_ | refine E7 ?_ | refine E8 ?_ | refine E9 ?_ | refine Ea ?_ | refine Eb ?_ | refine Ec ?_ | refine Ed ?_)
      have ok2 : (T1.push (.row (arC A) false)).ok := St.ok_push ok1
      have b2 : (T1.push (.row (arC A) false)).base = 0 := by rw [St.pushB]; exact b1
      have n2 : (T1.push (.row (arC A) false)).n = T1.n + 1 := St.pushN _ _
      have g02 : (T1.push (.row (arC A) false)).get 0 = some (.row (arC A) false) := (St.get_pushn (by omega)).trans g01
      have gN2 : (T1.push (.row (arC A) false)).get N = some (.row DR false) := (St.get_pushn (by omega)).trans gN1
      have gM2 : (T1.push (.row (arC A) false)).get T1.n = some (.row (arC A) false) := St.get_pushe
      have htv2 := htv1.push (.row (arC A) false)
      have hgv2 := hgv1.push (.row (arC A) false)
      have hal2 := hgv2.alen (w := w) (t := 47) (e := 4) (Tk47 w) (T1.push (.row (arC A) false))
      rw [bls_len] at hal2
      generalize hT2 : T1.push (.row (arC A) false) = T2 at *
      generalize hM : T1.n = M at *
      have hg2' : T2.get o2 = some (.seq v2 1 (bls gn) 0) := by rw [← hT2]; exact (St.get_pushn (by omega)).trans hg2
      refine W_region fun K hK => ?_
      simp only [KA, KB, KP, KQ, KM, simprocAttr, KT w, KI, hw.KF, htm, t5, gN2, h78, hk0, hkL, hkG, hal2, hg2', hbr, hbl]
      refine hK _ _ ?_
      clear hK
      clear K
      repeat with_reducible (first | refine E0 ?_ | refine E1 ?_ | refine E2 ?_ | refine E3 ?_ | refine E4 ?_ | refine E5 (by decide) ?_ | refine E6 ?_ | refine E7 ?_ | refine E8 ?_ | refine E9 ?_ | refine Ea ?_ | refine Eb ?_ | refine Ec ?_ | refine Ed ?_)
      obtain ⟨gnv', hgnv'⟩ : ∃ gnv', AV.sref o2 v2 0 (bls gn).length = gnv' := ⟨_, rfl⟩
      rw [hgnv'] at t5 hgv2
      refine W_cut (fun tm => tm.length = 163 ∧ tget tm 3 = .ptr 0 0 ∧ tget tm 4 = trv ∧ tget tm 5 = gnv' ∧ tget tm 11 = .ptr M 0 ∧ tget tm 12 = .int .i64 19 ∧ tget tm 13 = .bool false ∧ tget tm 19 = .vec (drows l) ∧ tget tm 20 = .int .i64 (l.length : Nat) ∧ tget tm 21 = .int .i64 (i : Nat)) (by simp only [KA, KP, KQ, simprocAttr, KT w, KI, hw.KF, htm, t3, t4, t5, t19, t20, t21]) fun tm ⟨htm, t3, t4, t5, t11, t12, t13, t19, t20, t21⟩ => ?_
      refine W_region fun K hK => ?_
      simp only [KA, KB, KP, KQ, KM, simprocAttr, KT w, KI, hw.KF, htm, t3, t11, t12, t13, g02, gM2, acl, act, acd, ps]
      refine hK _ _ ?_
      clear hK
      clear K
      repeat with_reducible (first | refine E0 ?_ | refine E1 ?_ | refine E2 ?_ | refine E3 ?_ | refine E4 ?_ | refine E5 (by decide) ?_ | refine E6 ?_ | refine E7 ?_ | refine E8 ?_ | refine E9 ?_ | refine Ea ?_ | refine Eb ?_ | refine Ec ?_ | refine Ed ?_)
      refine W_condF (by simp only [KA, KP, KQ, simprocAttr, KT w, KI, hw.KF, htm]) ?_
      repeat with_reducible (first | refine E0 ?_ | refine E1 ?_ | refine E2 ?_ | refine E3 ?_ | refine E4 ?_ | refine E5 (by decide) ?_ | refine E6 ?_ | refine E7 ?_ | refine E8 ?_ | refine E9 ?_ | refine Ea ?_ | refine Eb ?_ | refine Ec ?_ | refine Ed ?_)
      refine W_region fun K hK => ?_
      simp only [KA, KB, KP, KQ, KM, simprocAttr, KT w, KI, hw.KF, htm, t13]
      refine hK _ _ ?_
      clear hK
      clear K
      repeat with_reducible (first | refine E0 ?_ | refine E1 ?_ | refine E2 ?_ | refine E3 ?_ | refine E4 ?_ | refine E5 (by decide) ?_ | refine E6 ?_ | refine E7 ?_ | refine E8 ?_ | refine E9 ?_ | refine Ea ?_ | refine Eb ?_ | refine Ec ?_ | refine Ed ?_)
      refine W_condF (by simp only [KA, KP, KQ, simprocAttr, KT w, KI, hw.KF, htm]) ?_
      repeat with_reducible (first | refine E0 ?_ | refine E1 ?_ | refine E2 ?_ | refine E3 ?_ | refine E4 ?_ | refine E5 (by decide) ?_ | refine E6 ?_ | refine E7 ?_ | refine E8 ?_ | refine E9 ?_ | refine Ea ?_ | refine Eb ?_ | refine Ec ?_ | refine Ed ?_)
      refine W_region fun K hK => ?_
      simp only [KA, KB, KP, KQ, KM, simprocAttr, KT w, KI, hw.KF, htm, t3, t11, g02, gM2, acl, act, acd, ok2, b2, n2, splice]
      refine hK _ _ ?_
      clear hK
      clear K
      repeat with_reducible (first | refine E0 ?_ | refine E1 ?_ | refine E2 ?_ | refine E3 ?_ | refine E4 ?_ | refine E5 (by decide) ?_ | refine E6 ?_ | refine E7 ?_ | refine E8 ?_ | refine E9 ?_ | refine Ea ?_ | refine Eb ?_ | refine Ec ?_ | refine Ed ?_)
      have ok3 : (T2.set 0 (.row (arC A) false)).ok := St.ok_set ok2
      have b3 : (T2.set 0 (.row (arC A) false)).base = 0 := by rw [St.setB]; exact b2
      have n3 : 1 ≤ (T2.set 0 (.row (arC A) false)).n := by rw [St.setN]; omega
      have g03 : (T2.set 0 (.row (arC A) false)).get 0 = some (.row (arC A) false) := St.get_sete ok2 (by omega)
      have htv3 := htv2.setRow (by omega) g02 (.row (arC A) false)
      have hgv3 := hgv2.setRow (by omega) g02 (.row (arC A) false)
      generalize hT3 : T2.set 0 (.row (arC A) false) = T3 at *
      have hlt' : tr.length ≤ i + 1 := by omega
      have pf := pFit hHS
      refine W_region fun K hK => ?_
      simp only [KA, KB, KP, KQ, KM, simprocAttr, KT w, KI, hw.KF, htm, t3, g03, acl, act, acd, pf]
      refine hK _ _ ?_
      clear hK
      clear K
      repeat with_reducible (first | refine E0 ?_ | refine E1 ?_ | refine E2 ?_ | refine E3 ?_ | refine E4 ?_ | refine E5 (by decide) ?_ | refine E6 ?_ | refine E7 ?_ | refine E8 ?_ | refine E9 ?_ | refine Ea ?_ | refine Eb ?_ | refine Ec ?_ | refine Ed ?_)
      refine W_condF (by simp only [KA, KP, KQ, simprocAttr, KT w, KI, hw.KF, htm]) ?_
      repeat with_reducible (first | refine E0 ?_ | refine E1 ?_ | refine E2 ?_ | refine E3 ?_ | refine E4 ?_ | refine E5 (by decide) ?_ | refine E6 ?_ | refine E7 ?_ | refine E8 ?_ | refine E9 ?_ | refine Ea ?_ | refine Eb ?_ | refine Ec ?_ | refine Ed ?_)
      have haltr := fun T' => htv3.alen (w := w) (t := 26) (e := 28) (Tk26 w) T'
      rw [Node.rows_len] at haltr
      refine W_region fun K hK => ?_
      simp only [KA, KB, KP, KQ, KM, simprocAttr, KT w, KI, hw.KF, htm, t4, haltr]
      refine hK _ _ ?_
      clear hK
      clear K
      repeat with_reducible (first | refine E0 ?_ | refine E1 ?_ | refine E2 ?_ | refine E3 ?_ | refine E4 ?_ | refine E5 (by decide) ?_ | refine E6 ?_ | refine E7 ?_ | refine E8 ?_ | refine E9 ?_ | refine Ea ?_ | refine Eb ?_ | refine Ec ?_ | refine Ed ?_)
      have hglx := hHS.gl
      have hlex := hHS.le
      refine W_loop (fun k0 fr T => ∃ (tm : List AV) (j : Nat), fr = ⟨tm, [], none, 5⟩ ∧ T.ok ∧ T.base = 0 ∧ 1 ≤ T.n ∧ T.get 0 = some (.row (arC A) false) ∧ MV 7 trv (Node.rows tr) T ∧ MV 1 gnv' (bls gn) T ∧ k0 = tr.length - j ∧ j ≤ tr.length ∧
          tm.length = 163 ∧ tget tm 3 = .ptr 0 0 ∧ tget tm 4 = trv ∧ tget tm 5 = gnv' ∧ tget tm 19 = .vec (drows l) ∧ tget tm 20 = .int .i64 (l.length : Nat) ∧ tget tm 21 = .int .i64 (i : Nat) ∧ tget tm 110 = .int .i64 (tr.length : Nat) ∧ tget tm 111 = .int .i64 (j : Nat)) tr.length
        ⟨_, 0, rfl, ok3, b3, n3, g03, htv3, hgv3, rfl, Nat.zero_le _, ?_⟩ ?_
      · simp only [KA, KP, KQ, simprocAttr, KT w, KI, hw.KF, htm, t3, t4, t5, t19, t20, t21, Int.ofNat_zero]
      rintro k0 fr T5 ⟨tm, j, rfl, ok5, b5, n5, g5, htv5, hgv5, rfl, hj, htm, t3, t4, t5, t19, t20, t21, t110, t111⟩
      repeat with_reducible (first | refine E0 ?_ | refine E1 ?_ | refine E2 ?_ | refine E3 ?_ | refine E4 ?_ | refine E5 (by decide) ?_ | refine E6 ?_ | refine E7 ?_ | refine E8 ?_ | refine E9 ?_ | refine Ea ?_ | refine Eb ?_ | refine Ec ?_ | refine Ed ?_)
      by_cases hjl : (j : Int) < (tr.length : Int)
      case neg =>
        refine W_region fun K hK => ?_
        simp only [KA, KB, KP, KQ, KM, simprocAttr, KT w, KI, hw.KF, htm, t110, t111, hjl]
        refine hK _ _ ?_
        clear hK
        clear K
        repeat with_reducible (first | refine E0 ?_ | refine E1 ?_ | refine E2 ?_ | refine E3 ?_ | refine E4 ?_ | refine E5 (by decide) ?_ | refine E6 ?_ | refine E7 ?_ | refine E8 ?_ | refine E9 ?_ | refine Ea ?_ | refine Eb ?_ | refine Ec ?_ | refine Ed ?_)
        refine W_condF (by simp only [KA, KP, KQ, simprocAttr, KT w, KI, hw.KF, htm]) ?_
        repeat with_reducible (first | refine E0 ?_ | refine E1 ?_ | refine E2 ?_ | refine E3 ?_ | refine E4 ?_ | refine E5 (by decide) ?_ | refine E6 ?_ | refine E7 ?_ | refine E8 ?_ | refine E9 ?_ | refine Ea ?_ | refine Eb ?_ | refine Ec ?_ | refine Ed ?_)
        refine W_region fun K hK => ?_
        simp only [KA, KB, KP, KQ, KM, simprocAttr, KT w, KI, hw.KF, htm, t21, e1]
        refine hK _ _ ?_
        clear hK
        clear K
        refine ⟨l.length - (i + 1), by omega, _, i + 1, A, tr, gn, trv, gnv', rfl, ok5, b5, n5, g5, hHS, by omega, htv5, hgv5, rfl, by omega, ?_⟩
        simp only [KA, KP, KQ, simprocAttr, KT w, KI, hw.KF, htm, t3, t4, t5, t19, t20, Int.natCast_add, A3z]
      have hj0 : ¬ (j : Int) < 0 := by omega
      have e2 : IntKind.i64.wrap ((j : Int) + 1) = (j : Int) + 1 := i64_in _ (by omega)
      obtain ⟨n, hnj⟩ : ∃ n, tr[j]? = some n := ⟨_, List.getElem?_eq_getElem (by omega)⟩
      obtain ⟨b, hbj⟩ : ∃ b, gn[j]? = some b := ⟨_, List.getElem?_eq_getElem (by omega)⟩
      have hnr : (Node.rows tr)[j]? = some n.cells := by rw [Node.rows_get, hnj]; rfl
      have hbr := bls_get hbj
      obtain ⟨o1, v1, rfl, ho1, hg1⟩ : ∃ o g, trv = .sref o g 0 (Node.rows tr).length ∧ o < T5.n ∧ T5.get o = some (.seq g 7 (Node.rows tr) 0) := by
        rcases htv5 with ⟨h, _⟩ | h
        · have : (Node.rows tr).length = 0 := by rw [h]; rfl
          rw [Node.rows_len] at this; omega
        · exact h
      obtain ⟨o2, v2, rfl, ho2, hg2⟩ : ∃ o g, gnv' = .sref o g 0 (bls gn).length ∧ o < T5.n ∧ T5.get o = some (.seq g 1 (bls gn) 0) := by
        rcases hgv5 with ⟨h, _⟩ | h
        · have : (bls gn).length = 0 := by rw [h]; rfl
          rw [bls_len] at this; omega
        · exact h
      have ho1n : ¬ o1 = T5.n := by omega
      have ho2n : ¬ o2 = T5.n := by omega
      have hlr1 : (Node.rows tr).length = tr.length := Node.rows_len _
      have hlr2 : (bls gn).length = tr.length := by rw [bls_len, hglx]
      have acc := Node.cells_len n
      have act' := Node.cells_take n
      have acd' := Node.cells_drop n
      have pe := pEq n (hHS.nok n (List.mem_of_getElem? hnj)).1
      have nrn := Node.nrm_all n
      refine W_region fun K hK => ?_
      simp only [KA, KB, KP, KQ, KM, simprocAttr, KT w, KI, hw.KF, htm, t110, t111, hjl]
      refine hK _ _ ?_
      clear hK
      clear K
      repeat with_reducible (first | refine E0 ?_ | refine E1 ?_ | refine E2 ?_ | refine E3 ?_ | refine E4 ?_ | refine E5 (by decide) ?_ | refine E6 ?_ | refine E7 ?_ | refine E8 ?_ | refine E9 ?_ | refine Ea ?_ | refine Eb ?_ | refine Ec ?_ | refine Ed ?_)
      refine W_condT (by simp only [KA, KP, KQ, simprocAttr, KT w, KI, hw.KF, htm]) ?_
      repeat with_reducible (first | refine E0 ?_ | refine E1 ?_ | refine E2 ?_ | refine E3 ?_ | refine E4 ?_ | refine E5 (by decide) ?_ | refine E6 ?_ | refine E7 ?_ | refine E8 ?_ | refine E9 ?_ | refine Ea ?_ | refine Eb ?_ | refine Ec ?_ | refine Ed ?_)
      refine W_region fun K hK => ?_
      simp only [KA, KB, KP, KQ, KM, simprocAttr, KT w, KI, hw.KF, htm, t111]
      refine hK _ _ ?_
      clear hK
      clear K
      repeat with_reducible (first | refine E0 ?_ | refine E1 ?_ | refine E2 ?_ | refine E3 ?_ | refine E4 ?_ | refine E5 (by decide) ?_ | refine E6 ?_ | refine E7 ?_ | refine E8 ?_ | refine E9 ?_ | refine Ea ?_ | refine Eb ?_ | refine Ec ?_ | refine Ed ?_)
      cases b with
      | true =>
        have pr := pRdNo hHS j hbj
        have zc1 := Node.cells_len nd0
        have zc2 := Node.cells_take nd0
        have zc3 := Node.cells_drop nd0
        generalize nd0.cells = ZC at *
        have ok6 : (T5.push (.row ZC false)).ok := St.ok_push ok5
        have b6 : (T5.push (.row ZC false)).base = 0 := by rw [St.pushB]; exact b5
        have g61 : (T5.push (.row ZC false)).get o1 = some (.seq v1 7 (Node.rows tr) 0) := (St.get_pushn (by omega)).trans hg1
        have g62 : (T5.push (.row ZC false)).get o2 = some (.seq v2 1 (bls gn) 0) := (St.get_pushn (by omega)).trans hg2
        have htv6 := htv5.push (.row ZC false)
        have hgv6 := hgv5.push (.row ZC false)
        have g60 := (St.get_pushn (S := T5) (o := .row ZC false) (i := 0) (by omega)).trans g5
        refine W_region fun K hK => ?_
        simp only [KA, KB, KP, KQ, KM, simprocAttr, KT w, KI, hw.KF, htm, t3, t111, g5, acl, act, acd, pr, zc1, zc2, zc3, ok5, b5, A3p, splice]
        refine hK _ _ ?_
        clear hK
        clear K
        repeat with_reducible (first | refine E0 ?_ | refine E1 ?_ | refine E2 ?_ | refine E3 ?_ | refine E4 ?_ | refine E5 (by decide) ?_ | refine E6 ?_ | refine E7 ?_ | refine E8 ?_ | refine E9 ?_ | refine Ea ?_ | refine Eb ?_ | refine Ec ?_ | refine Ed ?_)
        refine W_regionD [[], [], [0, 1], [2, 0, 1], [], [4], [3, 2, 0, 1, 5, 4], [6, 3, 2, 0, 1, 5, 4], [7, 6, 3, 2, 0, 1, 5, 4], [7, 6, 3, 2, 0, 1, 5, 4], [8, 7, 6, 3, 2, 0, 1, 5, 4, 9], [10, 8, 7, 6, 3, 2, 0, 1, 5, 4, 9], [11, 10, 8, 7, 6, 3, 2, 0, 1, 5, 4, 9], [12, 11, 10, 8, 7, 6, 3, 2, 0, 1, 5, 4, 9], [13, 12, 11, 10, 8, 7, 6, 3, 2, 0, 1, 5, 4, 9], [13, 12, 11, 10, 8, 7, 6, 3, 2, 0, 1, 5, 4, 9], [13, 12, 11, 10, 8, 7, 6, 3, 2, 0, 1, 5, 4, 9], [15, 13, 12, 11, 10, 8, 7, 6, 3, 2, 0, 1, 5, 4, 9, 16], [17, 15, 13, 12, 11, 10, 8, 7, 6, 3, 2, 0, 1, 5, 4, 9, 16], [14, 13, 12, 11, 10, 8, 7, 6, 3, 2, 0, 1, 5, 4, 9, 18, 17, 15, 16], [19, 14, 13, 12, 11, 10, 8, 7, 6, 3, 2, 0, 1, 5, 4, 9, 18, 17, 15, 16], [13, 12, 11, 10, 8, 7, 6, 3, 2, 0, 1, 5, 4, 9, 20, 19, 14, 18, 17, 15, 16], [7, 6, 3, 2, 0, 1, 5, 4, 21, 13, 12, 11, 10, 8, 9, 20, 19, 14, 18, 17, 15, 16]] (by decide +kernel) (by decide +kernel) (by decide +kernel) fun K hK => ?_
        simp only [KA, KB, KP, KQ, KM, simprocAttr, KT w, KI, hw.KF, A58, A59, A5a, A5b, A5c, A5d, A5e, A5f, A5g, A5h, KX, Foot.big, A5i, opP, rfoot, refsO, refs, wfoot, A5j, A5k, noisyOk, pairOk, Foot.isQuiet, Foot.apart, Ft.apart, Foot.none, A5l, A5m, A48, A49, A5n, A5o, A5p, A5q, Nat.reduceBEq, htm, t4, t5, hg2, ho2n, hbr, hlr2, hj0, hjl]
        refine hK _ _ ?_
        clear hK
        clear K
        repeat with_reducible (first | refine E0 ?_ | refine E1 ?_ | refine E2 ?_ | refine E3 ?_ | refine E4 ?_ | refine E5 (by decide) ?_ | refine E6 ?_ | refine E7 ?_ | refine E8 ?_ | refine E9 ?_ | refine Ea ?_ | refine Eb ?_ | refine Ec ?_ | refine Ed ?_)
        refine W_condF (by simp only [KA, KP, KQ, simprocAttr, KT w, KI, hw.KF, htm]) ?_
        repeat with_reducible (first | refine E0 ?_ | refine E1 ?_ | refine E2 ?_ | refine E3 ?_ | refine E4 ?_ | refine E5 (by decide) ?_ | refine E6 ?_ | refine E7 ?_ | refine E8 ?_ | refine E9 ?_ | refine Ea ?_ | refine Eb ?_ | refine Ec ?_ | refine Ed ?_)
        refine W_region fun K hK => ?_
        simp only [KA, KB, KP, KQ, KM, simprocAttr, KT w, KI, hw.KF, htm, t111, e2]
        refine hK _ _ ?_
        clear hK
        clear K
        refine ⟨tr.length - (j + 1), by omega, _, j + 1, rfl, ok6, b6, by rw [St.pushN]; omega, g60, htv6, hgv6, rfl, by omega, ?_⟩
        simp only [KA, KP, KQ, simprocAttr, KT w, KI, hw.KF, htm, t3, t4, t5, t19, t20, t21, t110, Int.natCast_add, A3z]
      | false =>
        have pr := pRd hHS j n hbj hnj
        generalize n.cells = NC at *
        have ok6 : (T5.push (.row NC false)).ok := St.ok_push ok5
        have b6 : (T5.push (.row NC false)).base = 0 := by rw [St.pushB]; exact b5
        have g61 : (T5.push (.row NC false)).get o1 = some (.seq v1 7 (Node.rows tr) 0) := (St.get_pushn (by omega)).trans hg1
        have g62 : (T5.push (.row NC false)).get o2 = some (.seq v2 1 (bls gn) 0) := (St.get_pushn (by omega)).trans hg2
        have g6N : (T5.push (.row NC false)).get T5.n = some (.row NC false) := St.get_pushe
        have htv6 := htv5.push (.row NC false)
        have hgv6 := hgv5.push (.row NC false)
        have g60 := (St.get_pushn (S := T5) (o := .row NC false) (i := 0) (by omega)).trans g5
        refine W_region fun K hK => ?_
        simp only [KA, KB, KP, KQ, KM, simprocAttr, KT w, KI, hw.KF, htm, t3, t111, g5, acl, act, acd, pr, acc, act', acd', ok5, b5, A3p, splice]
        refine hK _ _ ?_
        clear hK
        clear K
        repeat with_reducible (first | refine E0 ?_ | refine E1 ?_ | refine E2 ?_ | refine E3 ?_ | refine E4 ?_ | refine E5 (by decide) ?_ | refine E6 ?_ | refine E7 ?_ | refine E8 ?_ | refine E9 ?_ | refine Ea ?_ | refine Eb ?_ | refine Ec ?_ | refine Ed ?_)
        refine W_regionD [[], [], [0, 1], [2, 0, 1], [], [4], [3, 2, 0, 1, 5, 4], [6, 3, 2, 0, 1, 5, 4], [7, 6, 3, 2, 0, 1, 5, 4], [7, 6, 3, 2, 0, 1, 5, 4], [8, 7, 6, 3, 2, 0, 1, 5, 4, 9], [10, 8, 7, 6, 3, 2, 0, 1, 5, 4, 9], [11, 10, 8, 7, 6, 3, 2, 0, 1, 5, 4, 9], [12, 11, 10, 8, 7, 6, 3, 2, 0, 1, 5, 4, 9], [13, 12, 11, 10, 8, 7, 6, 3, 2, 0, 1, 5, 4, 9], [13, 12, 11, 10, 8, 7, 6, 3, 2, 0, 1, 5, 4, 9], [13, 12, 11, 10, 8, 7, 6, 3, 2, 0, 1, 5, 4, 9], [15, 13, 12, 11, 10, 8, 7, 6, 3, 2, 0, 1, 5, 4, 9, 16], [17, 15, 13, 12, 11, 10, 8, 7, 6, 3, 2, 0, 1, 5, 4, 9, 16], [14, 13, 12, 11, 10, 8, 7, 6, 3, 2, 0, 1, 5, 4, 9, 18, 17, 15, 16], [19, 14, 13, 12, 11, 10, 8, 7, 6, 3, 2, 0, 1, 5, 4, 9, 18, 17, 15, 16], [13, 12, 11, 10, 8, 7, 6, 3, 2, 0, 1, 5, 4, 9, 20, 19, 14, 18, 17, 15, 16], [7, 6, 3, 2, 0, 1, 5, 4, 21, 13, 12, 11, 10, 8, 9, 20, 19, 14, 18, 17, 15, 16]] (by decide +kernel) (by decide +kernel) (by decide +kernel) fun K hK => ?_
        simp only [KA, KB, KP, KQ, KM, simprocAttr, KT w, KI, hw.KF, A58, A59, A5a, A5b, A5c, A5d, A5e, A5f, A5g, A5h, KX, Foot.big, A5i, opP, rfoot, refsO, refs, wfoot, A5j, A5k, noisyOk, pairOk, Foot.isQuiet, Foot.apart, Ft.apart, Foot.none, A5l, A5m, A48, A49, A5n, A5o, A5p, A5q, Nat.reduceBEq, htm, t4, t5, hg1, hg2, ho1n, ho2n, g6N, hbr, hnr, hlr1, hlr2, hj0, hjl, acc, act', acd', pe, nrn]
        refine hK _ _ ?_
        clear hK
        clear K
        repeat with_reducible (first | refine E0 ?_ | refine E1 ?_ | refine E2 ?_ | refine E3 ?_ | refine E4 ?_ | refine E5 (by decide) ?_ | refine E6 ?_ | refine E7 ?_ | refine E8 ?_ | refine E9 ?_ | refine Ea ?_ | refine Eb ?_ | refine Ec ?_ | refine Ed ?_)
        refine W_condF (by simp only [KA, KP, KQ, simprocAttr, KT w, KI, hw.KF, htm]) ?_
        repeat with_reducible (first | refine E0 ?_ | refine E1 ?_ | refine E2 ?_ | refine E3 ?_ | refine E4 ?_ | refine E5 (by decide) ?_ | refine E6 ?_ | refine E7 ?_ | refine E8 ?_ | refine E9 ?_ | refine Ea ?_ | refine Eb ?_ | refine Ec ?_ | refine Ed ?_)
        refine W_region fun K hK => ?_
        simp only [KA, KB, KP, KQ, KM, simprocAttr, KT w, KI, hw.KF, htm, t111, e2]
        refine hK _ _ ?_
        clear hK
        clear K
        refine ⟨tr.length - (j + 1), by omega, _, j + 1, rfl, ok6, b6, by rw [St.pushN]; omega, g60, htv6, hgv6, rfl, by omega, ?_⟩
        simp only [KA, KP, KQ, simprocAttr, KT w, KI, hw.KF, htm, t3, t4, t5, t19, t20, t21, t110, Int.natCast_add, A3z]
    | false =>
      obtain ⟨q, C, hq, hC, hHC⟩ := hHS.drop hbk
      have pd := pDrop hHS hq hC
      refine W_region fun K hK => ?_
      simp only [KA, KB, KP, KQ, KM, simprocAttr, KT w, KI, hw.KF, htm, t3, g01, gN1, h78, acl, act, acd, pd, ok1, b1, A3p, splice]
      refine hK _ _ ?_
      clear hK
      clear K
      repeat with_reducible (first | refine E0 ?_ | refine E1 ?_ | refine E2 ?_ | refine E3 ?_ | refine E4 ?_ | refine E5 (by decide) ?_ | refine E6 ?_ | refine E7 ?_ | refine E8 ?_ | refine E9 ?_ | refine Ea ?_ | refine Eb ?_ | refine Ec ?_ | refine Ed ?_)
      have ok2 : (T1.push (.row (arC C) false)).ok := St.ok_push ok1
      have b2 : (T1.push (.row (arC C) false)).base = 0 := by rw [St.pushB]; exact b1
      have n2 : (T1.push (.row (arC C) false)).n = T1.n + 1 := St.pushN _ _
      have g02 : (T1.push (.row (arC C) false)).get 0 = some (.row (arC A) false) := (St.get_pushn (by omega)).trans g01
      have gN2 : (T1.push (.row (arC C) false)).get N = some (.row DR false) := (St.get_pushn (by omega)).trans gN1
      have gM2 : (T1.push (.row (arC C) false)).get T1.n = some (.row (arC C) false) := St.get_pushe
      have hg2' : (T1.push (.row (arC C) false)).get o2 = some (.seq v2 1 (bls gn) 0) := (St.get_pushn (by omega)).trans hg2
      have htv2 := htv1.push (.row (arC C) false)
      have hgv2 := hgv1.push (.row (arC C) false)
      have hal2 := hgv2.alen (w := w) (t := 47) (e := 4) (Tk47 w) (T1.push (.row (arC C) false))
      rw [bls_len] at hal2
      have ho2' : o2 < (T1.push (.row (arC C) false)).n := by omega
      have ho2M : ¬ o2 = T1.n := by omega
      have ho20 : ¬ 0 = o2 := by rintro rfl; rw [g02] at hg2'; cases hg2'
      have ho2N : ¬ N = o2 := by rintro rfl; rw [gN2] at hg2'; cases hg2'
      generalize hT2 : T1.push (.row (arC C) false) = T2 at *
      generalize hM : T1.n = M at *
      refine W_region fun K hK => ?_
      simp only [KA, KB, KP, KQ, KM, simprocAttr, KT w, KI, hw.KF, htm, t5, gN2, h78, hk0, hkL, hkG, hal2, hg2', hbr, hbl]
      refine hK _ _ ?_
      clear hK
      clear K
      repeat with_reducible (first | refine E0 ?_ | refine E1 ?_ | refine E2 ?_ | refine E3 ?_ | refine E4 ?_ | refine E5 (by decide) ?_ | refine E6 ?_ | refine E7 ?_ | refine E8 ?_ | refine E9 ?_ | refine Ea ?_ | refine Eb ?_ | refine Ec ?_ | refine Ed ?_)
      refine W_cut (fun tm => tm.length = 163 ∧ tget tm 3 = .ptr 0 0 ∧ tget tm 4 = trv ∧ tget tm 5 = .sref o2 v2 0 (bls gn).length ∧ tget tm 7 = .ptr N 0 ∧ tget tm 11 = .ptr M 0 ∧ tget tm 12 = .int .i64 0 ∧ tget tm 13 = .bool true ∧ tget tm 19 = .vec (drows l) ∧ tget tm 20 = .int .i64 (l.length : Nat) ∧ tget tm 21 = .int .i64 (i : Nat)) (by simp only [KA, KP, KQ, simprocAttr, KT w, KI, hw.KF, htm, t3, t4, t5, t19, t20, t21]) fun tm ⟨htm, t3, t4, t5, t7, t11, t12, t13, t19, t20, t21⟩ => ?_
      refine W_region fun K hK => ?_
      simp only [KA, KB, KP, KQ, KM, simprocAttr, KT w, KI, hw.KF, htm, t12, t13]
      refine hK _ _ ?_
      clear hK
      clear K
      repeat with_reducible (first | refine E0 ?_ | refine E1 ?_ | refine E2 ?_ | refine E3 ?_ | refine E4 ?_ | refine E5 (by decide) ?_ | refine E6 ?_ | refine E7 ?_ | refine E8 ?_ | refine E9 ?_ | refine Ea ?_ | refine Eb ?_ | refine Ec ?_ | refine Ed ?_)
      refine W_condF (by simp only [KA, KP, KQ, simprocAttr, KT w, KI, hw.KF, htm]) ?_
      repeat with_reducible (first | refine E0 ?_ | refine E1 ?_ | refine E2 ?_ | refine E3 ?_ | refine E4 ?_ | refine E5 (by decide) ?_ | refine E6 ?_ | refine E7 ?_ | refine E8 ?_ | refine E9 ?_ | refine Ea ?_ | refine Eb ?_ | refine Ec ?_ | refine Ed ?_)
      refine W_region fun K hK => ?_
      simp only [KA, KB, KP, KQ, KM, simprocAttr, KT w, KI, hw.KF, htm, t13]
      refine hK _ _ ?_
      clear hK
      clear K
      repeat with_reducible (first | refine E0 ?_ | refine E1 ?_ | refine E2 ?_ | refine E3 ?_ | refine E4 ?_ | refine E5 (by decide) ?_ | refine E6 ?_ | refine E7 ?_ | refine E8 ?_ | refine E9 ?_ | refine Ea ?_ | refine Eb ?_ | refine Ec ?_ | refine Ed ?_)
      refine W_condT (by simp only [KA, KP, KQ, simprocAttr, KT w, KI, hw.KF, htm]) ?_
      repeat with_reducible (first | refine E0 ?_ | refine E1 ?_ | refine E2 ?_ | refine E3 ?_ | refine E4 ?_ | refine E5 (by decide) ?_ | refine E6 ?_ | refine E7 ?_ | refine E8 ?_ | refine E9 ?_ | refine Ea ?_ | refine Eb ?_ | refine Ec ?_ | refine Ed ?_)
      have hbs := bls_set gn k true
      refine W_region fun K hK => ?_
      simp only [KA, KB, KP, KQ, KM, simprocAttr, KT w, KI, hw.KF, htm, t5, t7, gN2, h78, hk0, hkL, hbl, hg2', hbr, hbs, ok2, b2, ho2', splice]
      refine hK _ _ ?_
      clear hK
      clear K
      repeat with_reducible (first | refine E0 ?_ | refine E1 ?_ | refine E2 ?_ | refine E3 ?_ | refine E4 ?_ | refine E5 (by decide) ?_ | refine E6 ?_ | refine E7 ?_ | refine E8 ?_ | refine E9 ?_ | refine Ea ?_ | refine Eb ?_ | refine Ec ?_ | refine Ed ?_)
      have ok3 : (T2.set o2 (.seq v2 1 (bls (gn.set k true)) 0)).ok := St.ok_set ok2
      have b3 : (T2.set o2 (.seq v2 1 (bls (gn.set k true)) 0)).base = 0 := by rw [St.setB]; exact b2
      have n3 : (T2.set o2 (.seq v2 1 (bls (gn.set k true)) 0)).n = T2.n := St.setN _ _ _
      have g03 : (T2.set o2 (.seq v2 1 (bls (gn.set k true)) 0)).get 0 = some (.row (arC A) false) := (St.get_setn ho2' ho20).trans g02
      have gM3 : (T2.set o2 (.seq v2 1 (bls (gn.set k true)) 0)).get M = some (.row (arC C) false) := (St.get_setn ho2' (fun e => ho2M e.symm)).trans gM2
      have hgv3 : MV 1 (.sref o2 v2 0 (bls gn).length) (bls (gn.set k true)) (T2.set o2 (.seq v2 1 (bls (gn.set k true)) 0)) := .inr ⟨o2, v2, by simp [bls_len], by rw [St.setN]; exact ho2', St.get_sete ok2 ho2'⟩
      have htv3 : MV 7 trv (Node.rows tr) (T2.set o2 (.seq v2 1 (bls (gn.set k true)) 0)) := htv2.other hgv2 (by decide) (by rw [St.setN]; omega) fun q x hq hs hg => by rw [St.get_setn ho2' (fun e => hs _ _ _ _ rfl e.symm)]; exact hg
      generalize hT3 : T2.set o2 (.seq v2 1 (bls (gn.set k true)) 0) = T3 at *
      refine W_region fun K hK => ?_
      simp only [KA, KB, KP, KQ, KM, simprocAttr, KT w, KI, hw.KF, htm, t3, t11, g03, gM3, acl, act, acd, ok3, b3, n3, splice]
      refine hK _ _ ?_
      clear hK
      clear K
      repeat with_reducible (first | refine E0 ?_ | refine E1 ?_ | refine E2 ?_ | refine E3 ?_ | refine E4 ?_ | refine E5 (by decide) ?_ | refine E6 ?_ | refine E7 ?_ | refine E8 ?_ | refine E9 ?_ | refine Ea ?_ | refine Eb ?_ | refine Ec ?_ | refine Ed ?_)
      have ok4 : (T3.set 0 (.row (arC C) false)).ok := St.ok_set ok3
      have b4 : (T3.set 0 (.row (arC C) false)).base = 0 := by rw [St.setB]; exact b3
      have n4 : 1 ≤ (T3.set 0 (.row (arC C) false)).n := by rw [St.setN]; omega
      have g04 : (T3.set 0 (.row (arC C) false)).get 0 = some (.row (arC C) false) := St.get_sete ok3 (by omega)
      have htv4 := htv3.setRow (by omega) g03 (.row (arC C) false)
      have hgv4 := hgv3.setRow (by omega) g03 (.row (arC C) false)
      generalize hT4 : T3.set 0 (.row (arC C) false) = T4 at *
      have hlt' : tr.length ≤ i + 1 := by omega
      clear hT2 hT3 hT4 htv2 hgv2 htv3 hgv3 htv1 hgv1 hbk hbr hbl hal2 hbs hkg hkL hgl
      obtain ⟨gn', hgn'⟩ : ∃ gn', gn.set k true = gn' := ⟨_, rfl⟩
      rw [hgn'] at hHC hgv4
      obtain ⟨gnv', hgnv'⟩ : ∃ gnv', AV.sref o2 v2 0 (bls gn).length = gnv' := ⟨_, rfl⟩
      rw [hgnv'] at t5 hgv4
      have pf := pFit hHC
      refine W_region fun K hK => ?_
      simp only [KA, KB, KP, KQ, KM, simprocAttr, KT w, KI, hw.KF, htm, t3, g04, acl, act, acd, pf]
      refine hK _ _ ?_
      clear hK
      clear K
      repeat with_reducible (first | refine E0 ?_ | refine E1 ?_ | refine E2 ?_ | refine E3 ?_ | refine E4 ?_ | refine E5 (by decide) ?_ | refine E6 ?_ | refine E7 ?_ | refine E8 ?_ | refine E9 ?_ | refine Ea ?_ | refine Eb ?_ | refine Ec ?_ | refine Ed ?_)
      refine W_condF (by simp only [KA, KP, KQ, simprocAttr, KT w, KI, hw.KF, htm]) ?_
      repeat with_reducible (first | refine E0 ?_ | refine E1 ?_ | refine E2 ?_ | refine E3 ?_ | refine E4 ?_ | refine E5 (by decide) ?_ | refine E6 ?_ | refine E7 ?_ | refine E8 ?_ | refine E9 ?_ | refine Ea ?_ | refine Eb ?_ | refine Ec ?_ | refine Ed ?_)
      have haltr := fun T' => htv4.alen (w := w) (t := 26) (e := 28) (Tk26 w) T'
      rw [Node.rows_len] at haltr
      refine W_region fun K hK => ?_
      simp only [KA, KB, KP, KQ, KM, simprocAttr, KT w, KI, hw.KF, htm, t4, haltr]
      refine hK _ _ ?_
      clear hK
      clear K
      repeat with_reducible (first | refine E0 ?_ | refine E1 ?_ | refine E2 ?_ | refine E3 ?_ | refine E4 ?_ | refine E5 (by decide) ?_ | refine E6 ?_ | refine E7 ?_ | refine E8 ?_ | refine E9 ?_ | refine Ea ?_ | refine Eb ?_ | refine Ec ?_ | refine Ed ?_)
      have hglx := hHC.gl
      have hlex := hHC.le
      refine W_loop (fun k0 fr T => ∃ (tm : List AV) (j : Nat), fr = ⟨tm, [], none, 5⟩ ∧ T.ok ∧ T.base = 0 ∧ 1 ≤ T.n ∧ T.get 0 = some (.row (arC C) false) ∧ MV 7 trv (Node.rows tr) T ∧ MV 1 gnv' (bls gn') T ∧ k0 = tr.length - j ∧ j ≤ tr.length ∧
          tm.length = 163 ∧ tget tm 3 = .ptr 0 0 ∧ tget tm 4 = trv ∧ tget tm 5 = gnv' ∧ tget tm 19 = .vec (drows l) ∧ tget tm 20 = .int .i64 (l.length : Nat) ∧ tget tm 21 = .int .i64 (i : Nat) ∧ tget tm 110 = .int .i64 (tr.length : Nat) ∧ tget tm 111 = .int .i64 (j : Nat)) tr.length
        ⟨_, 0, rfl, ok4, b4, n4, g04, htv4, hgv4, rfl, Nat.zero_le _, ?_⟩ ?_
      · simp only [KA, KP, KQ, simprocAttr, KT w, KI, hw.KF, htm, t3, t4, t5, t19, t20, t21, Int.ofNat_zero]
      rintro k0 fr T5 ⟨tm, j, rfl, ok5, b5, n5, g5, htv5, hgv5, rfl, hj, htm, t3, t4, t5, t19, t20, t21, t110, t111⟩
      repeat with_reducible (first | refine E0 ?_ | refine E1 ?_ | refine E2 ?_ | refine E3 ?_ | refine E4 ?_ | refine E5 (by decide) ?_ | refine E6 ?_ | refine E7 ?_ | refine E8 ?_ | refine E9 ?_ | refine Ea ?_ | refine Eb ?_ | refine Ec ?_ | refine Ed ?_)
      by_cases hjl : (j : Int) < (tr.length : Int)
      case neg =>
        refine W_region fun K hK => ?_
        simp only [KA, KB, KP, KQ, KM, simprocAttr, KT w, KI, hw.KF, htm, t110, t111, hjl]
        refine hK _ _ ?_
        clear hK
        clear K
        repeat with_reducible (first | refine E0 ?_ | refine E1 ?_ | refine E2 ?_ | refine E3 ?_ | refine E4 ?_ | refine E5 (by decide) ?_ | refine E6 ?_ | refine E7 ?_ | refine E8 ?_ | refine E9 ?_ | refine Ea ?_ | refine Eb ?_ | refine Ec ?_ | refine Ed ?_)
        refine W_condF (by simp only [KA, KP, KQ, simprocAttr, KT w, KI, hw.KF, htm]) ?_
        repeat with_reducible (first | refine E0 ?_ | refine E1 ?_ | refine E2 ?_ | refine E3 ?_ | refine E4 ?_ | refine E5 (by decide) ?_ | refine E6 ?_ | refine E7 ?_ | refine E8 ?_ | refine E9 ?_ | refine Ea ?_ | refine Eb ?_ | refine Ec ?_ | refine Ed ?_)
        refine W_region fun K hK => ?_
        simp only [KA, KB, KP, KQ, KM, simprocAttr, KT w, KI, hw.KF, htm, t21, e1]
        refine hK _ _ ?_
        clear hK
        clear K
        refine ⟨l.length - (i + 1), by omega, _, i + 1, C, tr, gn', trv, gnv', rfl, ok5, b5, n5, g5, hHC, by omega, htv5, hgv5, rfl, by omega, ?_⟩
        simp only [KA, KP, KQ, simprocAttr, KT w, KI, hw.KF, htm, t3, t4, t5, t19, t20, Int.natCast_add, A3z]
      have hj0 : ¬ (j : Int) < 0 := by omega
      have e2 : IntKind.i64.wrap ((j : Int) + 1) = (j : Int) + 1 := i64_in _ (by omega)
      obtain ⟨n, hnj⟩ : ∃ n, tr[j]? = some n := ⟨_, List.getElem?_eq_getElem (by omega)⟩
      obtain ⟨b, hbj⟩ : ∃ b, gn'[j]? = some b := ⟨_, List.getElem?_eq_getElem (by omega)⟩
      have hnr : (Node.rows tr)[j]? = some n.cells := by rw [Node.rows_get, hnj]; rfl
      have hbr := bls_get hbj
      obtain ⟨o1, v1, rfl, ho1, hg1⟩ : ∃ o g, trv = .sref o g 0 (Node.rows tr).length ∧ o < T5.n ∧ T5.get o = some (.seq g 7 (Node.rows tr) 0) := by
        rcases htv5 with ⟨h, _⟩ | h
        · have : (Node.rows tr).length = 0 := by rw [h]; rfl
          rw [Node.rows_len] at this; omega
        · exact h
      obtain ⟨o2, v2, rfl, ho2, hg2⟩ : ∃ o g, gnv' = .sref o g 0 (bls gn').length ∧ o < T5.n ∧ T5.get o = some (.seq g 1 (bls gn') 0) := by
        rcases hgv5 with ⟨h, _⟩ | h
        · have : (bls gn').length = 0 := by rw [h]; rfl
          rw [bls_len] at this; omega
        · exact h
      have ho1n : ¬ o1 = T5.n := by omega
      have ho2n : ¬ o2 = T5.n := by omega
      have hlr1 : (Node.rows tr).length = tr.length := Node.rows_len _
      have hlr2 : (bls gn').length = tr.length := by rw [bls_len, hglx]
      have acc := Node.cells_len n
      have act' := Node.cells_take n
      have acd' := Node.cells_drop n
      have pe := pEq n (hHC.nok n (List.mem_of_getElem? hnj)).1
      have nrn := Node.nrm_all n
      refine W_region fun K hK => ?_
      simp only [KA, KB, KP, KQ, KM, simprocAttr, KT w, KI, hw.KF, htm, t110, t111, hjl]
      refine hK _ _ ?_
      clear hK
      clear K
      repeat with_reducible (first | refine E0 ?_ | refine E1 ?_ | refine E2 ?_ | refine E3 ?_ | refine E4 ?_ | refine E5 (by decide) ?_ | refine E6 ?_ | refine E7 ?_ | refine E8 ?_ | refine E9 ?_ | refine Ea ?_ | refine Eb ?_ | refine Ec ?_ | refine Ed ?_)
      refine W_condT (by simp only [KA, KP, KQ, simprocAttr, KT w, KI, hw.KF, htm]) ?_
      repeat with_reducible (first | refine E0 ?_ | refine E1 ?_ | refine E2 ?_ | refine E3 ?_ | refine E4 ?_ | refine E5 (by decide) ?_ | refine E6 ?_ | refine E7 ?_ | refine E8 ?_ | refine E9 ?_ | refine Ea ?_ | refine Eb ?_ | refine Ec ?_ | refine Ed ?_)
      refine W_region fun K hK => ?_
      simp only [KA, KB, KP, KQ, KM, simprocAttr, KT w, KI, hw.KF, htm, t111]
      refine hK _ _ ?_
      clear hK
      clear K
      repeat with_reducible (first | refine E0 ?_ | refine E1 ?_ | refine E2 ?_ | refine E3 ?_ | refine E4 ?_ | refine E5 (by decide) ?_ | refine E6 ?_ | refine E7 ?_ | refine E8 ?_ | refine E9 ?_ | refine Ea ?_ | refine Eb ?_ | refine Ec ?_ | refine Ed ?_)
      cases b with
      | true =>
        have pr := pRdNo hHC j hbj
        have zc1 := Node.cells_len nd0
        have zc2 := Node.cells_take nd0
        have zc3 := Node.cells_drop nd0
        generalize nd0.cells = ZC at *
        have ok6 : (T5.push (.row ZC false)).ok := St.ok_push ok5
        have b6 : (T5.push (.row ZC false)).base = 0 := by rw [St.pushB]; exact b5
        have g61 : (T5.push (.row ZC false)).get o1 = some (.seq v1 7 (Node.rows tr) 0) := (St.get_pushn (by omega)).trans hg1
        have g62 : (T5.push (.row ZC false)).get o2 = some (.seq v2 1 (bls gn') 0) := (St.get_pushn (by omega)).trans hg2
        have htv6 := htv5.push (.row ZC false)
        have hgv6 := hgv5.push (.row ZC false)
        have g60 := (St.get_pushn (S := T5) (o := .row ZC false) (i := 0) (by omega)).trans g5
        refine W_region fun K hK => ?_
        simp only [KA, KB, KP, KQ, KM, simprocAttr, KT w, KI, hw.KF, htm, t3, t111, g5, acl, act, acd, pr, zc1, zc2, zc3, ok5, b5, A3p, splice]
        refine hK _ _ ?_
        clear hK
        clear K
        repeat with_reducible (first | refine E0 ?_ | refine E1 ?_ | refine E2 ?_ | refine E3 ?_ | refine E4 ?_ | refine E5 (by decide) ?_ | refine E6 ?_ | refine E7 ?_ | refine E8 ?_ | refine E9 ?_ | refine Ea ?_ | refine Eb ?_ | refine Ec ?_ | refine Ed ?_)
        refine W_regionD [[], [], [0, 1], [2, 0, 1], [], [4], [3, 2, 0, 1, 5, 4], [6, 3, 2, 0, 1, 5, 4], [7, 6, 3, 2, 0, 1, 5, 4], [7, 6, 3, 2, 0, 1, 5, 4], [8, 7, 6, 3, 2, 0, 1, 5, 4, 9], [10, 8, 7, 6, 3, 2, 0, 1, 5, 4, 9], [11, 10, 8, 7, 6, 3, 2, 0, 1, 5, 4, 9], [12, 11, 10, 8, 7, 6, 3, 2, 0, 1, 5, 4, 9], [13, 12, 11, 10, 8, 7, 6, 3, 2, 0, 1, 5, 4, 9], [13, 12, 11, 10, 8, 7, 6, 3, 2, 0, 1, 5, 4, 9], [13, 12, 11, 10, 8, 7, 6, 3, 2, 0, 1, 5, 4, 9], [15, 13, 12, 11, 10, 8, 7, 6, 3, 2, 0, 1, 5, 4, 9, 16], [17, 15, 13, 12, 11, 10, 8, 7, 6, 3, 2, 0, 1, 5, 4, 9, 16], [14, 13, 12, 11, 10, 8, 7, 6, 3, 2, 0, 1, 5, 4, 9, 18, 17, 15, 16], [19, 14, 13, 12, 11, 10, 8, 7, 6, 3, 2, 0, 1, 5, 4, 9, 18, 17, 15, 16], [13, 12, 11, 10, 8, 7, 6, 3, 2, 0, 1, 5, 4, 9, 20, 19, 14, 18, 17, 15, 16], [7, 6, 3, 2, 0, 1, 5, 4, 21, 13, 12, 11, 10, 8, 9, 20, 19, 14, 18, 17, 15, 16]] (by decide +kernel) (by decide +kernel) (by decide +kernel) fun K hK => ?_
        simp only [KA, KB, KP, KQ, KM, simprocAttr, KT w, KI, hw.KF, A58, A59, A5a, A5b, A5c, A5d, A5e, A5f, A5g, A5h, KX, Foot.big, A5i, opP, rfoot, refsO, refs, wfoot, A5j, A5k, noisyOk, pairOk, Foot.isQuiet, Foot.apart, Ft.apart, Foot.none, A5l, A5m, A48, A49, A5n, A5o, A5p, A5q, Nat.reduceBEq, htm, t4, t5, hg2, ho2n, hbr, hlr2, hj0, hjl]
        refine hK _ _ ?_
        clear hK
        clear K
        repeat with_reducible (first | refine E0 ?_ | refine E1 ?_ | refine E2 ?_ | refine E3 ?_ | refine E4 ?_ | refine E5 (by decide) ?_ | refine E6 ?_ | refine E7 ?_ | refine E8 ?_ | refine E9 ?_ | refine Ea ?_ | refine Eb ?_ | refine Ec ?_ | refine Ed ?_)
        refine W_condF (by simp only [KA, KP, KQ, simprocAttr, KT w, KI, hw.KF, htm]) ?_
        repeat with_reducible (first | refine E0 ?_ | refine E1 ?_ | refine E2 ?_ | refine E3 ?_ | refine E4 ?_ | refine E5 (by decide) ?_ | refine E6 ?_ | refine E7 ?_ | refine E8 ?_ | refine E9 ?_ | refine Ea ?_ | refine Eb ?_ | refine Ec ?_ | refine Ed ?_)
        refine W_region fun K hK => ?_
        simp only [KA, KB, KP, KQ, KM, simprocAttr, KT w, KI, hw.KF, htm, t111, e2]
        refine hK _ _ ?_
        clear hK
        clear K
        refine ⟨tr.length - (j + 1), by omega, _, j + 1, rfl, ok6, b6, by rw [St.pushN]; omega, g60, htv6, hgv6, rfl, by omega, ?_⟩
        simp only [KA, KP, KQ, simprocAttr, KT w, KI, hw.KF, htm, t3, t4, t5, t19, t20, t21, t110, Int.natCast_add, A3z]
      | false =>
        have pr := pRd hHC j n hbj hnj
        generalize n.cells = NC at *
        have ok6 : (T5.push (.row NC false)).ok := St.ok_push ok5
        have b6 : (T5.push (.row NC false)).base = 0 := by rw [St.pushB]; exact b5
        have g61 : (T5.push (.row NC false)).get o1 = some (.seq v1 7 (Node.rows tr) 0) := (St.get_pushn (by omega)).trans hg1
        have g62 : (T5.push (.row NC false)).get o2 = some (.seq v2 1 (bls gn') 0) := (St.get_pushn (by omega)).trans hg2
        have g6N : (T5.push (.row NC false)).get T5.n = some (.row NC false) := St.get_pushe
        have htv6 := htv5.push (.row NC false)
        have hgv6 := hgv5.push (.row NC false)
        have g60 := (St.get_pushn (S := T5) (o := .row NC false) (i := 0) (by omega)).trans g5
        refine W_region fun K hK => ?_
        simp only [KA, KB, KP, KQ, KM, simprocAttr, KT w, KI, hw.KF, htm, t3, t111, g5, acl, act, acd, pr, acc, act', acd', ok5, b5, A3p, splice]
        refine hK _ _ ?_
        clear hK
        clear K
        repeat with_reducible (first | refine E0 ?_ | refine E1 ?_ | refine E2 ?_ | refine E3 ?_ | refine E4 ?_ | refine E5 (by decide) ?_ | refine E6 ?_ | refine E7 ?_ | refine E8 ?_ | refine E9 ?_ | refine Ea ?_ | refine Eb ?_ | refine Ec ?_ | refine Ed ?_)
        refine W_regionD [[], [], [0, 1], [2, 0, 1], [], [4], [3, 2, 0, 1, 5, 4], [6, 3, 2, 0, 1, 5, 4], [7, 6, 3, 2, 0, 1, 5, 4], [7, 6, 3, 2, 0, 1, 5, 4], [8, 7, 6, 3, 2, 0, 1, 5, 4, 9], [10, 8, 7, 6, 3, 2, 0, 1, 5, 4, 9], [11, 10, 8, 7, 6, 3, 2, 0, 1, 5, 4, 9], [12, 11, 10, 8, 7, 6, 3, 2, 0, 1, 5, 4, 9], [13, 12, 11, 10, 8, 7, 6, 3, 2, 0, 1, 5, 4, 9], [13, 12, 11, 10, 8, 7, 6, 3, 2, 0, 1, 5, 4, 9], [13, 12, 11, 10, 8, 7, 6, 3, 2, 0, 1, 5, 4, 9], [15, 13, 12, 11, 10, 8, 7, 6, 3, 2, 0, 1, 5, 4, 9, 16], [17, 15, 13, 12, 11, 10, 8, 7, 6, 3, 2, 0, 1, 5, 4, 9, 16], [14, 13, 12, 11, 10, 8, 7, 6, 3, 2, 0, 1, 5, 4, 9, 18, 17, 15, 16], [19, 14, 13, 12, 11, 10, 8, 7, 6, 3, 2, 0, 1, 5, 4, 9, 18, 17, 15, 16], [13, 12, 11, 10, 8, 7, 6, 3, 2, 0, 1, 5, 4, 9, 20, 19, 14, 18, 17, 15, 16], [7, 6, 3, 2, 0, 1, 5, 4, 21, 13, 12, 11, 10, 8, 9, 20, 19, 14, 18, 17, 15, 16]] (by decide +kernel) (by decide +kernel) (by decide +kernel) fun K hK => ?_
        simp only [KA, KB, KP, KQ, KM, simprocAttr, KT w, KI, hw.KF, A58, A59, A5a, A5b, A5c, A5d, A5e, A5f, A5g, A5h, KX, Foot.big, A5i, opP, rfoot, refsO, refs, wfoot, A5j, A5k, noisyOk, pairOk, Foot.isQuiet, Foot.apart, Ft.apart, Foot.none, A5l, A5m, A48, A49, A5n, A5o, A5p, A5q, Nat.reduceBEq, htm, t4, t5, hg1, hg2, ho1n, ho2n, g6N, hbr, hnr, hlr1, hlr2, hj0, hjl, acc, act', acd', pe, nrn]
        refine hK _ _ ?_
        clear hK
        clear K
        repeat with_reducible (first | refine E0 ?_ | refine E1 ?_ | refine E2 ?_ | refine E3 ?_ | refine E4 ?_ | refine E5 (by decide) ?_ | refine E6 ?_ | refine E7 ?_ | refine E8 ?_ | refine E9 ?_ | refine Ea ?_ | refine Eb ?_ | refine Ec ?_ | refine Ed ?_)
        refine W_condF (by simp only [KA, KP, KQ, simprocAttr, KT w, KI, hw.KF, htm]) ?_
        repeat with_reducible (first | refine E0 ?_ | refine E1 ?_ | refine E2 ?_ | refine E3 ?_ | refine E4 ?_ | refine E5 (by decide) ?_ | refine E6 ?_ | refine E7 ?_ | refine E8 ?_ | refine E9 ?_ | refine Ea ?_ | refine Eb ?_ | refine Ec ?_ | refine Ed ?_)
        refine W_region fun K hK => ?_
        simp only [KA, KB, KP, KQ, KM, simprocAttr, KT w, KI, hw.KF, htm, t111, e2]
        refine hK _ _ ?_
        clear hK
        clear K
        refine ⟨tr.length - (j + 1), by omega, _, j + 1, rfl, ok6, b6, by rw [St.pushN]; omega, g60, htv6, hgv6, rfl, by omega, ?_⟩
        simp only [KA, KP, KQ, simprocAttr, KT w, KI, hw.KF, htm, t3, t4, t5, t19, t20, t21, t110, Int.natCast_add, A3z]
end Go.Am.R
