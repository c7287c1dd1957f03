/- TAKING IN. -/
import Derived.Test.YtbmfnoaogebjfaaDoorT8
set_option linter.unusedSimpArgs false
set_option linter.unusedVariables false
set_option maxRecDepth 20000
namespace Go.Am.R
open Go.Proofs Go.IntWalk

variable {w : Ways}

theorem MV.frz {es : Nat} {v : AV} {R R' : Rows} {S : St} (h : MV es v R S) (hn : nrmR R = some R') : ∃ l, frz1 S v = some (.vec R', l) := by
  rcases h with ⟨rfl, rfl | rfl⟩ | ⟨o, g, rfl, h2, h3⟩
  · simp [nrmR] at hn; subst hn; exact ⟨[], rfl⟩
  · simp [nrmR] at hn; subst hn; exact ⟨[], rfl⟩
  · refine ⟨[(o, 0 + R.length)], ?_⟩
    simp [frz1, St.rows, h3, hn]
theorem fz_add {sv rv : AV} {A : Ar} {S : St} {R : Rows} {x y : Int} (h1 : MV 10 sv R S) (hR : SlRows A.slots R) (h2 : MV 1 rv (rs A.roots) S) : FZ (.tup [arV A, .int .i64 x, .int .i64 y]) (.tup [.agg [sv, .int .i64 (optI A.free), rv], .int .i64 x, .int .i64 y]) S := by
  obtain ⟨l1, e1⟩ := h1.frz hR.nrm
  obtain ⟨l2, e2⟩ := h2.frz (nrmR_rs A.roots)
  refine ⟨l1 ++ ([] ++ (l2 ++ [])) ++ ([] ++ ([] ++ [])), ?_⟩
  have hi : ∀ n : Int, frz1 S (.int .i64 n) = some (.int .i64 n, []) := fun n => rfl
  simp only [frz, frzLA, frzA, frzL, e1, e2, hi, Option.bind_some, Option.map_some]
  simp [arV, arC]
theorem fz_drop {sv rv : AV} {A : Ar} {S : St} {R : Rows} {x : Int} (h1 : MV 10 sv R S) (hR : SlRows A.slots R) (h2 : MV 1 rv (rs A.roots) S) : FZ (.tup [arV A, .int .i64 x]) (.tup [.agg [sv, .int .i64 (optI A.free), rv], .int .i64 x]) S := by
  obtain ⟨l1, e1⟩ := h1.frz hR.nrm
  obtain ⟨l2, e2⟩ := h2.frz (nrmR_rs A.roots)
  refine ⟨l1 ++ ([] ++ (l2 ++ [])) ++ ([] ++ []), ?_⟩
  have hi : ∀ n : Int, frz1 S (.int .i64 n) = some (.int .i64 n, []) := fun n => rfl
  simp only [frz, frzLA, frzA, frzL, e1, e2, hi, Option.bind_some, Option.map_some]
  simp [arV, arC]

/-- Taking in, and its fault. -/
def addR (A : Ar) (n : Node) : Ar × Int × Int :=
  if 4096 ≤ A.roots.length then (A, 0, 15) else
  match lay n 0 A with
  | none => (A, 0, 22)
  | some (i, B) => (⟨refS B.slots i, B.free, B.roots ++ [some i]⟩, (B.roots.length : Nat), 0)

set_option maxHeartbeats 8000000 in
theorem add12 (hw : Std w) (hkey : w.ext 46 = some (.val keyF)) (h60 : w.ext 60 = some (.push (cloneF 10 128))) (h61 : w.ext 61 = some (.push (cloneF 1 8))) (A : Ar) (n : Node) (hA : Inv A [] []) (c : Int) (hRB : RB c A.slots) (hc0 : 0 ≤ c) (hcn : c + nn n ≤ 1000000000000) (hkl : KL' A.slots) (hrl : A.roots.length ≤ 100000) :
    PC (cfg w) 12 [arV A, n.av] (.tup [arV (addR A n).1, .int .i64 (addR A n).2.1, .int .i64 (addR A n).2.2]) := by
  refine PC_of (args' := [arV A, n.av]) hw.e12 hw.m12 (by simp [nrmA, nrm_arV, nrm, Node.nrm_all]) ?_
  have hz : ∀ (i : Nat) (s : Sl), A.slots[i]? = some s → 0 ≤ s.refs := fun i s hs => by
    by_cases h : s.refs < 0
    · have := (hA.neg i s hs h).2; cases this
    · omega
  have hbuild := build32 hw hkey h60 h61 A hA.apart hz (by have := hA.len; omega) hrl (hA.kb hkl)
  have hrn := rs_len A.roots
  generalize hR : addR A n = R
  unfold addR at hR
  have harv : arV A = .agg [.vec (A.slots.map slCan), .int .i64 (optI A.free), .vec (rs A.roots)] := rfl
  have hxc : n.cells.length = 7 := Node.cells_len n
  have hxt : n.cells.take 7 = n.cells := Node.cells_take n
  have hxd : n.cells.drop 7 = [] := Node.cells_drop n
  refine call_of_W (fn12 w) rfl ?_
  simp only [Tryd.f12, List.length_cons, List.length_nil, Nat.reduceAdd, Nat.reduceSub, List.cons_append, List.nil_append]
  repeat with_reducible (first | apply E0 | apply E1 | apply E2 | apply E3 | apply E4 | refine E5 (by decide) ?_ | apply E6 | apply E7 | apply E8 | apply E9 | apply Ea | apply Eb | apply Ec | apply Ed)
  rw [harv]
  refine W_region fun K hK => ?_
  simp only [KA, KB, KP, KQ, KM, simprocAttr, KT w, KI, hw.KF]
  refine hK _ _ ?_
  clear hK
  clear K
  repeat with_reducible (first | apply E0 | apply E1 | apply E2 | apply E3 | apply E4 | refine E5 (by decide) ?_ | apply E6 | apply E7 | apply E8 | apply E9 | apply Ea | apply Eb | apply Ec | apply Ed)
  have q0 : ((((St.nil.push (.row [.vec (A.slots.map slCan), .int .i64 (optI A.free), .vec (rs A.roots)] false)).push (.row n.cells false)).push (.row [.nils, .int .i64 0, .nils] false))).get 0 = some (.row [.vec (A.slots.map slCan), .int .i64 (optI A.free), .vec (rs A.roots)] false) := rfl
  have q1 : ((((St.nil.push (.row [.vec (A.slots.map slCan), .int .i64 (optI A.free), .vec (rs A.roots)] false)).push (.row n.cells false)).push (.row [.nils, .int .i64 0, .nils] false))).get 1 = some (.row n.cells false) := rfl
  have q2 : ((((St.nil.push (.row [.vec (A.slots.map slCan), .int .i64 (optI A.free), .vec (rs A.roots)] false)).push (.row n.cells false)).push (.row [.nils, .int .i64 0, .nils] false))).get 2 = some (.row [.nils, .int .i64 0, .nils] false) := rfl
  have ok0 : ((((St.nil.push (.row [.vec (A.slots.map slCan), .int .i64 (optI A.free), .vec (rs A.roots)] false)).push (.row n.cells false)).push (.row [.nils, .int .i64 0, .nils] false))).ok := St.ok_push (St.ok_push (St.ok_push St.ok_nil))
  have b0 : ((((St.nil.push (.row [.vec (A.slots.map slCan), .int .i64 (optI A.free), .vec (rs A.roots)] false)).push (.row n.cells false)).push (.row [.nils, .int .i64 0, .nils] false))).base = 0 := rfl
  have n0 : ((((St.nil.push (.row [.vec (A.slots.map slCan), .int .i64 (optI A.free), .vec (rs A.roots)] false)).push (.row n.cells false)).push (.row [.nils, .int .i64 0, .nils] false))).n = 3 := rfl
  generalize (((St.nil.push (.row [.vec (A.slots.map slCan), .int .i64 (optI A.free), .vec (rs A.roots)] false)).push (.row n.cells false)).push (.row [.nils, .int .i64 0, .nils] false)) = S0 at *
  have ln2 : 2 < S0.n := by omega
  have gX : ∀ X, (S0.set 2 X).get 2 = some X := fun X => St.get_sete ok0 ln2
  by_cases h1 : (4096 : Int) ≤ (A.roots.length : Int)
  · rw [if_pos (by omega)] at hR
    subst hR
    refine W_region fun K hK => ?_
    simp only [KA, KB, KP, KQ, KM, simprocAttr, KT w, KI, hw.KF, q0, hrn, h1]
    refine hK _ _ ?_
    clear hK
    clear K
    repeat with_reducible (first | apply E0 | apply E1 | apply E2 | apply E3 | apply E4 | refine E5 (by decide) ?_ | apply E6 | apply E7 | apply E8 | apply E9 | apply Ea | apply Eb | apply Ec | apply Ed)
    refine W_condT (by simp only [KA, KP, KQ, simprocAttr, KT w, KI, hw.KF, h1]) ?_
    repeat with_reducible (first | apply E0 | apply E1 | apply E2 | apply E3 | apply E4 | refine E5 (by decide) ?_ | apply E6 | apply E7 | apply E8 | apply E9 | apply Ea | apply Eb | apply Ec | apply Ed)
    refine W_region fun K hK => ?_
    simp only [KA, KB, KP, KQ, KM, simprocAttr, KT w, KI, hw.KF, q0, q2, ok0, b0, ln2, splice]
    refine hK _ _ ?_
    clear hK
    clear K
    repeat with_reducible (first | apply E0 | apply E1 | apply E2 | apply E3 | apply E4 | refine E5 (by decide) ?_ | apply E6 | apply E7 | apply E8 | apply E9 | apply Ea | apply Eb | apply Ec | apply Ed)
    refine AtEnd_of rfl ?_
    simp only [KA, KP, KQ, simprocAttr, KT w, KI, hw.KF, gX, RS_some, aresults_nil, aresults_tmp, aresults_cell, one]
    exact FZ_tup (by simp [nrmA, arV, arC, nrm, nrmL, nrm_can, nrmR_rs])
  rw [if_neg (by omega)] at hR
  obtain ⟨v, S1, hc1, o, rfl, ho, hBD1, hE1⟩ := hbuild S0 ok0 b0
  have hcall : callF (cfg w) (lim (cfg w)) 32 [.agg [.vec (A.slots.map slCan), .int .i64 (optI A.free), .vec (rs A.roots)]] S0 = some (.ptr o 0, S1) := by
    rw [callF_raw (by exact hw.e32) (by exact hw.m32)]; exact hc1
  have q0' := hE1.get _ _ (by omega) q0
  have q1' := hE1.get _ _ (by omega) q1
  have q2' := hE1.get _ _ (by omega) q2
  have n1 := hE1.n
  obtain ⟨v2, S2, hc2, hK2, hQ2⟩ := lay33 hw hkey (o := o) n 0 A [] c S1 hA hRB hc0 hcn hBD1
  have hcall2 : callF (cfg w) (lim (cfg w)) 33 [.ptr o 0, .agg n.cells, .int .i64 0] S1 = some (v2, S2) := by
    rw [callF_raw (by exact hw.e33) (by exact hw.m33)]; exact hc2
  have fr2 : ∀ q cs, q < 3 → S1.get q = some (.row cs false) → S2.get q = some (.row cs false) := fun q cs hq hg => hK2.get q _ (by omega) (by omega) (fun g es rows e h => by cases h) (fun es c h => by cases h) hg
  have r0 := fr2 0 _ (by omega) q0'
  have r1 := fr2 1 _ (by omega) q1'
  have r2 := fr2 2 _ (by omega) q2'
  have n2 := hK2.n
  refine W_region fun K hK => ?_
  simp only [KA, KB, KP, KQ, KM, simprocAttr, KT w, KI, hw.KF, q0, hrn, h1]
  refine hK _ _ ?_
  clear hK
  clear K
  repeat with_reducible (first | apply E0 | apply E1 | apply E2 | apply E3 | apply E4 | refine E5 (by decide) ?_ | apply E6 | apply E7 | apply E8 | apply E9 | apply Ea | apply Eb | apply Ec | apply Ed)
  refine W_condF (by simp only [KA, KP, KQ, simprocAttr, KT w, KI, hw.KF, h1]) ?_
  repeat with_reducible (first | apply E0 | apply E1 | apply E2 | apply E3 | apply E4 | refine E5 (by decide) ?_ | apply E6 | apply E7 | apply E8 | apply E9 | apply Ea | apply Eb | apply Ec | apply Ed)
  refine W_region fun K hK => ?_
  simp only [KA, KB, KP, KQ, KM, simprocAttr, KT w, KI, hw.KF, q0, hcall]
  refine hK _ _ ?_
  clear hK
  clear K
  repeat with_reducible (first | apply E0 | apply E1 | apply E2 | apply E3 | apply E4 | refine E5 (by decide) ?_ | apply E6 | apply E7 | apply E8 | apply E9 | apply Ea | apply Eb | apply Ec | apply Ed)
  refine W_region fun K hK => ?_
  simp only [KA, KB, KP, KQ, KM, simprocAttr, KT w, KI, hw.KF, q1', hxc, hxt, hxd, hcall2]
  refine hK _ _ ?_
  clear hK
  clear K
  repeat with_reducible (first | apply E0 | apply E1 | apply E2 | apply E3 | apply E4 | refine E5 (by decide) ?_ | apply E6 | apply E7 | apply E8 | apply E9 | apply Ea | apply Eb | apply Ec | apply Ed)
  rcases lay_or n 0 A [] hA with ⟨hl0, -⟩ | ⟨i, B, hl1, hB, hleB, hIsB, hrB, -⟩
  · rw [hl0] at hQ2 hR
    simp only at hR
    subst hR
    obtain ⟨rfl, d1, d2, d3, d4, hful⟩ := hQ2
    have ok2 := hK2.ok
    have b2 : S2.base = 0 := by rw [hK2.base, hE1.base, b0]
    have ln2' : 2 < S2.n := by omega
    have gY : ∀ X, (S2.set 2 X).get 2 = some X := fun X => St.get_sete ok2 ln2'
    refine W_region fun K hK => ?_
    simp only [KA, KB, KP, KQ, KM, simprocAttr, KT w, KI, hw.KF, hful]
    refine hK _ _ ?_
    clear hK
    clear K
    repeat with_reducible (first | apply E0 | apply E1 | apply E2 | apply E3 | apply E4 | refine E5 (by decide) ?_ | apply E6 | apply E7 | apply E8 | apply E9 | apply Ea | apply Eb | apply Ec | apply Ed)
    refine W_condT (by simp only [KA, KP, KQ, simprocAttr, KT w, KI, hw.KF]) ?_
    repeat with_reducible (first | apply E0 | apply E1 | apply E2 | apply E3 | apply E4 | refine E5 (by decide) ?_ | apply E6 | apply E7 | apply E8 | apply E9 | apply Ea | apply Eb | apply Ec | apply Ed)
    refine W_region fun K hK => ?_
    simp only [KA, KB, KP, KQ, KM, simprocAttr, KT w, KI, hw.KF, r0, r2, ok2, b2, ln2', splice]
    refine hK _ _ ?_
    clear hK
    clear K
    repeat with_reducible (first | apply E0 | apply E1 | apply E2 | apply E3 | apply E4 | refine E5 (by decide) ?_ | apply E6 | apply E7 | apply E8 | apply E9 | apply Ea | apply Eb | apply Ec | apply Ed)
    refine AtEnd_of rfl ?_
    simp only [KA, KP, KQ, simprocAttr, KT w, KI, hw.KF, gY, RS_some, aresults_nil, aresults_tmp, aresults_cell, one]
    exact FZ_tup (by simp [nrmA, arV, arC, nrm, nrmL, nrm_can, nrmR_rs])
  rw [hl1] at hQ2 hR
  simp only at hR
  obtain ⟨rfl, hBD2⟩ := hQ2
  have hRB2 := lay_rb n 0 A c i B hc0 hRB hl1
  obtain ⟨s, hs, hsr⟩ := hIsB.used
  have hsb := hRB2 i s hs
  obtain ⟨m5, sv5, rv5, R5, es5, clock5, h5⟩ := hBD2
  have g5 := h5.g
  have ok5 := h5.ok
  have b5 := h5.base
  have on5 := h5.n
  obtain ⟨xrow, hxrow, hxr⟩ := h5.rows.get hs
  obtain ⟨c6, c7, rfl, hc6, hc7⟩ := hxr
  rcases h5.sv with ⟨hR0, -⟩ | ⟨so5, sg5, rfl, hso5, hsg5⟩
  · rw [hR0] at hxrow; simp at hxrow
  have hx1 : (i : Int) < (R5.length : Int) := by have := (List.getElem?_eq_some_iff.1 hxrow).1; omega
  have hx0 : (0 : Int) ≤ (i : Int) := by omega
  have ew : IntKind.i64.wrap (max s.refs 0 + 1) = max s.refs 0 + 1 := i64_in _ (by omega)
  obtain ⟨P5, PK5⟩ := h5.put hso5 hsg5 (x := i) (s' := { s with refs := max s.refs 0 + 1 }) (row' := [.str s.fs.kind, .bool s.fs.named, .str s.fs.field, .int .i64 s.fs.frm, .int .i64 s.fs.to, .int .i64 s.fs.bad, c6, c7, .int .i64 (max s.refs 0 + 1), .int .i64 (optI s.next)])
    ⟨c6, c7, by simp only [slC, show max (max s.refs 0 + 1) 0 = max s.refs 0 + 1 from by omega], hc6, hc7⟩ (h5.mok.refs hs hsr (by omega))
  rw [← ref_set hs] at P5
  refine W_region fun K hK => ?_
  simp only [KA, KB, KP, KQ, KM, simprocAttr, KT w, KI, hw.KF, g5]
  refine hK _ _ ?_
  clear hK
  clear K
  repeat with_reducible (first | apply E0 | apply E1 | apply E2 | apply E3 | apply E4 | refine E5 (by decide) ?_ | apply E6 | apply E7 | apply E8 | apply E9 | apply Ea | apply Eb | apply Ec | apply Ed)
  refine W_condF (by simp only [KA, KP, KQ, simprocAttr, KT w, KI, hw.KF]) ?_
  repeat with_reducible (first | apply E0 | apply E1 | apply E2 | apply E3 | apply E4 | refine E5 (by decide) ?_ | apply E6 | apply E7 | apply E8 | apply E9 | apply Ea | apply Eb | apply Ec | apply Ed)
  refine W_region fun K hK => ?_
  simp only [KA, KB, KP, KQ, KM, simprocAttr, KT w, KI, hw.KF, g5, hsg5, hx0, hx1, hxrow, slC, ew, ok5, b5, hso5, splice]
  refine hK _ _ ?_
  clear hK
  clear K
  repeat with_reducible (first | apply E0 | apply E1 | apply E2 | apply E3 | apply E4 | refine E5 (by decide) ?_ | apply E6 | apply E7 | apply E8 | apply E9 | apply Ea | apply Eb | apply Ec | apply Ed)
  have s2 := PK5.get 2 _ (by omega) (by omega) (fun g es rows e h => by cases h) (fun es c h => by cases h) r2
  have n3 := PK5.n
  generalize S2.set so5 (.seq sg5 10 (R5.set i [.str s.fs.kind, .bool s.fs.named, .str s.fs.field, .int .i64 s.fs.frm, .int .i64 s.fs.to, .int .i64 s.fs.bad, c6, c7, .int .i64 (max s.refs 0 + 1), .int .i64 (optI s.next)]) 0) = S3 at *
  have g6 := P5.g
  have ok6 := P5.ok
  have b6 := P5.base
  have on6 := P5.n
  obtain ⟨v', S4, happ, hmv, ok7, b7, n7, lf7, cl7, fr7⟩ := app_mv (es := 1) (bytes := 8) [.int .i64 (i : Int)] P5.rv ok6 b6 rfl (by simp only; cases B.roots <;> rfl) (by simp only [capOk, rs_len, hrB]; simp; omega)
  have hrs : rs B.roots ++ [[.int .i64 (i : Int)]] = rs (B.roots ++ [some i]) := by simp [rs, optI]
  simp only at hmv g6
  rw [hrs] at hmv
  have g7 := fr7 _ _ on6 (fun g rows e h => by cases h) g6
  have s7 := fr7 2 _ (by omega) (fun g rows e h => by cases h) s2
  have on7 : o < S4.n := by omega
  have ok8 : ∀ X, (S4.set o X).ok := fun X => St.ok_set ok7
  have b8 : ∀ X, (S4.set o X).base = 0 := fun X => by rw [St.setB]; exact b7
  have n8 : ∀ X, (S4.set o X).n = S4.n := fun X => St.setN _ _ _
  have g8 : ∀ X, (S4.set o X).get o = some X := fun X => St.get_sete ok7 on7
  have s8 : ∀ X, (S4.set o X).get 2 = some (.row [.nils, .int .i64 0, .nils] false) := fun X => by rw [St.get_setn on7 (by omega)]; exact s7
  have ln2' : 2 < S4.n := by omega
  have hal := hmv.alen (w := w) (t := 23) (e := 3) (Tk23 w)
  rw [rs_len, List.length_append] at hal
  have e1 : IntKind.i64.wrap (((B.roots.length + [some i].length : Nat) : Int) - 1) = (B.roots.length : Int) := by
    rw [i64_in _ (by simp only [hrB, List.length_cons, List.length_nil]; omega)]; simp
  have hmv0 := hmv
  rcases hmv with ⟨hr0, -⟩ | ⟨ro, rg, rfl, hro, hrg⟩
  · have := congrArg List.length hr0
    rw [rs_len, List.length_append, List.length_nil] at this
    simp at this
  have d3 : (ro == 2) = false := beq_eq_false_iff_ne.2 fun e => by rw [e, s7] at hrg; cases hrg
  have d4 : (2 == ro) = false := beq_eq_false_iff_ne.2 fun e => by rw [← e, s7] at hrg; cases hrg
  refine W_region fun K hK => ?_
  simp only [KA, KB, KP, KQ, KM, reduceCtorEq, ↓reduceIte, Int.reduceLT, Int.reduceLE, Int.reduceAdd, Int.reduceSub, Int.reduceNeg, Int.reduceMul, Int.reduceToNat, Int.reduceEq, Int.reduceNe, Int.reduceGT, Int.reduceGE, Nat.reducePow, Nat.reduceAdd, Nat.reduceSub, Nat.reduceLT, Nat.reduceMul, Nat.reduceDiv, Nat.reduceEqDiff, Nat.reduceLeDiff, KT w, KI, hw.KF, g6, happ, g7, ok7, b7, on7, lf7, cl7, splice]
  refine hK _ _ ?_
  clear hK
  clear K
  repeat with_reducible (first | apply E0 | apply E1 | apply E2 | apply E3 | apply E4 | refine E5 (by decide) ?_ | apply E6 | apply E7 | apply E8 | apply E9 | apply Ea | apply Eb | apply Ec | apply Ed)
  have d1 : (o == 2) = false := beq_eq_false_iff_ne.2 (by omega)
  have d2 : (2 == o) = false := beq_eq_false_iff_ne.2 (by omega)
  refine W_regionD [[], [0], [1, 0], [2, 1, 0], [], [4], [5, 4], [6, 5, 4], [7, 6, 5, 4], [8, 7, 6, 5, 4], [9, 8, 7, 6, 5, 4], [3, 2, 1, 0], [10, 9, 8, 7, 6, 5, 4, 11, 3, 2, 1, 0], [12, 10, 9, 8, 7, 6, 5, 4, 11, 3, 2, 1, 0]] (by decide +kernel) (by decide +kernel) (by decide +kernel) fun K hK => ?_
  simp only [KA, KB, KP, KQ, KM, simprocAttr, KT w, KI, hw.KF, A58, A59, A5a, A5b, A5c, A5d, A5e, A5f, A5g, A5h, KX, Foot.big, A5i, opP, rfoot, refsO, refs, wfoot, A5j, A5k, noisyOk, pairOk, Foot.isQuiet, Foot.apart, Ft.apart, Foot.none, A5l, A5m, A48, A49, A5n, A5o, A5p, A5q, Nat.reduceBEq, g8, s8, hal, e1, d1, d2, d3, d4, A38, Bool.and_self, A2f, ok7, b7, ln2', splice]
  refine hK _ _ ?_
  clear hK
  clear K
  repeat with_reducible (first | apply E0 | apply E1 | apply E2 | apply E3 | apply E4 | refine E5 (by decide) ?_ | apply E6 | apply E7 | apply E8 | apply E9 | apply Ea | apply Eb | apply Ec | apply Ed)
  have gZ : ∀ X Y, ((S4.set o X).set 2 Y).get 2 = some Y := fun X Y => St.get_sete (ok8 X) (by rw [n8]; exact ln2')
  refine AtEnd_of rfl ?_
  simp only [KA, KP, KQ, simprocAttr, KT w, KI, hw.KF, gZ, RS_some, aresults_nil, aresults_tmp, aresults_cell, one]
  subst hR
  have e1' : IntKind.i64.wrap (((B.roots ++ [some i]).length : Int) - 1) = (B.roots.length : Int) := by rw [List.length_append]; exact e1
  rw [e1']
  have fin : ∀ q x, q < S4.n → q ≠ o → q ≠ 2 → S4.get q = some x → ∀ X Y, ((S4.set o X).set 2 Y).get q = some x := fun q x hq h1 h2 hx X Y => by rw [St.get_setn (by rw [n8]; exact ln2') h2, St.get_setn on7 h1]; exact hx
  refine fz_add (R := R5.set i [.str s.fs.kind, .bool s.fs.named, .str s.fs.field, .int .i64 s.fs.frm, .int .i64 s.fs.to, .int .i64 s.fs.bad, c6, c7, .int .i64 (max s.refs 0 + 1), .int .i64 (optI s.next)]) (A := ⟨refS B.slots i, B.free, B.roots ++ [some i]⟩) ?_ P5.rows ?_
  · rcases P5.sv with ⟨h0, h1⟩ | ⟨so, sg, e1, e2, e3⟩
    · exact .inl ⟨h0, h1⟩
    · refine .inr ⟨so, sg, e1, by simp only [St.setN]; omega, fin so _ (by omega) (fun e => ?_) (fun e => ?_) (fr7 so _ e2 (fun g rows e h => by cases h) e3) _ _⟩
      · rw [e, g6] at e3; cases e3
      · rw [e, s2] at e3; cases e3
  · exact .inr ⟨ro, rg, by rw [rs_len], by simp only [St.setN]; omega, fin ro _ hro (fun e => by rw [e, g7] at hrg; cases hrg) (fun e => by rw [e, s7] at hrg; cases hrg) hrg _ _⟩
end Go.Am.R
