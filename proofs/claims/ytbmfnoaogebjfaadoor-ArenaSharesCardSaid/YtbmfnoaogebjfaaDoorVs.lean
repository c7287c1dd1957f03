/- WHAT root AND within COME TO, FOR THE KIT's WALK. -/
import Derived.Test.YtbmfnoaogebjfaaDoorVw
import Derived.Test.YtbmfnoaogebjfaaDoorK3
import Derived.Test.YtbmfnoaogebjfaaDoorTz
import Derived.Maps.RangeWalk
import Derived.WalkKit
import Derived.OwnWalk
import Derived.WalkSpells
set_option linter.unusedVariables false
set_option linter.unusedSimpArgs false
namespace Go.Am.R
open Go.Proofs Go.RowKit Go.MapKept Go.ChangeMaps

theorem cell_below {w w' : World} (hb : Below w.heap.size w w') {b f : Nat} {u : Value} (h : w.cell? ⟨b, f, none⟩ = some u) : w'.cell? ⟨b, f, none⟩ = some u :=
  (World.cell?_of_block (hb.block b (World.block_lt_of_cell? w _ h))).trans h
theorem rep_later {w w' : World} {A : Ar} {v : Value} (h : Rep (Gh.of w) w (arV A) v) (hb : Below w.heap.size w w') : Rep (Gh.of w') w' (arV A) v :=
  rep_nrm h (nrm_arV A) fun b f u hc => ⟨by obtain ⟨u', hu⟩ := hc.1; exact ⟨u', cell_below hb hu⟩, cell_below hb hc.2⟩
theorem pin_later [Pin] {w w' : World} (h : PinW w) (hb : Below w.heap.size w w') : PinW w' := fun b x hx => by
  have h1 := h b x hx
  have : b < w.heap.size := by
    rcases Nat.lt_or_ge b w.heap.size with h2 | h2
    · exact h2
    · rw [Array.getElem?_eq_none h2] at h1; cases h1
  rw [hb.block b this]; exact h1
theorem root_calls [Pin] (hc : CfgOk Tryd.prog (cfg vw)) (A : Ar) (h : Int) (hl : A.roots.length ≤ 1000000000) (w : World) (hp : PinW w) {v : Value} (hv : Rep (Gh.of w) w (arV A) v) :
    Calls Tryd.prog 37 #[v, .int .i64 h] w fun e w' => e = .returned (.tuple #[.int .i64 (rootR A h).1, .bool (rootR A h).2]) ∧ Below w.heap.size w w' := by
  have hpc := root37 stdV A h hl
  have := ((callF_ok hc (fun f args S r S' h => lim_sound hc h) (hpc St.nil) (Gh.of w) w #[v, .int .i64 h] (wrel_of w hp) (RepL.cons hv (RepL.cons (.int _ _) (RepL.nil _ _)))).2)
  refine this.mono fun e w' hq => ?_
  obtain ⟨G', u, rfl, _, hst, hr⟩ := hq
  refine ⟨?_, below_of hst⟩
  cases hr with
  | tup cs vs us hn hv hr =>
    have h0 := hv 0 (.int .i64 (rootR A h).1) rfl
    have h1 := hv 1 (.bool (rootR A h).2) rfl
    rw [rep_int (hr 0 _ rfl)] at h0
    rw [rep_bool (hr 1 _ rfl)] at h1
    have hn' : vs.size = 2 := by simpa using hn
    congr 2
    refine Array.ext_getElem? fun j => ?_
    rcases j with _ | _ | j
    · exact h0
    · exact h1
    · rw [Array.getElem?_eq_none (by omega), Array.getElem?_eq_none (by simp)]
/-- The map of a row of numbers. -/
def MesOf (V : List Nat) (mes : Array MapEntry) : Prop := mes.size = V.length ∧ ∀ (j q : Nat), V[j]? = some q → mes[j]? = some ⟨.int .i64 (q : Int), .bool true, j⟩
theorem within_calls [Pin] (hc : CfgOk Tryd.prog (cfg vw)) (A : Ar) (hl : A.slots.length ≤ 100000) (hkb : KidB A.slots) {i : Nat} {t : Tr} (hIs : Is A.slots i t) (w : World) (hp : PinW w) {v : Value} (hv : Rep (Gh.of w) w (arV A) v) :
    Calls Tryd.prog 44 #[v, .int .i64 (i : Nat)] w fun e w' => Below w.heap.size w w' ∧ ∃ (blk : Nat) (mes : Array MapEntry) (V : List Nat), e = .returned (.map (some blk)) ∧ w'.heap[blk]? = some (.map mes V.length) ∧ w.heap.size ≤ blk ∧ MesOf V mes ∧ Met A.slots [] i V := by
  obtain ⟨r, S', hcall, m, V, rfl, hg, hM⟩ := within44 stdV A hl hkb hIs St.nil St.ok_nil rfl
  refine (lim_sound hc hcall (Gh.of w) w #[v, .int .i64 (i : Nat)] (wrel_of w hp) (RepL.cons hv (RepL.cons (.int _ _) (RepL.nil _ _)))).2.mono fun e w' hq => ?_
  obtain ⟨G', u, rfl, hW, hst, hr⟩ := hq
  refine ⟨below_of hst, ?_⟩
  cases hr with
  | map _ b hb =>
    obtain ⟨b', hb', mes, h1, h2, h3⟩ := hW.obj m _ hg
    have hbb : b' = b := hW.fblk _ _ _ hb' hb
    subst hbb
    refine ⟨b', mes, V, rfl, h1, ?_, ⟨by rw [h2]; simp [ve], fun j q hj => ?_⟩, hM⟩
    · rcases hst.fresh m b' ⟨_, hg, hb'⟩ with ⟨o', a, ha, _⟩ | h
      · rw [St.nil_get] at ha; cases ha
      · exact h
    · obtain ⟨me, k1, k2, k3, k4⟩ := h3 j (.int .i64 (q : Int), .bool true, j) (by simp [ve, List.getElem?_zipIdx, hj])
      rw [k1]
      congr 1
      cases me
      simp only at k2 k3 k4
      rw [rep_int k2, rep_bool k3, k4]
end Go.Am.R

/- arena.Shared BY THE KIT's WALK. -/
set_option linter.unusedVariables false
set_option linter.unusedSimpArgs false
namespace Go.Am.R
open Go.Proofs Go.RowKit Go.MapKept Go.ChangeMaps Classical

structure NextW (w : World) (r bm since clock : Nat) (seen : Array Nat) (es : Array MapEntry) (e : MapEntry) (w2 : World) : Prop where
  mem : e ∈ (leftOf es seen).toList
  world : ∃ w1, (w1 = w ∨ w1 = w.drew) ∧ w2 = setBlock w1 r (.mapIter (some bm) since (seen.push e.born) clock)

theorem wpList_next_raw {P : Program} (w : World) {ops : Array Oper} {rest : List Oper} {o : Oper} {a : Act} {Q : Exit → Act → World → Prop} (hg : o.guard = none) (it : Operand) (hop : o.op = Op.next it false) (r bm since c0 : Nat) (seen : Array Nat) (es : Array MapEntry) (clock : Nat)
    (hit : a.eval it = .pointer (some ⟨r, 0, none⟩)) (hr : w.heap[r]? = some (.mapIter (some bm) since seen c0)) (hb : w.heap[bm]? = some (.map es clock)) (hold : ∀ x ∈ es.toList, x.born < since) (hsc : since ≤ c0)
    (hDone : (leftOf es seen).size = 0 → wpList P ops Q rest (a.put o.dst (.tuple #[.bool false])) w)
    (hMore : ∀ e w2, NextW w r bm since clock seen es e w2 → wpList P ops Q rest (a.put o.dst (.tuple #[.bool true, e.key, e.val])) w2) :
    wpList P ops Q (o :: rest) a w := by
  refine wpList_plain hg fun K' hK' => ?_
  unfold Oper.wp
  rcases run_next_at (P := P) w o.type r bm since c0 seen es clock hr hb hold hsc with ⟨h0, hrun⟩ | ⟨e, he, w1, hw, hrun⟩
  · simp [execOp, hop, hit, hrun, Result.andThen]
    exact hK' _ _ (hDone h0)
  · simp [execOp, hop, hit, hrun, Result.andThen]
    exact hK' _ _ (hMore e _ ⟨he, w1, hw, rfl⟩)

theorem findNow_none {n : Int} : ∀ {l : List MapEntry} {i : Nat}, (∀ x ∈ l, ∃ m : Int, x.key = .int .i64 m ∧ m ≠ n) → Instr.findNow (.int .i64) (.int .i64 n) l i = some none
  | [], i, _ => rfl
  | x :: l, i, h => by
    obtain ⟨m, hm, hne⟩ := h x List.mem_cons_self
    have ih := findNow_none (n := n) (l := l) (i := i + 1) fun y hy => h y (List.mem_cons_of_mem _ hy)
    have hb : (n == m) = false := beq_eq_false_iff_ne.2 (Ne.symm hne)
    simp [Instr.findNow, Instr.sameNow, hm, ih, hb]
theorem findNow_some {n : Int} {v : Value} : ∀ {l : List MapEntry} {i : Nat}, (∀ x ∈ l, ∃ m : Int, x.key = .int .i64 m ∧ (m = n → x.val = v)) → (∃ x ∈ l, x.key = .int .i64 n) → ∃ j, Instr.findNow (.int .i64) (.int .i64 n) l i = some (some (j, v))
  | [], i, _, h => by obtain ⟨x, hx, _⟩ := h; simp at hx
  | x :: l, i, h, hx => by
    obtain ⟨m, hm, hv⟩ := h x List.mem_cons_self
    by_cases e : m = n
    · subst e
      exact ⟨i, by simp [Instr.findNow, Instr.sameNow, hm, hv rfl]⟩
    · obtain ⟨y, hy, hk⟩ := hx
      rcases List.mem_cons.1 hy with rfl | hy
      · rw [hm] at hk; cases hk; exact absurd rfl e
      · obtain ⟨j, hj⟩ := findNow_some (n := n) (v := v) (l := l) (i := i + 1) (fun z hz => h z (List.mem_cons_of_mem _ hz)) ⟨y, hy, hk⟩
        refine ⟨j, ?_⟩
        have hb : (n == m) = false := beq_eq_false_iff_ne.2 (Ne.symm e)
        simp [Instr.findNow, Instr.sameNow, hm, hj, hb]

theorem look_at {P : Program} {w : World} {mty kt et : TypeId} {d : TypeDesc} {r clock j : Nat} {key v : Value} {es : Array MapEntry} (hm : P.underlying mty = some (.map kt et)) (hd : P.underlying kt = some d) (hk : MapKept.IsKey d key) (hb : w.heap[r]? = some (.map es clock))
    (hf : Instr.findNow d key es.toList 0 = some (some (j, v))) : (Instr.lookup mty (.map (some r)) key false).run P w = .ok v w := by
  have hc : ∀ b, (Instr.checkKey b 10000 kt key).run P w = .ok () w := fun b => MapKept.run_checkKey (k := key) hd hk b 9999
  simp [Instr.lookup, run_underlying hm, MapKept.run_getObj_map hb, hc, MapKept.run_findKey hd hf, Result.andThen]


theorem look_no {w : World} {r clock : Nat} {n : Int} {es : Array MapEntry} (hb : w.heap[r]? = some (.map es clock)) (hf : Instr.findNow (.int .i64) (.int .i64 n) es.toList 0 = some none) :
    (Instr.lookup 76 (.map (some r)) (.int .i64 n) false).run Tryd.prog w = .ok (.bool false) w := by
  have hc : ∀ b, (Instr.checkKey b 10000 3 (.int .i64 n)).run Tryd.prog w = .ok () w := fun b => MapKept.run_checkKey (k := .int .i64 n) Tryd.underlying3 (by simp [MapKept.IsKey]) b 9999
  simp [Instr.lookup, run_underlying Tryd.underlying76, MapKept.run_getObj_map hb, hc, MapKept.run_findKey Tryd.underlying3 hf, Result.andThen, Tryd.zeroValue4]
theorem next_facts {wr w2 : World} {I k1 since clock : Nat} {seen : Array Nat} {mes : Array MapEntry} {e : MapEntry} {B : Nat} {w : World} (h : NextW wr I k1 since clock seen mes e w2) (hI : I < wr.heap.size) (hB : Below B w wr) (hBI : B ≤ I) :
    w2.heap[I]? = some (.mapIter (some k1) since (seen.push e.born) clock) ∧ (∀ k, k ≠ I → w2.heap[k]? = wr.heap[k]?) ∧ Below B w w2 := by
  obtain ⟨_, w1, hw, rfl⟩ := h
  have h1 : w1.heap = wr.heap := by rcases hw with rfl | rfl <;> rfl
  have k2 : ∀ k, k ≠ I → (setBlock w1 I (.mapIter (some k1) since (seen.push e.born) clock)).heap[k]? = wr.heap[k]? := fun k hk => by
    simp only [setBlock, h1]
    exact Array.getElem?_setIfInBounds_ne (Ne.symm hk)
  refine ⟨by simp [setBlock, h1, hI], k2, ⟨?_, ?_, ?_, by simp [setBlock, h1]; exact hB.size, fun k hk => by rw [k2 k (by omega)]; exact hB.block k hk⟩⟩
  · rcases hw with rfl | rfl <;> exact hB.os
  · rcases hw with rfl | rfl <;> exact hB.tape
  · rcases hw with rfl | rfl <;> exact hB.output
theorem left_mem {mes : Array MapEntry} {seen : Array Nat} {e : MapEntry} (h : e ∈ (leftOf mes seen).toList) : e ∈ mes.toList ∧ seen.contains e.born = false := by
  unfold leftOf at h
  simp at h
  exact ⟨by simpa using h.1, by simpa using h.2⟩
theorem left_none {mes : Array MapEntry} {seen : Array Nat} (h : (leftOf mes seen).size = 0) : ∀ e ∈ mes.toList, seen.contains e.born = true := by
  intro e he
  have h0 : leftOf mes seen = #[] := Array.eq_empty_of_size_eq_zero h
  unfold leftOf at h0
  rw [Array.filter_eq_empty_iff] at h0
  have := h0 e (by simpa using he)
  simpa using this
theorem MesOf.mem {V : List Nat} {mes : Array MapEntry} (h : MesOf V mes) {e : MapEntry} (he : e ∈ mes.toList) : ∃ (j q : Nat), V[j]? = some q ∧ e = ⟨.int .i64 (q : Int), .bool true, j⟩ := by
  obtain ⟨j, hj⟩ := List.mem_iff_getElem?.1 he
  have hjl := (List.getElem?_eq_some_iff.1 hj).1
  rw [Array.length_toList, h.1] at hjl
  refine ⟨j, V[j], List.getElem?_eq_getElem hjl, ?_⟩
  have := h.2 j _ (List.getElem?_eq_getElem hjl)
  rw [← Array.getElem?_toList, hj] at this
  cases this; rfl
theorem MesOf.nodup {V : List Nat} {mes : Array MapEntry} (h : MesOf V mes) : (mes.toList.map (·.born)).Nodup := by
  have : mes.toList.map (·.born) = List.range V.length := by
    refine List.ext_getElem? fun j => ?_
    by_cases hj : j < V.length
    · have := h.2 j _ (List.getElem?_eq_getElem hj)
      rw [List.getElem?_map, Array.getElem?_toList, this]
      simp [hj]
    · rw [List.getElem?_eq_none (by rw [List.length_map, Array.length_toList, h.1]; omega), List.getElem?_eq_none (by simp; omega)]
  rw [this]; exact List.nodup_range
theorem MesOf.born {V : List Nat} {mes : Array MapEntry} (h : MesOf V mes) : ∀ x ∈ mes.toList, x.born < V.length := fun x hx => by
  obtain ⟨j, q, h1, rfl⟩ := h.mem hx
  exact (List.getElem?_eq_some_iff.1 h1).1
theorem MesOf.find {V : List Nat} {mes : Array MapEntry} (h : MesOf V mes) (q : Nat) :
    (q ∈ V → ∃ j, Instr.findNow (.int .i64) (.int .i64 (q : Int)) mes.toList 0 = some (some (j, .bool true))) ∧ (q ∉ V → Instr.findNow (.int .i64) (.int .i64 (q : Int)) mes.toList 0 = some none) := by
  refine ⟨fun hq => findNow_some (fun x hx => ?_) ?_, fun hq => findNow_none fun x hx => ?_⟩
  · obtain ⟨j, k, h1, rfl⟩ := h.mem hx
    exact ⟨_, rfl, fun _ => rfl⟩
  · obtain ⟨j, hj⟩ := List.mem_iff_getElem?.1 hq
    exact ⟨_, by rw [List.mem_iff_getElem?]; exact ⟨j, by rw [Array.getElem?_toList]; exact h.2 j q hj⟩, rfl⟩
  · obtain ⟨j, k, h1, rfl⟩ := h.mem hx
    refine ⟨_, rfl, fun e => hq ?_⟩
    have : k = q := by omega
    subst this
    exact List.mem_of_getElem? h1
/-- How many of those that came are in the other one. -/
noncomputable def cs (V1 V2 : List Nat) (seen : Array Nat) : Nat := seen.toList.countP fun j => decide (V1.getD j 0 ∈ V2)
theorem cs_push (V1 V2 : List Nat) (seen : Array Nat) {j q : Nat} (h : V1[j]? = some q) : cs V1 V2 (seen.push j) = cs V1 V2 seen + (if q ∈ V2 then 1 else 0) := by
  simp [cs, List.countP_append, h, List.countP_cons]
theorem cs_all (V1 V2 : List Nat) (seen : Array Nat) (hn : seen.toList.Nodup) (hl : ∀ j ∈ seen.toList, j < V1.length) (hall : ∀ j, j < V1.length → j ∈ seen.toList) : cs V1 V2 seen = V1.countP fun q => decide (q ∈ V2) := by
  have h1 : seen.toList.Perm (List.range V1.length) := by
    rw [List.perm_ext_iff_of_nodup hn List.nodup_range]
    intro a
    rw [List.mem_range]
    exact ⟨hl a, hall a⟩
  have h2 : V1.countP (fun q => decide (q ∈ V2)) = (List.range V1.length).countP fun j => decide (V1.getD j 0 ∈ V2) := by
    have : V1 = (List.range V1.length).map fun j => V1.getD j 0 := by
      refine List.ext_getElem? fun j => ?_
      by_cases hj : j < V1.length
      · simp [hj, List.getD, List.getElem?_eq_getElem hj]
      · rw [List.getElem?_eq_none (by omega), List.getElem?_eq_none (by simp; omega)]
    conv => lhs; rw [this]
    rw [List.countP_map]
    rfl
  rw [cs, h1.countP_eq, h2]
end Go.Am.R

/- arena.Shared BY THE KIT's WALK: the walk. -/
set_option linter.unusedVariables false
set_option linter.unusedSimpArgs false
namespace Go.Am.R
open Go.Proofs Go.RowKit Go.MapKept Go.ChangeMaps

set_option maxHeartbeats 4000000 in
set_option maxRecDepth 1000000 in
theorem shared_walk [Pin] (hc : CfgOk Tryd.prog (cfg vw)) (A : Ar) (hl : A.slots.length ≤ 100000) (hrl : A.roots.length ≤ 100000) (hkb : KidB A.slots) (g h : Int)
    (htr : ∀ (q : Int) , (rootR A q).2 = true → ∃ (x : Nat) (t : Tr), (rootR A q).1 = (x : Int) ∧ Is A.slots x t)
    (hlen : ∀ (x : Nat) (t : Tr) (V : List Nat), Is A.slots x t → Met A.slots [] x V → V.length ≤ 100000) (w : World) (hp : PinW w) {vs : Array Value} (hv : Rep (Gh.of w) w (arV A) (.agg vs)) (c0 c1 c2 : Value) (hvs : vs = #[c0, c1, c2]) :
    Calls Tryd.prog 21 #[.agg #[c0, c1, c2], .int .i64 g, .int .i64 h] w fun e w' => Below w.heap.size w w' ∧
      (((rootR A g).2 = false ∨ (rootR A h).2 = false) ∧ e = .returned (.int .i64 0) ∨
       ∃ (x y : Nat) (V1 V2 : List Nat), (rootR A g) = ((x : Int), true) ∧ (rootR A h) = ((y : Int), true) ∧ Met A.slots [] x V1 ∧ Met A.slots [] y V2 ∧ e = .returned (.int .i64 ((V1.countP fun q => decide (q ∈ V2) : Nat) : Int))) := by
  subst hvs
  have b1 := (Below.refl _ w).alloc (Nat.le_refl _) (.cells #[c0, c1, c2] 25)
  have hv1 := rep_later hv b1
  have hp1 := pin_later hp b1
  have hA1 := heap_alloc_new w (.cells #[c0, c1, c2] 25)
  go_enter Tryd.func21, Tryd.ntmps21
  go_wp2_with (go_at_call 37; refine (root_calls hc A g (by omega) _ hp1 hv1).mono ?_)
  rintro e w1 ⟨rfl, b2⟩
  have hv2 := rep_later hv1 b2
  have hp2 := pin_later hp1 b2
  have hN1 : w.heap.size < (w.alloc (.cells #[c0, c1, c2] 25)).heap.size := by simp
  have hA2 := (b2.block _ hN1).trans hA1
  have hb2 := b1.trans (b2.mono b1.size)
  have d0 : w1.cell? ⟨w.heap.size, 0, none⟩ = some c0 := Joins.cell_of_block hA2 0
  have d1 : w1.cell? ⟨w.heap.size, 1, none⟩ = some c1 := Joins.cell_of_block hA2 1
  have d2 : w1.cell? ⟨w.heap.size, 2, none⟩ = some c2 := Joins.cell_of_block hA2 2
  have hN2 : w.heap.size < w1.heap.size := (Array.getElem?_eq_some_iff.1 hA2).1
  go_wp2_with (go_at_call 37; refine (root_calls hc A h (by omega) _ hp2 hv2).mono ?_)
  rintro e w2 ⟨rfl, b3⟩
  clear d0 d1 d2
  have hv3 := rep_later hv2 b3
  have hp3 := pin_later hp2 b3
  have hA3 := (b3.block _ hN2).trans hA2
  have hb3 := hb2.trans (b3.mono hb2.size)
  have d0 : w2.cell? ⟨w.heap.size, 0, none⟩ = some c0 := Joins.cell_of_block hA3 0
  have d1 : w2.cell? ⟨w.heap.size, 1, none⟩ = some c1 := Joins.cell_of_block hA3 1
  have d2 : w2.cell? ⟨w.heap.size, 2, none⟩ = some c2 := Joins.cell_of_block hA3 2
  have hN3 : w.heap.size < w2.heap.size := (Array.getElem?_eq_some_iff.1 hA3).1
  obtain ⟨gx, bx, hgx⟩ : ∃ gx bx, rootR A g = (gx, bx) := ⟨_, _, rfl⟩
  obtain ⟨hy, by_, hhy⟩ : ∃ hy by_, rootR A h = (hy, by_) := ⟨_, _, rfl⟩
  have htx := htr g
  have hty := htr h
  rw [hgx] at htx
  rw [hhy] at hty
  simp only [hgx, hhy]
  clear hv hv1 hv2 hp hp1 hp2 hA1 hA2 b1 b2 b3 hb2 htr
  cases bx with
  | false =>
    go_wp2
    go_ret
    exact ⟨hb3, rfl⟩
  | true =>
  cases by_ with
  | false =>
    go_wp2
    go_ret
    exact ⟨hb3, rfl⟩
  | true =>
    obtain ⟨x, tx, hx1, hx2⟩ := htx rfl
    obtain ⟨y, ty, hy1, hy2⟩ := hty rfl
    simp only at hx1 hy1
    subst hx1 hy1
    clear htx hty
    go_wp2_with (go_at_call 44; refine (within_calls hc A hl hkb hy2 _ hp3 hv3).mono ?_)
    rintro e w3 ⟨b4, k2, mes2, V2, rfl, hm2, hk2, hM2, hV2⟩
    clear d0 d1 d2
    have hv4 := rep_later hv3 b4
    have hp4 := pin_later hp3 b4
    have hA4 := (b4.block _ hN3).trans hA3
    have hb4 := hb3.trans (b4.mono hb3.size)
    have d0 : w3.cell? ⟨w.heap.size, 0, none⟩ = some c0 := Joins.cell_of_block hA4 0
    have d1 : w3.cell? ⟨w.heap.size, 1, none⟩ = some c1 := Joins.cell_of_block hA4 1
    have d2 : w3.cell? ⟨w.heap.size, 2, none⟩ = some c2 := Joins.cell_of_block hA4 2
    have hN4 : k2 < w3.heap.size := (Array.getElem?_eq_some_iff.1 hm2).1
    go_wp2_with (go_at_call 44; refine (within_calls hc A hl hkb hx2 _ hp4 hv4).mono ?_)
    rintro e w4 ⟨b5, k1, mes1, V1, rfl, hm1, hk1, hM1, hV1⟩
    clear d0 d1 d2
    have hm2' := (b5.block _ hN4).trans hm2
    have hb5 := hb4.trans (b5.mono hb4.size)
    have hN5 : k1 < w4.heap.size := (Array.getElem?_eq_some_iff.1 hm1).1
    have hl1 := hlen x tx V1 hx2 hV1
    have hrg : (Instr.range 76 (.map (some k1))).run Tryd.prog w4 = .ok (.pointer (some ⟨w4.heap.size, 0, none⟩)) (w4.alloc (.mapIter (some k1) V1.length #[] V1.length)) :=
      run_range_map (P := Tryd.prog) w4 76 3 4 k1 mes1 V1.length Tryd.underlying76 hm1
    clear hv3 hv4 hp3 hp4 hA3 hA4 b4 b5 hb3 hb4
    go_wp2
    clear hrg
    have hI := heap_alloc_new w4 (.mapIter (some k1) V1.length #[] V1.length)
    have hm1' : (w4.alloc (.mapIter (some k1) V1.length #[] V1.length)).heap[k1]? = some (.map mes1 V1.length) := by rw [heap_alloc_old _ _ _ hN5]; exact hm1
    have hm2'' : (w4.alloc (.mapIter (some k1) V1.length #[] V1.length)).heap[k2]? = some (.map mes2 V2.length) := by rw [heap_alloc_old _ _ _ ((Array.getElem?_eq_some_iff.1 hm2').1)]; exact hm2'
    have hb6 := hb5.alloc hb5.size (.mapIter (some k1) V1.length #[] V1.length)
    have hIw : w.heap.size ≤ w4.heap.size := hb5.size
    have hI1 : k1 ≠ w4.heap.size := by omega
    have hI2 : k2 ≠ w4.heap.size := by have := (Array.getElem?_eq_some_iff.1 hm2').1; omega
    generalize w4.alloc (.mapIter (some k1) V1.length #[] V1.length) = w5 at hI hm1' hm2'' hb6 ⊢
    generalize w4.heap.size = I at hI hIw hI1 hI2 ⊢
    clear hm1 hm2 hm2' hb5 hN4 hN5 hk2 hk1
    go_loopw [11] (fun v wr => ∃ seen : Array Nat, v = .int .i64 ((cs V1 V2 seen : Nat) : Int) ∧ wr.heap[I]? = some (.mapIter (some k1) V1.length seen V1.length) ∧ wr.heap[k1]? = some (.map mes1 V1.length) ∧ wr.heap[k2]? = some (.map mes2 V2.length) ∧ Below w.heap.size w wr ∧ seen.toList.Nodup ∧ ∀ j ∈ seen.toList, j < V1.length) (fun _ wr => V1.length - (match wr.heap[I]? with | some (.mapIter _ _ seen _) => seen.size | _ => 0))
    case atStart =>
      exact ⟨#[], by simp [cs], hI, hm1', hm2'', hb6, by simp, by simp⟩
    case round =>
      obtain ⟨seen, rfl, hIr, h1r, h2r, hBr, hnd, hlt⟩ := hrel
      have hseen : seen.size ≤ V1.length := by
        have := nodup_len seen.toList (List.range V1.length) hnd fun j hj => by rw [List.mem_range]; exact hlt j hj
        simpa using this
      have hcs : cs V1 V2 seen ≤ 100000 := by
        have : cs V1 V2 seen ≤ seen.toList.length := List.countP_le_length
        rw [Array.length_toList] at this
        omega
      go_wp2_with (first
        | (at_next; refine wpList_next_raw _ rfl _ rfl I k1 V1.length V1.length seen mes1 V1.length rfl hIr h1r hM1.born (Nat.le_refl _) ?_ ?_)
        | go_in)
      · intro hdone
        have hall := left_none (by rw [hdone]; rfl)
        have hfin := cs_all V1 V2 seen hnd hlt fun j hj => by
          have := hM1.2 j _ (List.getElem?_eq_getElem hj)
          have := hall _ (by rw [List.mem_iff_getElem?]; exact ⟨j, by rw [Array.getElem?_toList]; exact this⟩)
          simpa using this
        clear hall hdone
        rw [hfin]
        go_wp2
        go_ret
        exact ⟨hBr, .inr ⟨x, y, V1, V2, hgx, hhy, hV1, hV2, rfl⟩⟩
      · intro e w6 hnx
        obtain ⟨hmem, hns⟩ := left_mem hnx.mem
        obtain ⟨hI6, hk6, hB6⟩ := next_facts hnx (Array.getElem?_eq_some_iff.1 hIr).1 hBr hIw
        obtain ⟨j, q, hjq, rfl⟩ := hM1.mem hmem
        have h16 := (hk6 k1 hI1).trans h1r
        have h26 := (hk6 k2 hI2).trans h2r
        have hent := run_entry_at (P := Tryd.prog) w6 I k1 V1.length seen mes1 V1.length _ hI6 h16 hmem hM1.nodup
        have hjl := (List.getElem?_eq_some_iff.1 hjq).1
        have hns' : j ∉ seen.toList := fun hh => by
          have : seen.contains j = true := by simpa using hh
          rw [this] at hns; cases hns
        have hcp := cs_push V1 V2 seen hjq
        have hnd' : (seen.push j).toList.Nodup := by
          rw [Array.toList_push, List.nodup_append]
          exact ⟨hnd, by simp, fun a ha b hb => by rw [List.mem_singleton] at hb; subst hb; intro e; subst e; exact hns' ha⟩
        have hlt' : ∀ i ∈ (seen.push j).toList, i < V1.length := fun i hi => by
          rw [Array.toList_push] at hi
          rcases List.mem_append.1 hi with h | h
          · exact hlt i h
          · rw [List.mem_singleton] at h; subst h; exact hjl
        have hsz : seen.size < V1.length := by
          have := nodup_len (seen.push j).toList (List.range V1.length) hnd' fun i hi => by rw [List.mem_range]; exact hlt' i hi
          simp at this; omega
        clear hnx hmem hns hk6 h1r h2r hBr hm1' hm2'' hb6 hI
        by_cases hq : q ∈ V2
        · obtain ⟨jj, hf⟩ := (hM2.find q).1 hq
          have hlk := look_at (P := Tryd.prog) (w := w6) (mty := 76) (r := k2) (clock := V2.length) Tryd.underlying76 Tryd.underlying3 (by simp [MapKept.IsKey]) h26 hf
          rw [if_pos hq] at hcp
          simp only at hent
          go_wp2
          refine ⟨⟨seen.push j, by rw [hcp]; simp, hI6, h16, h26, hB6, hnd', hlt'⟩, ?_⟩
          rw [hI6, hIr]
          simp
          omega
        · have hlk := look_no (w := w6) (r := k2) (clock := V2.length) h26 ((hM2.find q).2 hq)
          rw [if_neg hq] at hcp
          simp only at hent
          go_wp2
          refine ⟨⟨seen.push j, by rw [hcp]; simp, hI6, h16, h26, hB6, hnd', hlt'⟩, ?_⟩
          rw [hI6, hIr]
          simp
          omega
end Go.Am.R

/- A TREE TAKEN IN TWICE, A TREE MOVED: PLAINLY. -/
set_option linter.unusedSimpArgs false
set_option linter.unusedVariables false
namespace Go.Am.R
open Classical

/-! ### Counting what is within two slots -/
theorem rch_is {S : List Sl} {x j : Nat} {t : Tr} (hi : Is S x t) (h : Rch S x j) : ∃ t', Is S j t' := by
  induction h generalizing t with
  | refl => exact ⟨t, hi⟩
  | step hs hk h ih =>
    obtain ⟨fs, ts⟩ := t
    rw [Is] at hi
    obtain ⟨s', h1, _, _, h4⟩ := hi
    rw [hs] at h1; cases h1
    obtain ⟨t', _, ht'⟩ := isL_mem ts _ h4 _ hk
    exact ih ht'
theorem rch_lt {S : List Sl} {x j : Nat} {t : Tr} (hi : Is S x t) (h : Rch S x j) : j < S.length := by
  obtain ⟨t', ht'⟩ := rch_is hi h
  obtain ⟨s, h1, _⟩ := ht'.used
  exact (List.getElem?_eq_some_iff.1 h1).1
/-- How many slots are within both. -/
noncomputable def both (S : List Sl) (x y : Nat) : Nat := (List.range S.length).countP fun j => decide (Rch S x j ∧ Rch S y j)
theorem nodup_countP {p q : Nat → Prop} [DecidablePred p] [DecidablePred q] (L M : List Nat) (hL : L.Nodup) (h : ∀ x ∈ L, p x → x ∈ M ∧ q x) : (L.countP fun x => decide (p x)) ≤ M.countP fun x => decide (q x) := by
  rw [List.countP_eq_length_filter, List.countP_eq_length_filter]
  refine nodup_len _ _ (List.Pairwise.filter _ hL) fun x hx => ?_
  rw [List.mem_filter] at hx ⊢
  obtain ⟨h1, h2⟩ := h x hx.1 (by simpa using hx.2)
  exact ⟨h1, by simpa using h2⟩
theorem met_both {S : List Sl} {x y : Nat} {t : Tr} (hi : Is S x t) {V1 V2 : List Nat} (h1 : Met S [] x V1) (h2 : Met S [] y V2) : (V1.countP fun q => decide (q ∈ V2)) = both S x y := by
  refine Nat.le_antisymm ?_ ?_
  · refine nodup_countP (p := fun q => q ∈ V2) (q := fun j => Rch S x j ∧ Rch S y j) V1 _ h1.nd fun j hj hj2 => ?_
    have := (h1.all j).1 hj
    exact ⟨by rw [List.mem_range]; exact rch_lt hi this, this, (h2.all j).1 hj2⟩
  · refine nodup_countP (p := fun j => Rch S x j ∧ Rch S y j) (q := fun q => q ∈ V2) _ V1 List.nodup_range fun j hj hj2 => ?_
    exact ⟨(h1.all j).2 hj2.1, (h2.all j).2 hj2.2⟩
theorem met_len {S : List Sl} {x : Nat} {t : Tr} (hi : Is S x t) {V : List Nat} (h : Met S [] x V) : V.length ≤ S.length := by
  have := nodup_len V (List.range S.length) h.nd fun j hj => by rw [List.mem_range]; exact rch_lt hi ((h.all j).1 hj)
  simpa using this
noncomputable def shN (A : Ar) (g h : Int) : Nat := if (rootR A g).2 = true ∧ (rootR A h).2 = true then both A.slots (rootR A g).1.toNat (rootR A h).1.toNat else 0

/-! ### Taking in what is there -/
theorem look_is {S : List Sl} (hd : Apart S) {i : Nat} {s : Sl} (hs : S[i]? = some s) (h0 : s.refs ≠ 0) : look S s.key = some i := by
  cases h : look S s.key with
  | none => exact absurd rfl (look_none h i s hs h0)
  | some j =>
    obtain ⟨s', h1, h2, h3⟩ := look_some h
    rw [hd j i s' s h1 hs h2 h0 h3]
mutual
theorem lay_same : ∀ (n : Node) (base : Int) (A : Ar) (i : Nat), Apart A.slots → Is A.slots i (nt n base) → lay n base A = some (i, A)
  | .mk k nm f a b d ks, base, A, i, hd, hi => by
    rw [nt, Is] at hi
    obtain ⟨s, h1, h2, h3, h4⟩ := hi
    rw [lay, layL_same ks a A s.kids hd h4]
    simp only
    have hk : s.key = (⟨k, nm, f, w64 (a - base), w64 (b - base), d⟩, s.kids) := by rw [Sl.key, h3]
    rw [place, ← hk, look_is hd h1 h2]
theorem layL_same : ∀ (ks : List Node) (base : Int) (A : Ar) (l : List Nat), Apart A.slots → IsL A.slots l (ntL ks base) → layL ks base A = some (l, A)
  | [], base, A, l, hd, hi => by
    rw [ntL] at hi
    cases l with
    | nil => rw [layL]
    | cons _ _ => simp [IsL] at hi
  | x :: xs, base, A, l, hd, hi => by
    rw [ntL] at hi
    cases l with
    | nil => simp [IsL] at hi
    | cons i l =>
      rw [IsL] at hi
      rw [layL, lay_same x base A i hd hi.1]
      simp only
      rw [layL_same xs base A l hd hi.2]
end
theorem used_refS {S : List Sl} {i : Nat} {s : Sl} (hs : S[i]? = some s) (h0 : s.refs ≠ 0) : used (refS S i) = used S := by
  refine used_congr fun j => ?_
  rw [refS_get]
  cases h : S[j]? with
  | none => rfl
  | some s' =>
    simp only [Option.map_some, Option.some.injEq]
    by_cases e : i = j
    · subst e
      rw [hs] at h; cases h
      simp only [if_true]
      have : max s.refs 0 + 1 ≠ 0 := by omega
      simp [h0, this]
    · rw [if_neg e]
theorem refS_len (S : List Sl) (i : Nat) : (refS S i).length = S.length := by simp [refS]
/-- Taking in, come what may. -/
theorem add_or {A : Ar} {n : Node} (h : Inv A [] []) (hr : A.roots.length < 4096) : addR A n = (A, 0, 22) ∨ ∃ i C, addR A n = (C, ((A.roots.length : Nat) : Int), 0) ∧ addA A n = some (C, A.roots.length) ∧ Inv C [] [] ∧ C.roots = A.roots ++ [some i] ∧ Is C.slots i (nt n 0) ∧ Le A.slots C.slots := by
  rcases lay_or n 0 A [] h with ⟨h1, _⟩ | ⟨i, B, h1, h2, h3, h4, h5, _⟩
  · left
    rw [addR, if_neg (by omega), h1]
  · right
    obtain ⟨k1, k2⟩ := root_ok h2 h4.used
    have hA : addA A n = some (⟨refS B.slots i, B.free, B.roots ++ [some i]⟩, A.roots.length) := by rw [addA, h1]; simp only [h5]
    exact ⟨i, _, addR_of hA hr, hA, k1, by simp only [h5], Is.mono k2 _ _ h4, h3.trans k2⟩
/-- .. a second time. -/
theorem add_twice {B : Ar} {n : Node} {i : Nat} (h : Inv B [] []) (hi : Is B.slots i (nt n 0)) (hr : B.roots.length < 4096) :
    ∃ C, addR B n = (C, ((B.roots.length : Nat) : Int), 0) ∧ addA B n = some (C, B.roots.length) ∧ Inv C [] [] ∧ C.roots = B.roots ++ [some i] ∧ Is C.slots i (nt n 0) ∧ Le B.slots C.slots ∧ C.slots.length = B.slots.length ∧ used C.slots = used B.slots := by
  have hl := lay_same n 0 B i h.apart hi
  rcases add_or (n := n) h hr with h1 | ⟨j, C, h1, h2, h3, h4, h5, h6⟩
  · exfalso
    rw [addR, if_neg (by omega), hl] at h1
    simp at h1
  · have hA := h2
    rw [addA, hl] at hA
    simp only [Option.some.injEq, Prod.mk.injEq, and_true] at hA
    obtain ⟨s, s1, s2⟩ := hi.used
    subst hA
    exact ⟨_, h1, h2, h3, rfl, Is.mono h6 _ _ hi, h6, refS_len _ _, used_refS s1 s2⟩

/-! ### A tree moved -/
/-- Moved, and of no field. -/
def mv (by_ : Int) (n : Node) : Node :=
  match moveN by_ n with
  | .mk k nm _ a b d ks => .mk k nm [] a b d ks
theorem w64_shift (x a c : Int) : w64 (w64 (x + c) - w64 (a + c)) = w64 (x - a) := by
  have e : ∀ n : Int, w64 n = (n + 9223372036854775808) % 18446744073709551616 - 9223372036854775808 := fun n => by
    simp [w64, IntKind.wrap, IntKind.bits, IntKind.signed]
    split <;> omega
  simp only [e]
  omega
mutual
theorem nt_move : ∀ (n : Node) (c base : Int), nt (moveN c n) (w64 (base + c)) = nt n base
  | .mk k nm f a b d ks, c, base => by
    rw [moveN, nt, nt]
    have h1 := w64_shift a base c
    have h2 := w64_shift b base c
    have h3 := ntL_move ks c a
    simp only [w64] at h1 h2 h3 ⊢
    rw [h1, h2, h3]
theorem ntL_move : ∀ (ks : List Node) (c base : Int), ntL (moveL c ks) (w64 (base + c)) = ntL ks base
  | [], c, base => by rw [moveL, ntL, ntL]
  | x :: xs, c, base => by rw [moveL, ntL, ntL, nt_move x c base, ntL_move xs c base]
end
def Tr.kids : Tr → List Tr | .mk _ ts => ts
theorem nt_mv (by_ : Int) (n : Node) : (nt (mv by_ n) 0).kids = (nt n 0).kids := by
  cases n with
  | mk k nm f a b d ks =>
    rw [mv, moveN, nt, nt]
    exact ntL_move ks by_ a
/-- One slot more, at most. -/
theorem add_moved {C D : Ar} {n : Node} {i im : Nat} {by_ : Int} (h : Inv C [] []) (hi : Is C.slots i (nt n 0)) (hD : addA C (mv by_ n) = some (D, C.roots.length)) : used D.slots ≤ used C.slots + 1 := by
  have hk : ∃ k nm a b d ks, mv by_ n = .mk k nm [] a b d ks ∧ ∃ l, layL ks a C = some (l, C) ∧ IsL C.slots l (ntL ks a) := by
    cases n with
    | mk k nm f a b d ks =>
      rw [nt, Is] at hi
      obtain ⟨s, h1, h2, h3, h4⟩ := hi
      refine ⟨k, nm, IntKind.i64.wrap (a + by_), IntKind.i64.wrap (b + by_), d, moveL by_ ks, by rw [mv, moveN], s.kids, ?_⟩
      have h5 : IsL C.slots s.kids (ntL (moveL by_ ks) (IntKind.i64.wrap (a + by_))) := by
        have := ntL_move ks by_ a
        rw [show IntKind.i64.wrap (a + by_) = w64 (a + by_) from rfl, this]
        exact h4
      exact ⟨layL_same _ _ C _ h.apart h5, h5⟩
  obtain ⟨k, nm, a, b, d, ks, he, l, hl, hIL⟩ := hk
  rw [he, addA, lay, hl] at hD
  simp only at hD
  rcases place_or (p' := []) (K := (⟨k, nm, [], w64 (a - 0), w64 (b - 0), d⟩, l)) h hIL (fun j hj => by cases hj) with ⟨k1, _⟩ | ⟨j, E, k1, k2, k3, k4, k5, k6⟩
  · rw [k1] at hD; cases hD
  · rw [k1] at hD
    simp only [Option.some.injEq, Prod.mk.injEq] at hD
    obtain ⟨rfl, _⟩ := hD
    obtain ⟨s, s1, s2⟩ := k4.used
    show used (refS E.slots j) ≤ _
    rw [used_refS s1 s2]
    exact k6
/-- All below the root is shared. -/
theorem moved_both {C D : Ar} {n : Node} {i im : Nat} {by_ : Int} (hle : Le C.slots D.slots) (hd : Apart D.slots) (hi : Is C.slots i (nt n 0)) (hm : Is D.slots im (nt (mv by_ n) 0)) : both C.slots i i ≤ both D.slots i im + 1 := by
  have hiD := Is.mono hle _ _ hi
  have hkid : ∀ (s s' : Sl), D.slots[i]? = some s → D.slots[im]? = some s' → s.kids = s'.kids := fun s s' hs hs' => by
    have hk := nt_mv by_ n
    revert hk hiD hm
    cases nt (mv by_ n) 0 with
    | mk f1 t1 =>
      cases nt n 0 with
      | mk f2 t2 =>
        intro hm hiD hk
        simp only [Tr.kids] at hk
        subst hk
        rw [Is] at hiD hm
        obtain ⟨a, a1, _, _, a4⟩ := hiD
        obtain ⟨b, b1, _, _, b4⟩ := hm
        rw [hs] at a1; cases a1
        rw [hs'] at b1; cases b1
        exact IsL.inj hd _ _ _ a4 b4
  have hC : ∀ {a j : Nat} {t : Tr}, Is C.slots a t → Rch C.slots a j → Rch D.slots a j := by
    intro a j t ht hr
    induction hr generalizing t with
    | refl => exact .refl _
    | step hs hk h ih =>
      obtain ⟨fs, ts⟩ := t
      rw [Is] at ht
      obtain ⟨s', h1, h2, _, h4⟩ := ht
      rw [hs] at h1; cases h1
      obtain ⟨s2, k1, k2, k3, k4⟩ := hle _ _ hs h2
      obtain ⟨t', _, ht'⟩ := isL_mem ts _ h4 _ hk
      exact .step k1 (by rw [k4]; exact hk) (ih ht')
  have hmem : ∀ j, Rch C.slots i j → j = i ∨ Rch D.slots im j := fun j hr => by
    have hD := hC hi hr
    obtain ⟨sm, sm1, _⟩ := hm.used
    cases hD with
    | refl => exact .inl rfl
    | step hs hk h =>
      exact .inr (.step sm1 (by rw [← hkid _ _ hs sm1]; exact hk) h)
  have hlen : C.slots.length ≤ C.slots.length := Nat.le_refl _
  have h1 : both C.slots i i ≤ ((List.range C.slots.length).countP fun j => decide (Rch C.slots i j ∧ j ≠ i)) + 1 := by
    rw [both, List.countP_eq_length_filter, List.countP_eq_length_filter]
    have := nodup_len ((List.range C.slots.length).filter fun j => decide (Rch C.slots i j ∧ Rch C.slots i j)) (i :: (List.range C.slots.length).filter fun j => decide (Rch C.slots i j ∧ j ≠ i)) (List.Pairwise.filter _ List.nodup_range) fun j hj => by
      rw [List.mem_filter] at hj
      by_cases e : j = i
      · rw [e]; simp
      · refine List.mem_cons_of_mem _ ?_
        rw [List.mem_filter]
        exact ⟨hj.1, by have := hj.2; simp at this ⊢; exact ⟨this, e⟩⟩
    simpa using this
  have h2 : ((List.range C.slots.length).countP fun j => decide (Rch C.slots i j ∧ j ≠ i)) ≤ both D.slots i im := by
    refine nodup_countP (p := fun j => Rch C.slots i j ∧ j ≠ i) (q := fun j => Rch D.slots i j ∧ Rch D.slots im j) _ _ List.nodup_range fun j hj hj2 => ?_
    have hD := hC hi hj2.1
    exact ⟨by rw [List.mem_range]; exact rch_lt hiD hD, hD, (hmem j hj2.1).resolve_left hj2.2⟩
  omega
end Go.Am.R

/- arena.Shared AS IT IS GIVEN; THE MACHINE IS SOUND WITH IT; THE EXAMPLE. -/
set_option linter.unusedVariables false
set_option linter.unusedSimpArgs false
set_option maxRecDepth 20000
namespace Go.Am.R
open Go.Proofs Go.RowKit Classical

theorem slCan_inj {s s' : Sl} (h : slCan s = slCan s') (h0 : 0 ≤ s.refs) (h0' : 0 ≤ s'.refs) : s = s' := by
  obtain ⟨⟨a, b, c, d, e, f⟩, K, r, n⟩ := s
  obtain ⟨⟨a', b', c', d', e', f'⟩, K', r', n'⟩ := s'
  simp only [slCan, slC, List.cons.injEq, AV.str.injEq, AV.bool.injEq, AV.int.injEq, AV.vec.injEq, true_and, and_true] at h
  obtain ⟨rfl, rfl, rfl, rfl, rfl, rfl, hK, hr, hn⟩ := h
  simp only at h0 h0'
  have h1 : K = K' := by
    have := congrArg (List.map fun r : List AV => match r with | [.int _ k] => k.toNat | _ => 0) hK
    simpa [ks, List.map_map, Function.comp_def] using this
  have h2 : r = r' := by omega
  have h3 : n = n' := by
    cases n <;> cases n' <;> simp [optI] at hn ⊢ <;> omega
  subst h1 h2 h3
  rfl
theorem rs_inj {r r' : List (Option Nat)} (h : rs r = rs r') : r = r' := by
  have : ∀ {l m : List (Option Nat)}, rs l = rs m → l = m := by
    intro l
    induction l with
    | nil => intro m h; cases m with
      | nil => rfl
      | cons _ _ => simp [rs] at h
    | cons x xs ih =>
      intro m h
      cases m with
      | nil => simp [rs] at h
      | cons y ys =>
        simp only [rs, List.map_cons, List.cons.injEq, AV.int.injEq, and_true, true_and] at h
        have hxy : x = y := by
          have := h.1
          cases x <;> cases y <;> simp [optI] at this ⊢ <;> omega
        rw [hxy, ih h.2]
  exact this h
theorem arV_inj {A B : Ar} (h : arV A = arV B) (hA : ∀ s ∈ A.slots, 0 ≤ s.refs) (hB : ∀ s ∈ B.slots, 0 ≤ s.refs) : A = B := by
  obtain ⟨S, f, r⟩ := A
  obtain ⟨S', f', r'⟩ := B
  simp only [arV, arC, AV.agg.injEq, List.cons.injEq, AV.vec.injEq, AV.int.injEq, true_and, and_true] at h
  obtain ⟨h1, h2, h3⟩ := h
  have hS : S = S' := by
    refine List.ext_getElem? fun i => ?_
    have := congrArg (fun l => l[i]?) h1
    simp only [List.getElem?_map] at this
    cases e1 : S[i]? with
    | none =>
      rw [e1] at this
      cases e2 : S'[i]? with
      | none => rfl
      | some _ => rw [e2] at this; simp at this
    | some s =>
      rw [e1] at this
      cases e2 : S'[i]? with
      | none => rw [e2] at this; simp at this
      | some s' =>
        rw [e2] at this
        simp only [Option.map_some, Option.some.injEq] at this
        rw [slCan_inj this (hA s (List.mem_of_getElem? e1)) (hB s' (List.mem_of_getElem? e2))]
  have hf : f = f' := by cases f <;> cases f' <;> simp [optI] at h2 ⊢ <;> omega
  rw [hS, hf, rs_inj h3]
/-- An arena that Shared can be asked of. -/
structure ShOk (A : Ar) : Prop where
  inv : Inv A [] []
  rl : A.roots.length ≤ 100000
  kl : KL' A.slots
noncomputable def sharedF (args : List AV) : Option AV :=
  match args with
  | [x, .int .i64 g, .int .i64 h] => if hx : ∃ A, nrm x = some (arV A) ∧ ShOk A then some (.int .i64 ((shN hx.choose g h : Nat) : Int)) else none
  | _ => none
theorem sharedF_eq {A : Ar} (h : ShOk A) (g k : Int) : sharedF [.agg (arC A), .int .i64 g, .int .i64 k] = some (.int .i64 ((shN A g k : Nat) : Int)) := by
  have hx : ∃ B, nrm (.agg (arC A)) = some (arV B) ∧ ShOk B := ⟨A, nrm_arV A, h⟩
  have h1 := hx.choose_spec
  have h2 : hx.choose = A := by
    have h3 : nrm (arV A) = some (arV hx.choose) := h1.1
    have h4 : arV A = arV hx.choose := Option.some.inj ((nrm_arV A).symm.trans h3)
    exact (arV_inj h4 (nonneg h.inv) (nonneg h1.2.inv)).symm
  rw [sharedF, dif_pos hx, h2]
theorem ext_shared [Pin] (hc : CfgOk Tryd.prog (cfg vw)) : ExtOk Tryd.prog 21 (.val sharedF) := by
  refine ext_of (enters_of Tryd.func21 (by kernel_rfl) rfl) fun args r hr G w vs hp hvs => ?_
  unfold sharedF at hr
  split at hr
  · rename_i x g h
    split at hr
    · rename_i hx
      simp only [Option.some.injEq] at hr
      subst hr
      obtain ⟨A, hA⟩ : ∃ A, A = hx.choose := ⟨_, rfl⟩
      have hsp := hx.choose_spec
      rw [← hA] at hsp ⊢
      obtain ⟨hn, hinv, hrl, hkl⟩ := hsp
      obtain ⟨v, l0, hvl, hrv, hl0⟩ := hvs.uncons
      obtain ⟨v1, l1, rfl, g1, hl1⟩ := hl0.uncons
      obtain ⟨v2, l2, rfl, g2, hl2⟩ := hl1.uncons
      obtain rfl := hl2.nil_inv
      obtain rfl := rep_int g1
      obtain rfl := rep_int g2
      have hvs' := arr_eq hvl
      subst hvs'
      have hrn := rep_nrm hrv hn (G' := Gh.of w) (w' := w) (fun b f u hc => ⟨⟨u, hc.2⟩, hc.2⟩)
      obtain ⟨cs, rfl, hcs, _⟩ := rep_agg_inv hrn
      obtain ⟨c0, m1, e0, _, hcs⟩ := hcs.uncons
      obtain ⟨c1, m2, rfl, _, hcs⟩ := hcs.uncons
      obtain ⟨c2, m3, rfl, _, hcs⟩ := hcs.uncons
      obtain rfl := hcs.nil_inv
      have e0 := arr_eq e0
      subst e0
      have htr : ∀ q : Int, (rootR A q).2 = true → ∃ (x : Nat) (t : Tr), (rootR A q).1 = (x : Int) ∧ Is A.slots x t := fun q hq => by
        unfold rootR at hq ⊢
        split at hq
        · rename_i h0
          rw [if_pos h0]
          cases ho : A.roots[q.toNat]? with
          | none => rw [ho] at hq; simp at hq
          | some o =>
            rw [ho] at hq
            cases o with
            | none => simp at hq
            | some i =>
              obtain ⟨s, s1, s2⟩ := hinv.root i (List.mem_of_getElem? ho)
              obtain ⟨t, ht⟩ := hinv.tree i s s1 s2
              exact ⟨i, t, rfl, ht⟩
        · simp at hq
      refine (shared_walk hc A (by have := hinv.len; omega) hrl (hinv.kb hkl) g h htr (fun x t V hi hM => by have := met_len hi hM; have := hinv.len; omega) w hp hrn c0 c1 c2 rfl).mono fun e w' ⟨hb, hq⟩ => ?_
      refine ⟨hb, ?_⟩
      rcases hq with ⟨h0, rfl⟩ | ⟨x, y, V1, V2, q1, q2, q3, q4, rfl⟩
      · refine ⟨_, rfl, fun G w => ?_⟩
        have : shN A g h = 0 := by
          rw [shN, if_neg]
          rintro ⟨a, b⟩
          rcases h0 with h0 | h0
          · rw [a] at h0; cases h0
          · rw [b] at h0; cases h0
        rw [this]
        exact .int _ _
      · refine ⟨_, rfl, fun G w => ?_⟩
        obtain ⟨x', t, hx', ht⟩ := htr g (by rw [q1])
        rw [q1] at hx'
        have hxx : x = x' := by
          have : (x : Int) = (x' : Int) := hx'
          omega
        subst hxx
        have : shN A g h = V1.countP fun q => decide (q ∈ V2) := by
          rw [shN, if_pos ⟨by rw [q1], by rw [q2]⟩, q1, q2, met_both ht q3 q4]
          simp
        rw [this]
        exact .int _ _
    · cases hr
  · cases hr

noncomputable def extS (f : FuncId) : Option XT := if f = 21 then some (.val sharedF) else extA f
noncomputable def vwS : Ways := ⟨modeA, extS, mutsA, fun t => t == 80⟩
theorem stdS : Std vwS := by constructor <;> first | rfl | (exact fun r => rfl)
theorem cfgOkS [Pin] (hk : ExtOk Tryd.prog 46 (.val keyF)) : CfgOk Tryd.prog (cfg vwS) where
  ty := fun t i h => by rw [cfgP_ty] at h; exact h
  fn := fun f g h => cfgP_fn h
  mixed := by kernel_rfl
  eqt := fun t xs h hf => by
    have : t = 80 := by simpa [cfgP_eqt, vwS] using h
    subst this
    exact eq80 hf
  ext := fun f F h => by
    rw [cfgP_ext] at h
    have h' : extS f = some F := h
    unfold extS at h'
    split at h'
    · rename_i hf; subst hf; cases h'; exact ext_shared (cfgOkA hk)
    · exact (cfgOkA hk).ext f F (by rw [cfgP_ext]; exact h')
theorem aw11S : ((run (cfg vwS) 60).call 11 [] St.nil).map Prod.fst = some (.bool true) := by kernel_rfl
theorem awakeS : PC (cfg vwS) 11 [] (.bool true) := by
  have h := aw11S
  simp only [Option.map_eq_some_iff] at h
  obtain ⟨⟨r, S⟩, h1, h2⟩ := h
  refine PC_of (args' := []) stdS.e11 stdS.m11 rfl ⟨r, S, lim_of_run h1, ?_⟩
  simp only at h2
  subst h2
  exact FZ_bool
end Go.Am.R

