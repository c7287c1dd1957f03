/- ARGUMENTS AS THE ABSTRACT MACHINE SEES THEM: rows of numbers, trees. -/
import Derived.Test.YtbmfnoaogebjfaaDoorT0
import Derived.Test.YtbmfnoaogebjfaaDoorN0
import Derived.Test.YtbmfnoaogebjfaaDoorMf
import Derived.ChangeArms
import Derived.ChangeSlices
import Derived.SizedLaws
import Derived.Test.YtbmfnoaogebjfaaDoorV0
set_option linter.unusedSimpArgs false
set_option linter.unusedVariables false
set_option maxRecDepth 100000
namespace Go.Am.R
open Go.Proofs Go.RowKit

theorem cell_spot {w : World} {a : Addr} {u : Value} (h : w.cell? a = some u) : a.spot = none := by
  unfold World.cell? at h
  split at h
  · split at h
    · simp at h
    · rename_i hs; simpa using hs
  · simp at h
theorem add_eq {a : Addr} (h : a.spot = none) (n : Nat) : a.add n = ⟨a.block, a.off + n, none⟩ := by
  unfold Addr.add
  split
  · rename_i hn; subst hn; cases a; simp_all
  · rfl
theorem mapM_get {α β : Type} {f : α → Option β} : ∀ {l : List α} {r : List β}, l.mapM f = some r → r.length = l.length ∧ ∀ (i : Nat) (x : α), l[i]? = some x → f x = r[i]?
  | [], r, h => by
    simp at h
    subst h
    exact ⟨rfl, fun i x hx => by simp at hx⟩
  | a :: l, r, h => by
    rw [List.mapM_cons] at h
    cases ha : f a with
    | none => rw [ha] at h; simp at h
    | some b =>
      rw [ha] at h
      cases hl : l.mapM f with
      | none => rw [hl] at h; simp at h
      | some r' =>
        rw [hl] at h
        simp at h
        subst h
        obtain ⟨h1, h2⟩ := mapM_get hl
        refine ⟨by simp [h1], fun i x hx => ?_⟩
        cases i with
        | zero => simp at hx; subst hx; simp [ha]
        | succ i => simp at hx; simpa using h2 i x hx
theorem cells_get {w : World} {base n : Nat} {a : Addr} {cs : List Value} (h : w.cells? base a n = some cs) : cs.length = n ∧ ∀ j, j < n → w.cell? (a.add j) = cs[j]? := by
  unfold World.cells? at h
  split at h
  · obtain ⟨h1, h2⟩ := mapM_get h
    refine ⟨by simpa using h1, fun j hj => h2 j j (by simp [hj])⟩
  · simp at h
theorem add_add (a : Addr) (m n : Nat) (h : a.spot = none) : (a.add m).add n = ⟨a.block, a.off + m + n, none⟩ := by
  rw [add_eq h, add_eq rfl]

variable {H : Type} {enc : TypeId × Value → H} {W : World} {base : Nat} {spare : Nat → Bool} {held : Bool}

theorem rep_bytes {G : Gh} {w : World} (s : ByteArray) : Rep G w (.str s.data.toList) (.string s) := by
  have : Rep G w (.str s.data.toList) (.string ⟨s.data.toList.toArray⟩) := .str _
  simpa using this

theorem rep_ints {a : Addr} {len cap : Nat} {zs : List Int} (hl : len ≤ cap) (hz : len ≤ zs.length) (hc : ∀ i, i < zs.length → W.cell? (a.add i) = some (.int .i64 (zs.getD i 0))) :
    Rep (Gh.of W) W (.vec (ints (zs.take len))) (.slice (some a) len cap) := by
  rcases Nat.eq_zero_or_pos len with rfl | hp
  · simp only [List.take_zero, ints, List.map_nil]
    exact .vec0 _ _ (fun h => by cases h)
  · have hs : a.spot = none := by
      have := hc 0 (by omega)
      have := cell_spot this
      simpa [Addr.add] using this
    have hR : RowsAt (Gh.of W) W a.block a.off 1 (ints (zs.take len)) := by
      refine ⟨fun i r hr => ?_, fun i r j x hr hx => ?_⟩
      · rw [ints_get] at hr
        simp only [Option.map_eq_some_iff] at hr
        obtain ⟨y, _, rfl⟩ := hr
        rfl
      · rw [ints_get] at hr
        simp only [Option.map_eq_some_iff] at hr
        obtain ⟨y, hy, rfl⟩ := hr
        cases j with
        | succ j => simp at hx
        | zero =>
          simp at hx
          subst hx
          rw [List.getElem?_take] at hy
          split at hy
          · rename_i hi
            have h1 := hc i (by omega)
            rw [add_eq hs] at h1
            have : zs.getD i 0 = y := by simp [List.getD, hy]
            rw [this] at h1
            rw [Nat.mul_one, Nat.add_zero]
            exact ⟨rfl, _, ⟨⟨_, h1⟩, h1⟩, .int _ _⟩
          · simp at hy
    have hlen : (ints (zs.take len)).length = len := by rw [ints_len, List.length_take]; omega
    have := rep_vec hR (cap := cap) (by rw [hlen]; exact hl)
    rw [hlen] at this
    have ha : a = ⟨a.block, a.off, none⟩ := by cases a; simp_all
    rw [← ha] at this
    exact this

theorem cells3 : Tryd.prog.cellsOf 3 = 1 := by kernel_rfl
theorem cells26 : Tryd.prog.cellsOf 26 = 1 := by kernel_rfl
theorem cells4 : Tryd.prog.cellsOf 4 = 1 := by kernel_rfl
theorem cells9 : Tryd.prog.cellsOf 9 = 1 := by kernel_rfl
theorem cells28 : Tryd.prog.cellsOf 28 = 7 := by kernel_rfl
theorem bytes3 : Tryd.prog.bytesOf 3 = 8 := by kernel_rfl
theorem bytes28 : Tryd.prog.bytesOf 28 = 88 := by kernel_rfl
/-- A row of numbers that came in. -/
theorem open_intsA {v : Value} {d : DataW H} {p : List MemPlace} (hv : Value.okWide Tryd.prog W .any base 23 v) (h : DataW.Trod enc Tryd.prog W 0 spare held 23 v d p) (hs : ∀ m ∈ DataW.weights Tryd.prog 23 d, m ≤ reachBytes) :
    ∃ l : List Int, (l.length * 8 ≤ 140737488351232 ∧ ∀ x ∈ l, -9223372036854775808 ≤ x ∧ x ≤ 9223372036854775807) ∧ Rep (Gh.of W) W (.vec (ints l)) v := by
  obtain ⟨a, len, cap, rfl⟩ := WideShapes.okWide_slice Tryd.underlying23 hv
  obtain ⟨fuel, hf⟩ := h
  rcases ChangeShapes.open_ints Tryd.underlying23 Tryd.underlying3 cells3 hf with ⟨hcs, _⟩ | ⟨x, l, c, zs, hcs, _, hl, hm, hz, hx, hcell, hwz⟩
  · simp [Value.cells] at hcs
    obtain ⟨rfl, rfl, rfl⟩ := hcs
    exact ⟨[], ⟨by simp, by simp⟩, .vec0 _ _ (fun _ => rfl)⟩
  · simp [Value.cells] at hcs
    obtain ⟨rfl, rfl, rfl⟩ := hcs
    obtain ⟨hx, _⟩ := Prod.mk.inj hx
    subst hx
    have hz2 : len ≤ zs.length := by
      rw [hz]
      split
      · exact hl
      · exact Nat.le_refl _
    refine ⟨zs.take len, ⟨?_, fun y hy => ?_⟩, rep_ints hl hz2 hcell⟩
    · have := hs (((ChangeShapes.lits (H := H) .i64 (zs.take len)).length + (ChangeShapes.lits (H := H) .i64 (zs.drop len)).length) * 8) (by rw [← bytes3]; simp [DataW.weights, Tryd.underlying23])
      simp only [ChangeShapes.lits, List.length_map, List.length_take, List.length_drop] at this
      have hr : reachBytes = 140737488351232 := by decide
      rw [hr] at this
      rw [List.length_take]
      omega
    · have := hwz y (List.mem_of_mem_take hy)
      simp [Lit.wf, IntKind.min, IntKind.max, IntKind.bits, IntKind.signed] at this
      exact this

theorem trod9 {n : Nat} {l : List Value} {y : DataW H × List MemPlace} (h : DataW.trod enc Tryd.prog W base spare held n 9 l = some y) : ∃ s : ByteArray, l = [.string s] ∧ y = (.lit (.string s.data.toList), []) := by
  cases n with
  | zero => simp [DataW.trod] at h
  | succ n =>
    unfold DataW.trod at h
    rw [Tryd.underlying9] at h
    split at h <;> simp_all
theorem trod4 {n : Nat} {l : List Value} {y : DataW H × List MemPlace} (h : DataW.trod enc Tryd.prog W base spare held n 4 l = some y) : ∃ b : Bool, l = [.bool b] := by
  cases n with
  | zero => simp [DataW.trod] at h
  | succ n =>
    unfold DataW.trod at h
    rw [Tryd.underlying4] at h
    split at h <;> simp_all
theorem trod3 {n : Nat} {l : List Value} {y : DataW H × List MemPlace} (h : DataW.trod enc Tryd.prog W base spare held n 3 l = some y) : ∃ m : Int, l = [.int .i64 m] ∧ -9223372036854775808 ≤ m ∧ m ≤ 9223372036854775807 := by
  cases n with
  | zero => simp [DataW.trod] at h
  | succ n =>
    unfold DataW.trod at h
    rw [Tryd.underlying3] at h
    split at h <;> simp_all
    rename_i k' m hh
    obtain ⟨⟨rfl, h2⟩, _⟩ := h
    subst hh
    simpa [Lit.wf, IntKind.min, IntKind.max, IntKind.bits, IntKind.signed] using h2

theorem reach_eq : reachBytes = 140737488351232 := by decide

theorem weights_all {t : TypeId} {m : Nat} : ∀ {l : List (DataW H)} {d : DataW H}, d ∈ l → m ∈ d.weights Tryd.prog t → m ∈ DataW.weightsAll Tryd.prog t l
  | [], d, h, _ => by simp at h
  | x :: l, d, h, hm => by
    simp only [DataW.weightsAll, List.mem_append]
    rcases List.mem_cons.1 h with rfl | h
    · exact .inl hm
    · exact .inr (weights_all h hm)

theorem oks_of {ks : List Node} (h : ∀ k ∈ ks, k.ok) : Node.oks ks := by
  induction ks with
  | nil => simp [Node.oks]
  | cons x xs ih => exact ⟨h x List.mem_cons_self, ih fun k hk => h k (List.mem_cons_of_mem _ hk)⟩

theorem cells_leaf (n : Node) : ∀ (j : Nat) (x : AV), n.cells[j]? = some x → leaf x = true := by
  intro j x h
  rw [Node.cells_eq] at h
  have hj : j < 7 := by
    rw [List.getElem?_eq_some_iff] at h
    obtain ⟨h, _⟩ := h
    simpa using h
  obtain rfl | rfl | rfl | rfl | rfl | rfl | rfl : j = 0 ∨ j = 1 ∨ j = 2 ∨ j = 3 ∨ j = 4 ∨ j = 5 ∨ j = 6 := by omega
  all_goals (simp at h; subst h; rfl)

theorem node_trod : ∀ (fuel : Nat) (cs : List Value) (x : DataW H × List MemPlace), DataW.trod enc Tryd.prog W 0 spare held fuel 28 cs = some x → (∀ m ∈ DataW.weights Tryd.prog 28 x.1, m ≤ reachBytes) → ∃ n : Node, n.ok ∧ RepL (Gh.of W) W n.cells cs := by
  intro fuel
  induction fuel using Nat.strongRecOn with
  | _ fuel ih =>
  intro cs x h hs
  obtain ⟨xs, n, rfl, rfl, hlen, hxs, hf⟩ := DataW.trod_struct Tryd.underlying28 h
  rw [cells28] at hlen
  have hxl : xs.length = 7 := hxs
  obtain ⟨c0, c1, c2, c3, c4, c5, c6, rfl⟩ : ∃ c0 c1 c2 c3 c4 c5 c6, cs = [c0, c1, c2, c3, c4, c5, c6] := by
    match cs, hlen with
    | [a, b, c, d, e, f, g], _ => exact ⟨a, b, c, d, e, f, g, rfl⟩
  obtain ⟨x0, x1, x2, x3, x4, x5, x6, rfl⟩ : ∃ x0 x1 x2 x3 x4 x5 x6, xs = [x0, x1, x2, x3, x4, x5, x6] := by
    match xs, hxl with
    | [a, b, c, d, e, f, g], _ => exact ⟨a, b, c, d, e, f, g, rfl⟩
  have f0 : DataW.trod enc Tryd.prog W 0 spare held n 9 [c0] = some x0 := by
    have := hf 0 ⟨ "Kind", 9, 0, false, "", "", 0⟩ rfl
    simpa [cells9, cells4, cells3, cells26] using this
  have f1 : DataW.trod enc Tryd.prog W 0 spare held n 4 [c1] = some x1 := by
    have := hf 1 ⟨ "Named", 4, 1, false, "", "", 16⟩ rfl
    simpa [cells9, cells4, cells3, cells26] using this
  have f2 : DataW.trod enc Tryd.prog W 0 spare held n 9 [c2] = some x2 := by
    have := hf 2 ⟨ "Field", 9, 2, false, "", "", 24⟩ rfl
    simpa [cells9, cells4, cells3, cells26] using this
  have f3 : DataW.trod enc Tryd.prog W 0 spare held n 3 [c3] = some x3 := by
    have := hf 3 ⟨ "From", 3, 3, false, "", "", 40⟩ rfl
    simpa [cells9, cells4, cells3, cells26] using this
  have f4 : DataW.trod enc Tryd.prog W 0 spare held n 3 [c4] = some x4 := by
    have := hf 4 ⟨ "To", 3, 4, false, "", "", 48⟩ rfl
    simpa [cells9, cells4, cells3, cells26] using this
  have f5 : DataW.trod enc Tryd.prog W 0 spare held n 3 [c5] = some x5 := by
    have := hf 5 ⟨ "Bad", 3, 5, false, "", "", 56⟩ rfl
    simpa [cells9, cells4, cells3, cells26] using this
  have f6 : DataW.trod enc Tryd.prog W 0 spare held n 26 [c6] = some x6 := by
    have := hf 6 ⟨ "Kids", 26, 6, false, "", "", 64⟩ rfl
    simpa [cells9, cells4, cells3, cells26] using this
  clear hf
  obtain ⟨s0, e0, rfl⟩ := trod9 f0
  obtain ⟨b1, e1⟩ := trod4 f1
  obtain ⟨s2, e2, rfl⟩ := trod9 f2
  obtain ⟨m3, e3, g3⟩ := trod3 f3
  obtain ⟨m4, e4, g4⟩ := trod3 f4
  obtain ⟨m5, e5, g5⟩ := trod3 f5
  simp only [List.cons.injEq, and_true] at e0 e1 e2 e3 e4 e5
  subst e0 e1 e2 e3 e4 e5
  have hs0 : s0.data.toList.length ≤ reachBytes := hs _ (by simp [DataW.weights, Tryd.underlying28, DataW.weightsEach])
  have hs2 : s2.data.toList.length ≤ reachBytes := hs _ (by simp [DataW.weights, Tryd.underlying28, DataW.weightsEach])
  have hs6 : ∀ m ∈ DataW.weights Tryd.prog 26 x6.1, m ≤ reachBytes := fun m hm => hs m (by simp [DataW.weights, Tryd.underlying28, DataW.weightsEach, hm])
  rw [reach_eq] at hs0 hs2
  obtain ⟨ks, hk1, hk2, hk3⟩ : ∃ ks : List Node, ks.length ≤ 1600000000000 ∧ (∀ k ∈ ks, k.ok) ∧ Rep (Gh.of W) W (.vec (Node.rows ks)) c6 := by
    rcases DataW.trod_slice Tryd.underlying26 f6 with ⟨h1, h2⟩ | ⟨a, len, cap, elems, rest, n', rfl, h1, h2, _, hl, hm, hel, hE, _, _⟩
    · simp only [List.cons.injEq, and_true] at h1
      subst h1
      exact ⟨[], by simp, by simp, .vec0 _ _ (fun _ => rfl)⟩
    · simp only [List.cons.injEq, and_true] at h1
      subst h1
      rw [cells28] at hE
      have hx6 : x6.1 = .slice (elems.map (·.1)) (rest.map (·.1)) := by rw [h2]
      rw [hx6] at hs6
      have hkid : ∀ i, i < len → ∃ k : Node, k.ok ∧ ∃ l, W.cells? 0 (a.add (i * 7)) 7 = some l ∧ RepL (Gh.of W) W k.cells l := by
        intro i hi
        have hE' := hE i hi
        have he : elems[i]? = some (elems[i]'(by omega)) := List.getElem?_eq_getElem (by omega)
        rw [he, Option.bind_eq_some_iff] at hE'
        obtain ⟨l, hl1, hl2⟩ := hE'
        obtain ⟨k, hk, hr⟩ := ih n' (by omega) l _ hl2 (fun m hm => hs6 m (by
          simp only [DataW.weights, Tryd.underlying26, List.mem_cons, List.mem_append]
          exact .inr (.inl (weights_all (List.mem_map_of_mem (List.getElem_mem _)) hm))))
        exact ⟨k, hk, l, hl1, hr⟩
      have hch : ∃ f : Nat → Node, ∀ i, i < len → (f i).ok ∧ ∃ l, W.cells? 0 (a.add (i * 7)) 7 = some l ∧ RepL (Gh.of W) W (f i).cells l := by
        refine ⟨fun i => if h : i < len then (hkid i h).choose else default, fun i hi => ?_⟩
        simp only [hi, dif_pos]
        exact (hkid i hi).choose_spec
      obtain ⟨f, hf⟩ := hch
      have hlen7 : len * 88 ≤ 140737488351232 := by
        have := hs6 (((elems.map (·.1)).length + (rest.map (·.1)).length) * 88) (by rw [← bytes28]; simp [DataW.weights, Tryd.underlying26])
        rw [reach_eq] at this
        simp only [List.length_map] at this
        omega
      refine ⟨(List.range len).map f, by simp; omega, fun k hk => ?_, ?_⟩
      · simp only [List.mem_map, List.mem_range] at hk
        obtain ⟨i, hi, rfl⟩ := hk
        exact (hf i hi).1
      · have hln : ((List.range len).map f).length = len := by simp
        rcases Nat.eq_zero_or_pos len with rfl | hp
        · exact .vec0 _ _ (fun h => by cases h)
        · have hsp : a.spot = none := by
            obtain ⟨_, l, hl1, _⟩ := hf 0 hp
            obtain ⟨h1, h2⟩ := cells_get hl1
            have h3 := h2 0 (by omega)
            have : l[0]? = some (l[0]'(by omega)) := List.getElem?_eq_getElem (by omega)
            rw [this] at h3
            have := cell_spot h3
            simpa [Addr.add] using this
          have hR : RowsAt (Gh.of W) W a.block a.off 7 (Node.rows ((List.range len).map f)) := by
            refine ⟨fun i r hr => ?_, fun i r j x hr hx => ?_⟩
            · rw [Node.rows_get] at hr
              simp only [Option.map_eq_some_iff] at hr
              obtain ⟨y, _, rfl⟩ := hr
              exact Node.cells_len y
            · rw [Node.rows_get] at hr
              simp only [Option.map_eq_some_iff] at hr
              obtain ⟨y, hy, rfl⟩ := hr
              simp only [List.getElem?_map, Option.map_eq_some_iff] at hy
              obtain ⟨i', hi', rfl⟩ := hy
              have hil : i < len := by
                rw [List.getElem?_eq_some_iff] at hi'
                obtain ⟨h, _⟩ := hi'
                simpa using h
              have : i' = i := by simpa [hil] using hi'.symm
              subst this
              obtain ⟨_, l, hl1, hr⟩ := hf i' hil
              obtain ⟨h1, h2⟩ := cells_get hl1
              have hj : j < 7 := by
                rw [List.getElem?_eq_some_iff] at hx
                obtain ⟨h, _⟩ := hx
                rw [Node.cells_len] at h
                exact h
              obtain ⟨u, hu, hru⟩ := hr.get hx
              have h3 := h2 j hj
              rw [hu, add_add a _ _ hsp] at h3
              exact ⟨cells_leaf _ j x hx, u, ⟨⟨u, h3⟩, h3⟩, hru⟩
          have := rep_vec hR (cap := cap) (by rw [Node.rows_len, hln]; exact hl)
          rw [Node.rows_len, hln] at this
          have ha : a = ⟨a.block, a.off, none⟩ := by cases a; simp_all
          rw [← ha] at this
          exact this
  refine ⟨.mk s0.data.toList b1 s2.data.toList m3 m4 m5 ks, ?_, ?_⟩
  · simp only [Node.ok]
    exact ⟨by omega, by omega, g3, g4, g5, hk1, oks_of hk2⟩
  · rw [Node.cells_eq]
    exact .cons (rep_bytes s0) (.cons (.bool _) (.cons (rep_bytes s2) (.cons (.int _ _) (.cons (.int _ _) (.cons (.int _ _) (.cons hk3 (.nil _ _)))))))

/-- A tree that came in. -/
theorem open_nodeA {v : Value} {d : DataW H} {p : List MemPlace} (hv : Value.okWide Tryd.prog W .any base 28 v) (h : DataW.Trod enc Tryd.prog W 0 spare held 28 v d p) (hs : ∀ m ∈ DataW.weights Tryd.prog 28 d, m ≤ reachBytes) :
    ∃ n : Node, n.ok ∧ Rep (Gh.of W) W n.av v := by
  obtain ⟨fuel, hf⟩ := h
  obtain ⟨n, hn, hr⟩ := node_trod fuel _ _ hf hs
  obtain ⟨vs, rfl⟩ : ∃ vs, v = .agg vs := by
    simp only [Value.okWide, Tryd.underlying28] at hv
    cases v <;> simp_all
  refine ⟨n, hn, rep_agg.2 ⟨?_, cells_leaf n⟩⟩
  simpa [Value.cells] using hr

theorem sized_of {ts : List TypeId} {ds : List (DataW H)} (hsz : (DataW.weightsEach Tryd.prog ts ds).all (· ≤ reachBytes) = true) {j : Nat} {t : TypeId} {d : DataW H} (ht : ts[j]? = some t) (hd : ds[j]? = some d) : ∀ m ∈ DataW.weights Tryd.prog t d, m ≤ reachBytes := fun m hm => by
  have := List.all_eq_true.1 hsz m (DataW.weights_mem_each ht hd m hm)
  simpa using this
end Go.Am.R

/- AN ARENA THAT CAME IN, AS THE ABSTRACT MACHINE SEES IT. -/
set_option linter.unusedSimpArgs false
set_option linter.unusedVariables false
set_option maxRecDepth 100000
namespace Go.Am.R
open Go.Proofs Go.RowKit
variable {H : Type} {enc : TypeId × Value → H} {W : World} {base : Nat} {spare : Nat → Bool} {held : Bool}

theorem cells22 : Tryd.prog.cellsOf 22 = 1 := by kernel_rfl
theorem cells23 : Tryd.prog.cellsOf 23 = 1 := by kernel_rfl
theorem cells60 : Tryd.prog.cellsOf 60 = 10 := by kernel_rfl
theorem cells25 : Tryd.prog.cellsOf 25 = 3 := by kernel_rfl
theorem bytes60 : Tryd.prog.bytesOf 60 = 128 := by kernel_rfl
/-- A row of numbers in a cell. -/
theorem ints_trod {n : Nat} {cs : List Value} {x : DataW H × List MemPlace} (h : DataW.trod enc Tryd.prog W 0 spare held n 23 cs = some x) (hs : ∀ m ∈ DataW.weights Tryd.prog 23 x.1, m ≤ reachBytes) :
    ∃ (l : List Int) (v : Value), (l.length * 8 ≤ 140737488351232 ∧ ∀ x ∈ l, -9223372036854775808 ≤ x ∧ x ≤ 9223372036854775807) ∧ cs = [v] ∧ Rep (Gh.of W) W (.vec (ints l)) v := by
  obtain ⟨d, p⟩ := x
  rcases ChangeShapes.open_ints Tryd.underlying23 Tryd.underlying3 cells3 h with ⟨hcs, _⟩ | ⟨x, l, c, zs, hcs, _, hl, hm, hz, hx, hcell, hwz⟩
  · exact ⟨[], _, ⟨by simp, by simp⟩, hcs, .vec0 _ _ (fun _ => rfl)⟩
  · obtain ⟨hx, _⟩ := Prod.mk.inj hx
    subst hx
    have hz2 : l ≤ zs.length := by
      rw [hz]
      split
      · exact hl
      · exact Nat.le_refl _
    refine ⟨zs.take l, _, ⟨?_, fun y hy => ?_⟩, hcs, rep_ints hl hz2 hcell⟩
    · have := hs (((ChangeShapes.lits (H := H) .i64 (zs.take l)).length + (ChangeShapes.lits (H := H) .i64 (zs.drop l)).length) * 8) (by rw [← bytes3]; simp [DataW.weights, Tryd.underlying23])
      simp only [ChangeShapes.lits, List.length_map, List.length_take, List.length_drop] at this
      have hr : reachBytes = 140737488351232 := by decide
      rw [hr] at this
      rw [List.length_take]
      omega
    · have := hwz y (List.mem_of_mem_take hy)
      simp [Lit.wf, IntKind.min, IntKind.max, IntKind.bits, IntKind.signed] at this
      exact this
theorem rscells_leaf (s : RSl) : ∀ (j : Nat) (x : AV), s.row[j]? = some x → leaf x = true := by
  intro j x h
  rw [RSl.row] at h
  by_cases hj : j < 7
  · rw [List.getElem?_append_left (by rw [Node.cells_len]; exact hj)] at h
    exact cells_leaf _ j x h
  · rw [List.getElem?_append_right (by rw [Node.cells_len]; omega), Node.cells_len] at h
    have := (List.getElem?_eq_some_iff.1 h).1
    simp at this
    obtain h7 | h8 | h9 : j - 7 = 0 ∨ j - 7 = 1 ∨ j - 7 = 2 := by omega
    · rw [h7] at h; simp at h; subst h; rfl
    · rw [h8] at h; simp at h; subst h; rfl
    · rw [h9] at h; simp at h; subst h; rfl
theorem repL_app {G : Gh} {w : World} : ∀ {a b : List AV} {u v : List Value}, RepL G w a u → RepL G w b v → RepL G w (a ++ b) (u ++ v)
  | [], b, u, v, h, k => by rw [h.nil_inv]; exact k
  | x :: a, b, u, v, h, k => by
    obtain ⟨y, u', rfl, h1, h2⟩ := h.uncons
    exact .cons h1 (repL_app h2 k)
theorem slot_trod (fuel : Nat) (cs : List Value) (x : DataW H × List MemPlace) (h : DataW.trod enc Tryd.prog W 0 spare held fuel 60 cs = some x) (hs : ∀ m ∈ DataW.weights Tryd.prog 60 x.1, m ≤ reachBytes) : ∃ s : RSl, s.ok ∧ RepL (Gh.of W) W s.row cs := by
  obtain ⟨xs, n, rfl, rfl, hlen, hxs, hf⟩ := DataW.trod_struct Tryd.underlying60 h
  rw [cells60] at hlen
  have hxl : xs.length = 4 := hxs
  obtain ⟨x0, x1, x2, x3, rfl⟩ : ∃ x0 x1 x2 x3, xs = [x0, x1, x2, x3] := by
    match xs, hxl with
    | [a, b, c, d], _ => exact ⟨a, b, c, d, rfl⟩
  obtain ⟨c0, c1, c2, c3, c4, c5, c6, c7, c8, c9, rfl⟩ : ∃ c0 c1 c2 c3 c4 c5 c6 c7 c8 c9, cs = [c0, c1, c2, c3, c4, c5, c6, c7, c8, c9] := by
    match cs, hlen with
    | [a, b, c, d, e, f, g, i, j, k], _ => exact ⟨a, b, c, d, e, f, g, i, j, k, rfl⟩
  have f0 : DataW.trod enc Tryd.prog W 0 spare held n 28 [c0, c1, c2, c3, c4, c5, c6] = some x0 := by
    have := hf 0 ⟨ "Node", 28, 0, false, "", "", 0⟩ rfl
    simpa [cells28] using this
  have f1 : DataW.trod enc Tryd.prog W 0 spare held n 23 [c7] = some x1 := by
    have := hf 1 ⟨ "Kids", 23, 7, false, "", "", 88⟩ rfl
    simpa [cells23] using this
  have f2 : DataW.trod enc Tryd.prog W 0 spare held n 3 [c8] = some x2 := by
    have := hf 2 ⟨ "Refs", 3, 8, false, "", "", 112⟩ rfl
    simpa [cells3] using this
  have f3 : DataW.trod enc Tryd.prog W 0 spare held n 3 [c9] = some x3 := by
    have := hf 3 ⟨ "Next", 3, 9, false, "", "", 120⟩ rfl
    simpa [cells3] using this
  clear hf
  obtain ⟨nd, hnd, hr⟩ := node_trod n _ _ f0 (fun m hm => hs m (by simp [DataW.weights, Tryd.underlying60, DataW.weightsEach, hm]))
  obtain ⟨ks, v, ⟨hk, hkr⟩, e1, hv⟩ := ints_trod f1 (fun m hm => hs m (by simp [DataW.weights, Tryd.underlying60, DataW.weightsEach, hm]))
  obtain ⟨r, e2, g2⟩ := trod3 f2
  obtain ⟨m, e3, g3⟩ := trod3 f3
  simp only [List.cons.injEq, and_true] at e1 e2 e3
  subst e1 e2 e3
  refine ⟨⟨nd, ks, r, m⟩, ⟨hnd, by show ks.length ≤ _; omega, hkr⟩, ?_⟩
  have : [c0, c1, c2, c3, c4, c5, c6, c7, Value.int .i64 r, Value.int .i64 m] = [c0, c1, c2, c3, c4, c5, c6] ++ [c7, Value.int .i64 r, Value.int .i64 m] := rfl
  rw [this]
  exact repL_app hr (.cons hv (.cons (.int _ _) (.cons (.int _ _) (.nil _ _))))
/-- A row of slots in a cell. -/
theorem slots_trod {fuel : Nat} {cs : List Value} {x : DataW H × List MemPlace} (h : DataW.trod enc Tryd.prog W 0 spare held fuel 22 cs = some x) (hs : ∀ m ∈ DataW.weights Tryd.prog 22 x.1, m ≤ reachBytes) :
    ∃ (l : List RSl) (v : Value), (l.length ≤ 1000000000000000 ∧ ∀ d ∈ l, d.ok) ∧ cs = [v] ∧ Rep (Gh.of W) W (.vec (l.map RSl.row)) v := by
  rcases DataW.trod_slice Tryd.underlying22 h with ⟨h1, h2⟩ | ⟨a, len, cap, elems, rest, n', rfl, h1, h2, _, hl, hm, hel, hE, _, _⟩
  · exact ⟨[], _, ⟨by simp, by simp⟩, h1, .vec0 _ _ (fun _ => rfl)⟩
  · rw [cells60] at hE
    have h2 : x.1 = .slice (elems.map (·.1)) (rest.map (·.1)) := by rw [h2]
    rw [h2] at hs
    have hkid : ∀ i, i < len → ∃ k : RSl, k.ok ∧ ∃ l, W.cells? 0 (a.add (i * 10)) 10 = some l ∧ RepL (Gh.of W) W k.row l := by
      intro i hi
      have hE' := hE i hi
      have he : elems[i]? = some (elems[i]'(by omega)) := List.getElem?_eq_getElem (by omega)
      rw [he, Option.bind_eq_some_iff] at hE'
      obtain ⟨l, hl1, hl2⟩ := hE'
      obtain ⟨k, hk, hr⟩ := slot_trod n' l _ hl2 (fun m hm => hs m (by
        simp only [DataW.weights, Tryd.underlying22, List.mem_cons, List.mem_append]
        exact .inr (.inl (weights_all (List.mem_map_of_mem (List.getElem_mem _)) hm))))
      exact ⟨k, hk, l, hl1, hr⟩
    have hch : ∃ f : Nat → RSl, ∀ i, i < len → (f i).ok ∧ ∃ l, W.cells? 0 (a.add (i * 10)) 10 = some l ∧ RepL (Gh.of W) W (f i).row l := by
      refine ⟨fun i => if h : i < len then (hkid i h).choose else ⟨default, [], 0, 0⟩, fun i hi => ?_⟩
      simp only [hi, dif_pos]
      exact (hkid i hi).choose_spec
    obtain ⟨f, hf⟩ := hch
    have hlen10 : len * 128 ≤ 140737488351232 := by
      have := hs (((elems.map (·.1)).length + (rest.map (·.1)).length) * 128) (by rw [← bytes60]; simp [DataW.weights, Tryd.underlying22])
      rw [reach_eq] at this
      simp only [List.length_map] at this
      omega
    refine ⟨(List.range len).map f, _, ⟨by simp; omega, fun k hk => ?_⟩, h1, ?_⟩
    · simp only [List.mem_map, List.mem_range] at hk
      obtain ⟨i, hi, rfl⟩ := hk
      exact (hf i hi).1
    · have hln : (((List.range len).map f).map RSl.row).length = len := by simp
      rcases Nat.eq_zero_or_pos len with rfl | hp
      · exact .vec0 _ _ (fun h => by cases h)
      · have hsp : a.spot = none := by
          obtain ⟨_, l, hl1, _⟩ := hf 0 hp
          obtain ⟨h1, h2⟩ := cells_get hl1
          have h3 := h2 0 (by omega)
          have : l[0]? = some (l[0]'(by omega)) := List.getElem?_eq_getElem (by omega)
          rw [this] at h3
          have := cell_spot h3
          simpa [Addr.add] using this
        have hR : RowsAt (Gh.of W) W a.block a.off 10 (((List.range len).map f).map RSl.row) := by
          refine ⟨fun i r hr => ?_, fun i r j x hr hx => ?_⟩
          · simp only [List.getElem?_map, Option.map_eq_some_iff] at hr
            obtain ⟨y, _, rfl⟩ := hr
            exact RSl.row_len y
          · simp only [List.getElem?_map, Option.map_eq_some_iff] at hr
            obtain ⟨y, ⟨i', hi', rfl⟩, rfl⟩ := hr
            have hil : i < len := by
              rw [List.getElem?_eq_some_iff] at hi'
              obtain ⟨h, _⟩ := hi'
              simpa using h
            have : i' = i := by simpa [hil] using hi'.symm
            subst this
            obtain ⟨_, l, hl1, hr⟩ := hf i' hil
            obtain ⟨h1, h2⟩ := cells_get hl1
            have hj : j < 10 := by
              rw [List.getElem?_eq_some_iff] at hx
              obtain ⟨h, _⟩ := hx
              rw [RSl.row_len] at h
              exact h
            obtain ⟨u, hu, hru⟩ := hr.get hx
            have h3 := h2 j hj
            rw [hu, add_add a _ _ hsp] at h3
            exact ⟨rscells_leaf _ j x hx, u, ⟨⟨u, h3⟩, h3⟩, hru⟩
        have := rep_vec hR (cap := cap) (by rw [hln]; exact hl)
        rw [hln] at this
        have ha : a = ⟨a.block, a.off, none⟩ := by cases a; simp_all
        rw [← ha] at this
        exact this
/-- An arena that came in. -/
theorem open_arenaA {v : Value} {d : DataW H} {p : List MemPlace} (hv : Value.okWide Tryd.prog W .any base 25 v) (h : DataW.Trod enc Tryd.prog W 0 spare held 25 v d p) (hs : ∀ m ∈ DataW.weights Tryd.prog 25 d, m ≤ reachBytes) :
    ∃ A : RAr, A.ok ∧ Rep (Gh.of W) W A.av v := by
  obtain ⟨fuel, hf0⟩ := h
  obtain ⟨vs, rfl⟩ : ∃ vs, v = .agg vs := by
    simp only [Value.okWide, Tryd.underlying25] at hv
    cases v <;> simp_all
  obtain ⟨xs, n, hfu, hx, hlen, hxs, hf⟩ := DataW.trod_struct Tryd.underlying25 hf0
  rw [cells25] at hlen
  have hx1 : d = .agg (xs.map (·.1)) := by simpa using congrArg Prod.fst hx
  subst hx1
  have hxl : xs.length = 3 := hxs
  obtain ⟨x0, x1, x2, rfl⟩ : ∃ x0 x1 x2, xs = [x0, x1, x2] := by
    match xs, hxl with
    | [a, b, c], _ => exact ⟨a, b, c, rfl⟩
  obtain ⟨c0, c1, c2, hc⟩ : ∃ c0 c1 c2 : Value, (Value.agg vs).cells.toList = [c0, c1, c2] := by
    generalize (Value.agg vs).cells.toList = l at hlen
    match l, hlen with
    | [a, b, c], _ => exact ⟨a, b, c, rfl⟩
  rw [hc] at hf
  have f0 : DataW.trod enc Tryd.prog W 0 spare held n 22 [c0] = some x0 := by
    have := hf 0 ⟨ "Slots", 22, 0, false, "", "", 0⟩ rfl
    simpa [cells22] using this
  have f1 : DataW.trod enc Tryd.prog W 0 spare held n 3 [c1] = some x1 := by
    have := hf 1 ⟨ "Free", 3, 1, false, "", "", 24⟩ rfl
    simpa [cells3] using this
  have f2 : DataW.trod enc Tryd.prog W 0 spare held n 23 [c2] = some x2 := by
    have := hf 2 ⟨ "Roots", 23, 2, false, "", "", 32⟩ rfl
    simpa [cells23] using this
  clear hf
  obtain ⟨S, v0, ⟨hS, hSo⟩, e0, r0⟩ := slots_trod f0 (fun m hm => hs m (by simp [DataW.weights, Tryd.underlying25, DataW.weightsEach, hm]))
  obtain ⟨m, e1, g1⟩ := trod3 f1
  obtain ⟨R, v2, ⟨hR, hRr⟩, e2, r2⟩ := ints_trod f2 (fun m hm => hs m (by simp [DataW.weights, Tryd.underlying25, DataW.weightsEach, hm]))
  simp only [List.cons.injEq, and_true] at e0 e1 e2
  subst e0 e1 e2
  refine ⟨⟨S, m, R⟩, ⟨hS, hSo, by show R.length ≤ _; omega⟩, rep_agg.2 ⟨?_, ?_⟩⟩
  · have : vs.toList = [c0, .int .i64 m, c2] := by simpa [Value.cells] using hc
    rw [this]
    exact .cons r0 (.cons (.int _ _) (.cons r2 (.nil _ _)))
  · intro j x hx
    have hj : j < 3 := by
      rw [List.getElem?_eq_some_iff] at hx
      obtain ⟨h, _⟩ := hx
      simpa [RAr.cells] using h
    obtain rfl | rfl | rfl : j = 0 ∨ j = 1 ∨ j = 2 := by omega
    all_goals (simp [RAr.cells] at hx; subst hx; rfl)
end Go.Am.R

