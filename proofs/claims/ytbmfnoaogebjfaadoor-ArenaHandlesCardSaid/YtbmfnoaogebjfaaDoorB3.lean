/- ROWS OF DEEDS AS THE ABSTRACT MACHINE SEES THEM. -/
import Derived.Test.YtbmfnoaogebjfaaDoorB0
import Derived.Test.YtbmfnoaogebjfaaDoorU11
set_option linter.unusedSimpArgs false
set_option linter.unusedVariables false
set_option maxRecDepth 100000
namespace Go.Am.R
open Go.Proofs Go.RowKit
variable {H : Type} {enc : TypeId × Value → H} {W : World} {base : Nat} {spare : Nat → Bool} {held : Bool}

theorem cells49 : Tryd.prog.cellsOf 49 = 9 := by kernel_rfl
theorem bytes49 : Tryd.prog.bytesOf 49 = 104 := by kernel_rfl
theorem dcells_leaf (d : Deed) : ∀ (j : Nat) (x : AV), d.row[j]? = some x → leaf x = true := by
  intro j x h
  rw [Deed.row] at h
  by_cases hj : j < 7
  · rw [List.getElem?_append_left (by rw [Node.cells_len]; exact hj)] at h
    exact cells_leaf _ j x h
  · rw [List.getElem?_append_right (by rw [Node.cells_len]; omega), Node.cells_len] at h
    have := (List.getElem?_eq_some_iff.1 h).1
    simp at this
    obtain h7 | h8 : j - 7 = 0 ∨ j - 7 = 1 := by omega
    · rw [h7] at h; simp at h; subst h; rfl
    · rw [h8] at h; simp at h; subst h; rfl
theorem repL_append {G : Gh} {w : World} : ∀ {a b : List AV} {u v : List Value}, RepL G w a u → RepL G w b v → RepL G w (a ++ b) (u ++ v)
  | [], b, u, v, h, k => by rw [h.nil_inv]; exact k
  | x :: a, b, u, v, h, k => by
    obtain ⟨y, u', rfl, h1, h2⟩ := h.uncons
    exact .cons h1 (repL_append h2 k)
theorem deed_trod (fuel : Nat) (cs : List Value) (x : DataW H × List MemPlace) (h : DataW.trod enc Tryd.prog W 0 spare held fuel 49 cs = some x) (hs : ∀ m ∈ DataW.weights Tryd.prog 49 x.1, m ≤ reachBytes) : ∃ d : Deed, (d.node.ok ∧ -9223372036854775808 ≤ d.h ∧ d.h ≤ 9223372036854775807) ∧ RepL (Gh.of W) W d.row cs := by
  obtain ⟨xs, n, rfl, rfl, hlen, hxs, hf⟩ := DataW.trod_struct Tryd.underlying49 h
  rw [cells49] at hlen
  have hxl : xs.length = 3 := hxs
  obtain ⟨x0, x1, x2, rfl⟩ : ∃ x0 x1 x2, xs = [x0, x1, x2] := by
    match xs, hxl with
    | [a, b, c], _ => exact ⟨a, b, c, rfl⟩
  obtain ⟨c0, c1, c2, c3, c4, c5, c6, c7, c8, rfl⟩ : ∃ c0 c1 c2 c3 c4 c5 c6 c7 c8, cs = [c0, c1, c2, c3, c4, c5, c6, c7, c8] := by
    match cs, hlen with
    | [a, b, c, d, e, f, g, i, j], _ => exact ⟨a, b, c, d, e, f, g, i, j, rfl⟩
  have f0 : DataW.trod enc Tryd.prog W 0 spare held n 28 [c0, c1, c2, c3, c4, c5, c6] = some x0 := by
    have := hf 0 ⟨ "Node", 28, 0, false, "", "", 0⟩ rfl
    simpa [cells28] using this
  have f1 : DataW.trod enc Tryd.prog W 0 spare held n 4 [c7] = some x1 := by
    have := hf 1 ⟨ "Drop", 4, 7, false, "", "", 88⟩ rfl
    simpa [cells4] using this
  have f2 : DataW.trod enc Tryd.prog W 0 spare held n 3 [c8] = some x2 := by
    have := hf 2 ⟨ "H", 3, 8, false, "", "", 96⟩ rfl
    simpa [cells3] using this
  clear hf
  obtain ⟨nd, hnd, hr⟩ := node_trod n _ _ f0 (fun m hm => hs m (by simp [DataW.weights, Tryd.underlying49, DataW.weightsEach, hm]))
  obtain ⟨b, e1⟩ := trod4 f1
  obtain ⟨m, e2, g2⟩ := trod3 f2
  simp only [List.cons.injEq, and_true] at e1 e2
  subst e1 e2
  refine ⟨⟨nd, b, m⟩, ⟨hnd, g2⟩, ?_⟩
  have : [c0, c1, c2, c3, c4, c5, c6, Value.bool b, Value.int .i64 m] = [c0, c1, c2, c3, c4, c5, c6] ++ [Value.bool b, Value.int .i64 m] := rfl
  rw [this]
  exact repL_append hr (.cons (.bool _) (.cons (.int _ _) (.nil _ _)))
/-- A row of deeds that came in. -/
theorem open_deedsA {v : Value} {d : DataW H} {p : List MemPlace} (hv : Value.okWide Tryd.prog W .any base 46 v) (h : DataW.Trod enc Tryd.prog W 0 spare held 46 v d p) (hs : ∀ m ∈ DataW.weights Tryd.prog 46 d, m ≤ reachBytes) :
    ∃ l : List Deed, (l.length ≤ 1000000000000000 ∧ ∀ d ∈ l, d.node.ok ∧ -9223372036854775808 ≤ d.h ∧ d.h ≤ 9223372036854775807) ∧ Rep (Gh.of W) W (.vec (drows l)) v := by
  obtain ⟨a0, len0, cap0, rfl⟩ := WideShapes.okWide_slice Tryd.underlying46 hv
  obtain ⟨fuel, f6⟩ := h
  have f6' : DataW.trod enc Tryd.prog W 0 spare held fuel 46 [.slice a0 len0 cap0] = some (d, p) := by simpa [Value.cells] using f6
  rcases DataW.trod_slice Tryd.underlying46 f6' with ⟨h1, h2⟩ | ⟨a, len, cap, elems, rest, n', rfl, h1, h2, _, hl, hm, hel, hE, _, _⟩
  · simp only [List.cons.injEq, and_true] at h1
    rw [h1]
    exact ⟨[], ⟨by simp, by simp⟩, .vec0 _ _ (fun _ => rfl)⟩
  · simp only [List.cons.injEq, and_true] at h1
    rw [h1]
    rw [cells49] at hE
    obtain ⟨h2, h3⟩ := Prod.mk.inj h2
    rw [h2] at hs
    have hkid : ∀ i, i < len → ∃ k : Deed, (k.node.ok ∧ -9223372036854775808 ≤ k.h ∧ k.h ≤ 9223372036854775807) ∧ ∃ l, W.cells? 0 (a.add (i * 9)) 9 = some l ∧ RepL (Gh.of W) W k.row l := by
      intro i hi
      have hE' := hE i hi
      have he : elems[i]? = some (elems[i]'(by omega)) := List.getElem?_eq_getElem (by omega)
      rw [he, Option.bind_eq_some_iff] at hE'
      obtain ⟨l, hl1, hl2⟩ := hE'
      obtain ⟨k, hk, hr⟩ := deed_trod n' l _ hl2 (fun m hm => hs m (by
        simp only [DataW.weights, Tryd.underlying46, List.mem_cons, List.mem_append]
        exact .inr (.inl (weights_all (List.mem_map_of_mem (List.getElem_mem _)) hm))))
      exact ⟨k, hk, l, hl1, hr⟩
    have hch : ∃ f : Nat → Deed, ∀ i, i < len → ((f i).node.ok ∧ -9223372036854775808 ≤ (f i).h ∧ (f i).h ≤ 9223372036854775807) ∧ ∃ l, W.cells? 0 (a.add (i * 9)) 9 = some l ∧ RepL (Gh.of W) W (f i).row l := by
      refine ⟨fun i => if h : i < len then (hkid i h).choose else ⟨default, false, 0⟩, fun i hi => ?_⟩
      simp only [hi, dif_pos]
      exact (hkid i hi).choose_spec
    obtain ⟨f, hf⟩ := hch
    have hlen9 : len * 104 ≤ 140737488351232 := by
      have := hs (((elems.map (·.1)).length + (rest.map (·.1)).length) * 104) (by rw [← bytes49]; simp [DataW.weights, Tryd.underlying46])
      rw [reach_eq] at this
      simp only [List.length_map] at this
      omega
    refine ⟨(List.range len).map f, ⟨by simp; omega, fun k hk => ?_⟩, ?_⟩
    · simp only [List.mem_map, List.mem_range] at hk
      obtain ⟨i, hi, rfl⟩ := hk
      exact (hf i hi).1
    · have hln : ((List.range len).map f).length = len := by simp
      rcases Nat.eq_zero_or_pos len with rfl | hp
      · exact .vec0 _ _ (fun h => by cases h)
      · have hsp : a.spot = none := by
          obtain ⟨_, l, hl1, _⟩ := hf 0 hp
          obtain ⟨h1, h2⟩ := cells_get hl1
          have h3 := h2 0 (by omega)
          have : l[0]? = some (l[0]'(by omega)) := List.getElem?_eq_getElem (by omega)
          rw [this] at h3
          have := cell_spot h3
          simpa [Addr.add] using this
        have hR : RowsAt (Gh.of W) W a.block a.off 9 (drows ((List.range len).map f)) := by
          refine ⟨fun i r hr => ?_, fun i r j x hr hx => ?_⟩
          · simp only [drows, List.getElem?_map, Option.map_eq_some_iff] at hr
            obtain ⟨y, _, rfl⟩ := hr
            exact Deed.row_len y
          · simp only [drows, List.getElem?_map, Option.map_eq_some_iff] at hr
            obtain ⟨y, ⟨i', hi', rfl⟩, rfl⟩ := hr
            have hil : i < len := by
              rw [List.getElem?_eq_some_iff] at hi'
              obtain ⟨h, _⟩ := hi'
              simpa using h
            have : i' = i := by simpa [hil] using hi'.symm
            subst this
            obtain ⟨_, l, hl1, hr⟩ := hf i' hil
            obtain ⟨h1, h2⟩ := cells_get hl1
            have hj : j < 9 := by
              rw [List.getElem?_eq_some_iff] at hx
              obtain ⟨h, _⟩ := hx
              rw [Deed.row_len] at h
              exact h
            obtain ⟨u, hu, hru⟩ := hr.get hx
            have h3 := h2 j hj
            rw [hu, add_add a _ _ hsp] at h3
            exact ⟨dcells_leaf _ j x hx, u, ⟨⟨u, h3⟩, h3⟩, hru⟩
        have := rep_vec hR (cap := cap) (by rw [drows_len, hln]; exact hl)
        rw [drows_len, hln] at this
        have ha : a = ⟨a.block, a.off, none⟩ := by cases a; simp_all
        rw [← ha] at this
        exact this

end Go.Am.R
