/- TREES THAT COME IN, AND HOW MANY LETTERS THEY HAVE. -/
import Derived.Test.YtghpjjhdbankhaaB0
import Derived.Test.YtghpjjhdbankhaaL0
import Derived.Test.YtghpjjhdbankhaaRows
set_option linter.unusedSimpArgs false
set_option linter.unusedVariables false
set_option maxRecDepth 100000
namespace Go.Am.B
open Go.Proofs Go.RowKit
open Go.Proofs.Ytghpjjhdbankhaa
variable {H : Type} {enc : TypeId × Value → H} {W : World} {base : Nat} {spare : Nat → Bool} {held : Bool}

theorem letL_le : ∀ (ks : List Node) (es : List (DataW H)), ks.length = es.length → (∀ (i : Nat) k e, ks[i]? = some k → es[i]? = some e → letN k ≤ Rows.uptoBulk e) → letL ks ≤ Rows.uptoBulkAll es
  | [], _, _, _ => by simp [letL]
  | k :: ks, [], h, _ => by simp at h
  | k :: ks, e :: es, h, hh => by
    have h1 := hh 0 k e rfl rfl
    have h2 := letL_le ks es (by simpa using h) (fun i k' e' a b => hh (i + 1) k' e' (by simpa using a) (by simpa using b))
    simp only [letL, Rows.uptoBulkAll]
    omega

theorem node_trodU : ∀ (fuel : Nat) (cs : List Value) (x : DataW H × List MemPlace), DataW.trod enc Try.prog W 0 spare held fuel 38 cs = some x → (∀ m ∈ DataW.weights Try.prog 38 x.1, m ≤ reachBytes) → ∃ n : Node, n.ok ∧ RepL (Gh.of W) W n.cells cs ∧ letN n ≤ Rows.uptoBulk x.1 := by
  intro fuel
  induction fuel using Nat.strongRecOn with
  | _ fuel ih =>
  intro cs x h hs
  obtain ⟨xs, n, rfl, rfl, hlen, hxs, hf⟩ := DataW.trod_struct Try.underlying38 h
  rw [cells38] at hlen
  have hxl : xs.length = 7 := hxs
  obtain ⟨c0, c1, c2, c3, c4, c5, c6, rfl⟩ : ∃ c0 c1 c2 c3 c4 c5 c6, cs = [c0, c1, c2, c3, c4, c5, c6] := by
    match cs, hlen with
    | [a, b, c, d, e, f, g], _ => exact ⟨a, b, c, d, e, f, g, rfl⟩
  obtain ⟨x0, x1, x2, x3, x4, x5, x6, rfl⟩ : ∃ x0 x1 x2 x3 x4 x5 x6, xs = [x0, x1, x2, x3, x4, x5, x6] := by
    match xs, hxl with
    | [a, b, c, d, e, f, g], _ => exact ⟨a, b, c, d, e, f, g, rfl⟩
  have f0 : DataW.trod enc Try.prog W 0 spare held n 9 [c0] = some x0 := by
    have := hf 0 ⟨ "Kind", 9, 0, false, "", "", 0⟩ rfl
    simpa [cells9, cells4, cells3, cells36] using this
  have f1 : DataW.trod enc Try.prog W 0 spare held n 4 [c1] = some x1 := by
    have := hf 1 ⟨ "Named", 4, 1, false, "", "", 16⟩ rfl
    simpa [cells9, cells4, cells3, cells36] using this
  have f2 : DataW.trod enc Try.prog W 0 spare held n 9 [c2] = some x2 := by
    have := hf 2 ⟨ "Field", 9, 2, false, "", "", 24⟩ rfl
    simpa [cells9, cells4, cells3, cells36] using this
  have f3 : DataW.trod enc Try.prog W 0 spare held n 3 [c3] = some x3 := by
    have := hf 3 ⟨ "From", 3, 3, false, "", "", 40⟩ rfl
    simpa [cells9, cells4, cells3, cells36] using this
  have f4 : DataW.trod enc Try.prog W 0 spare held n 3 [c4] = some x4 := by
    have := hf 4 ⟨ "To", 3, 4, false, "", "", 48⟩ rfl
    simpa [cells9, cells4, cells3, cells36] using this
  have f5 : DataW.trod enc Try.prog W 0 spare held n 3 [c5] = some x5 := by
    have := hf 5 ⟨ "Bad", 3, 5, false, "", "", 56⟩ rfl
    simpa [cells9, cells4, cells3, cells36] using this
  have f6 : DataW.trod enc Try.prog W 0 spare held n 36 [c6] = some x6 := by
    have := hf 6 ⟨ "Kids", 36, 6, false, "", "", 64⟩ rfl
    simpa [cells9, cells4, cells3, cells36] using this
  clear hf
  obtain ⟨s0, e0, rfl⟩ := trod9 f0
  obtain ⟨b1, e1⟩ := trod4 f1
  obtain ⟨s2, e2, rfl⟩ := trod9 f2
  obtain ⟨m3, e3, g3⟩ := trod3 f3
  obtain ⟨m4, e4, g4⟩ := trod3 f4
  obtain ⟨m5, e5, g5⟩ := trod3 f5
  simp only [List.cons.injEq, and_true] at e0 e1 e2 e3 e4 e5
  subst e0 e1 e2 e3 e4 e5
  have hs0 : s0.data.toList.length ≤ reachBytes := hs _ (by simp [DataW.weights, Try.underlying38, DataW.weightsEach])
  have hs2 : s2.data.toList.length ≤ reachBytes := hs _ (by simp [DataW.weights, Try.underlying38, DataW.weightsEach])
  have hs6 : ∀ m ∈ DataW.weights Try.prog 36 x6.1, m ≤ reachBytes := fun m hm => hs m (by simp [DataW.weights, Try.underlying38, DataW.weightsEach, hm])
  rw [reach_eq] at hs0 hs2
  obtain ⟨ks, hk1, hk2, hk3, hk4⟩ : ∃ ks : List Node, ks.length ≤ 1600000000000 ∧ (∀ k ∈ ks, k.ok) ∧ Rep (Gh.of W) W (.vec (Node.rows ks)) c6 ∧ letL ks ≤ Rows.uptoBulk x6.1 := by
    rcases DataW.trod_slice Try.underlying36 f6 with ⟨h1, h2⟩ | ⟨a, len, cap, elems, rest, n', rfl, h1, h2, _, hl, hm, hel, hE, _, _⟩
    · simp only [List.cons.injEq, and_true] at h1
      subst h1
      exact ⟨[], by simp, by simp, .vec0 _ _ (fun _ => rfl), by simp [letL]⟩
    · simp only [List.cons.injEq, and_true] at h1
      subst h1
      rw [cells38] at hE
      have hx6 : x6.1 = .slice (elems.map (·.1)) (rest.map (·.1)) := by rw [h2]
      rw [hx6] at hs6
      have hkid : ∀ i, i < len → ∃ k : Node, k.ok ∧ ∃ l, W.cells? 0 (a.add (i * 7)) 7 = some l ∧ RepL (Gh.of W) W k.cells l ∧ (∀ e, (elems.map (·.1))[i]? = some e → letN k ≤ Rows.uptoBulk e) := by
        intro i hi
        have hE' := hE i hi
        have he : elems[i]? = some (elems[i]'(by omega)) := List.getElem?_eq_getElem (by omega)
        rw [he, Option.bind_eq_some_iff] at hE'
        obtain ⟨l, hl1, hl2⟩ := hE'
        obtain ⟨k, hk, hr, hbk⟩ := ih n' (by omega) l _ hl2 (fun m hm => hs6 m (by
          simp only [DataW.weights, Try.underlying36, List.mem_cons, List.mem_append]
          exact .inr (.inl (weights_all (List.mem_map_of_mem (List.getElem_mem _)) hm))))
        exact ⟨k, hk, l, hl1, hr, fun e hee => by rw [List.getElem?_map, he] at hee; cases hee; exact hbk⟩
      have hch : ∃ f : Nat → Node, ∀ i, i < len → (f i).ok ∧ ∃ l, W.cells? 0 (a.add (i * 7)) 7 = some l ∧ RepL (Gh.of W) W (f i).cells l ∧ (∀ e, (elems.map (·.1))[i]? = some e → letN (f i) ≤ Rows.uptoBulk e) := by
        refine ⟨fun i => if h : i < len then (hkid i h).choose else default, fun i hi => ?_⟩
        simp only [hi, dif_pos]
        exact (hkid i hi).choose_spec
      obtain ⟨f, hf⟩ := hch
      have hlen7 : len * 88 ≤ 140737488351232 := by
        have := hs6 (((elems.map (·.1)).length + (rest.map (·.1)).length) * 88) (by rw [← bytes38]; simp [DataW.weights, Try.underlying36])
        rw [reach_eq] at this
        simp only [List.length_map] at this
        omega
      refine ⟨(List.range len).map f, by simp; omega, fun k hk => ?_, ?_, ?_⟩
      · simp only [List.mem_map, List.mem_range] at hk
        obtain ⟨i, hi, rfl⟩ := hk
        exact (hf i hi).1
      · have hln : ((List.range len).map f).length = len := by simp
        rcases Nat.eq_zero_or_pos len with rfl | hp
        · exact .vec0 _ _ (fun h => by cases h)
        · have hsp : a.spot = none := by
            obtain ⟨_, l, hl1, _, _⟩ := hf 0 hp
            obtain ⟨h1, h2⟩ := cells_get hl1
            have h3 := h2 0 (by omega)
            have : l[0]? = some (l[0]'(by omega)) := List.getElem?_eq_getElem (by omega)
            rw [this] at h3
            have := cell_spot h3
            simpa [Addr.add] using this
          have hR : RowsAt (Gh.of W) W a.block a.off 7 (Node.rows ((List.range len).map f)) := by
            refine ⟨fun i r hr => ?_, fun i r j x hr hx => ?_⟩
            · rw [Node.rows_get] at hr
              simp only [Option.map_eq_some_iff] at hr
              obtain ⟨y, _, rfl⟩ := hr
              exact Node.cells_len y
            · rw [Node.rows_get] at hr
              simp only [Option.map_eq_some_iff] at hr
              obtain ⟨y, hy, rfl⟩ := hr
              simp only [List.getElem?_map, Option.map_eq_some_iff] at hy
              obtain ⟨i', hi', rfl⟩ := hy
              have hil : i < len := by
                rw [List.getElem?_eq_some_iff] at hi'
                obtain ⟨h, _⟩ := hi'
                simpa using h
              have : i' = i := by simpa [hil] using hi'.symm
              subst this
              obtain ⟨_, l, hl1, hr, _⟩ := hf i' hil
              obtain ⟨h1, h2⟩ := cells_get hl1
              have hj : j < 7 := by
                rw [List.getElem?_eq_some_iff] at hx
                obtain ⟨h, _⟩ := hx
                rw [Node.cells_len] at h
                exact h
              obtain ⟨u, hu, hru⟩ := hr.get hx
              have h3 := h2 j hj
              rw [hu, add_add a _ _ hsp] at h3
              exact ⟨cells_leaf _ j x hx, u, ⟨⟨u, h3⟩, h3⟩, hru⟩
          have := rep_vec hR (cap := cap) (by rw [Node.rows_len, hln]; exact hl)
          rw [Node.rows_len, hln] at this
          have ha : a = ⟨a.block, a.off, none⟩ := by cases a; simp_all
          rw [← ha] at this
          exact this
      · rw [hx6]
        have hb := letL_le ((List.range len).map f) (elems.map (·.1)) (by simp; omega) (fun i k e h1 h2 => by
          simp only [List.getElem?_map, Option.map_eq_some_iff] at h1
          obtain ⟨i', hi', rfl⟩ := h1
          have hil : i < len := by
            rw [List.getElem?_eq_some_iff] at hi'
            obtain ⟨h, _⟩ := hi'
            simpa using h
          have : i' = i := by simpa [hil] using hi'.symm
          subst this
          obtain ⟨_, _, _, _, h5⟩ := hf i' hil
          exact h5 e h2)
        simp only [Rows.uptoBulk]
        omega
  refine ⟨.mk s0.data.toList b1 s2.data.toList m3 m4 m5 ks, ?_, ?_, ?_⟩
  · simp only [Node.ok]
    exact ⟨by omega, by omega, g3, g4, g5, hk1, oks_of hk2⟩
  · rw [Node.cells_eq]
    exact .cons (rep_bytes s0) (.cons (.bool _) (.cons (rep_bytes s2) (.cons (.int _ _) (.cons (.int _ _) (.cons (.int _ _) (.cons hk3 (.nil _ _)))))))
  · simp only [letN, Rows.uptoBulk, List.map_cons, List.map_nil, Rows.uptoBulkAll]
    omega

/-- A tree that came in. -/
theorem open_nodeU {v : Value} {d : DataW H} {p : List MemPlace} (hv : Value.okWide Try.prog W .any base 38 v) (h : DataW.Trod enc Try.prog W 0 spare held 38 v d p) (hs : ∀ m ∈ DataW.weights Try.prog 38 d, m ≤ reachBytes) :
    ∃ n : Node, n.ok ∧ Rep (Gh.of W) W n.av v ∧ letN n ≤ Rows.uptoBulk d := by
  obtain ⟨fuel, hf⟩ := h
  obtain ⟨n, hn, hr, hb⟩ := node_trodU fuel _ _ hf hs
  obtain ⟨vs, rfl⟩ : ∃ vs, v = .agg vs := by
    simp only [Value.okWide, Try.underlying38] at hv
    cases v <;> simp_all
  refine ⟨n, hn, rep_agg.2 ⟨?_, cells_leaf n⟩, hb⟩
  simpa [Value.cells] using hr

end Go.Am.B
