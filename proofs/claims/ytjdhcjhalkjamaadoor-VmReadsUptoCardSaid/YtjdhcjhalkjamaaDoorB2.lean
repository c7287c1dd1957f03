/- ARGUMENTS AS THE ABSTRACT MACHINE SEES THEM: programs. -/
import Derived.Test.YtjdhcjhalkjamaaDoorR2
import Derived.ChangeArms
import Derived.ChangeSlices
import Derived.SizedLaws
set_option linter.unusedSimpArgs false
set_option linter.unusedVariables false
set_option maxRecDepth 100000
namespace Go.Am.V
open Go.Proofs Go.RowKit

theorem cell_spot {w : World} {a : Addr} {u : Value} (h : w.cell? a = some u) : a.spot = none := by
  unfold World.cell? at h
  split at h
  · split at h
    · simp at h
    · rename_i hs; simpa using hs
  · simp at h
theorem add_eq {a : Addr} (h : a.spot = none) (n : Nat) : a.add n = ⟨a.block, a.off + n, none⟩ := by
  unfold Addr.add
  split
  · rename_i hn; subst hn; cases a; simp_all
  · rfl
theorem mapM_get {α β : Type} {f : α → Option β} : ∀ {l : List α} {r : List β}, l.mapM f = some r → r.length = l.length ∧ ∀ (i : Nat) (x : α), l[i]? = some x → f x = r[i]?
  | [], r, h => by
    simp at h
    subst h
    exact ⟨rfl, fun i x hx => by simp at hx⟩
  | a :: l, r, h => by
    rw [List.mapM_cons] at h
    cases ha : f a with
    | none => rw [ha] at h; simp at h
    | some b =>
      rw [ha] at h
      cases hl : l.mapM f with
      | none => rw [hl] at h; simp at h
      | some r' =>
        rw [hl] at h
        simp at h
        subst h
        obtain ⟨h1, h2⟩ := mapM_get hl
        refine ⟨by simp [h1], fun i x hx => ?_⟩
        cases i with
        | zero => simp at hx; subst hx; simp [ha]
        | succ i => simp at hx; simpa using h2 i x hx
theorem cells_get {w : World} {base n : Nat} {a : Addr} {cs : List Value} (h : w.cells? base a n = some cs) : cs.length = n ∧ ∀ j, j < n → w.cell? (a.add j) = cs[j]? := by
  unfold World.cells? at h
  split at h
  · obtain ⟨h1, h2⟩ := mapM_get h
    refine ⟨by simpa using h1, fun j hj => h2 j j (by simp [hj])⟩
  · simp at h
theorem add_add (a : Addr) (m n : Nat) (h : a.spot = none) : (a.add m).add n = ⟨a.block, a.off + m + n, none⟩ := by
  rw [add_eq h, add_eq rfl]

variable {H : Type} {enc : TypeId × Value → H} {W : World} {base : Nat} {spare : Nat → Bool} {held : Bool}

theorem rep_bytes {G : Gh} {w : World} (s : ByteArray) : Rep G w (.str s.data.toList) (.string s) := by
  have : Rep G w (.str s.data.toList) (.string ⟨s.data.toList.toArray⟩) := .str _
  simpa using this

theorem cells3 : Tryd.prog.cellsOf 3 = 1 := by kernel_rfl
theorem cells39 : Tryd.prog.cellsOf 39 = 4 := by kernel_rfl
theorem bytes39 : Tryd.prog.bytesOf 39 = 32 := by kernel_rfl
theorem reach_eq : reachBytes = 140737488351232 := by decide

theorem trod3 {n : Nat} {l : List Value} {y : DataW H × List MemPlace} (h : DataW.trod enc Tryd.prog W base spare held n 3 l = some y) : ∃ m : Int, l = [.int .i64 m] ∧ -9223372036854775808 ≤ m ∧ m ≤ 9223372036854775807 := by
  cases n with
  | zero => simp [DataW.trod] at h
  | succ n =>
    unfold DataW.trod at h
    rw [Tryd.underlying3] at h
    split at h <;> simp_all
    rename_i k' m hh
    obtain ⟨⟨rfl, h2⟩, _⟩ := h
    subst hh
    simpa [Lit.wf, IntKind.min, IntKind.max, IntKind.bits, IntKind.signed] using h2

/-- An operation whose numbers are numbers of the machine. -/
def Ins.ok (i : Ins) : Prop := (-9223372036854775808 ≤ i.op ∧ i.op ≤ 9223372036854775807) ∧ (-9223372036854775808 ≤ i.x ∧ i.x ≤ 9223372036854775807) ∧ (-9223372036854775808 ≤ i.y ∧ i.y ≤ 9223372036854775807) ∧ (-9223372036854775808 ≤ i.z ∧ i.z ≤ 9223372036854775807)

theorem ins_trod {fuel : Nat} {cs : List Value} {x : DataW H × List MemPlace} (h : DataW.trod enc Tryd.prog W 0 spare held fuel 39 cs = some x) : ∃ i : Ins, i.ok ∧ RepL (Gh.of W) W (inRow i) cs := by
  obtain ⟨xs, n, rfl, rfl, hlen, hxs, hf⟩ := DataW.trod_struct Tryd.underlying39 h
  rw [cells39] at hlen
  have hxl : xs.length = 4 := hxs
  obtain ⟨c0, c1, c2, c3, rfl⟩ : ∃ c0 c1 c2 c3, cs = [c0, c1, c2, c3] := by
    match cs, hlen with
    | [a, b, c, d], _ => exact ⟨a, b, c, d, rfl⟩
  obtain ⟨x0, x1, x2, x3, rfl⟩ : ∃ x0 x1 x2 x3, xs = [x0, x1, x2, x3] := by
    match xs, hxl with
    | [a, b, c, d], _ => exact ⟨a, b, c, d, rfl⟩
  have f0 : DataW.trod enc Tryd.prog W 0 spare held n 3 [c0] = some x0 := by
    have := hf 0 ⟨ "Op", 3, 0, false, "", "", 0⟩ rfl
    simpa [cells3] using this
  have f1 : DataW.trod enc Tryd.prog W 0 spare held n 3 [c1] = some x1 := by
    have := hf 1 ⟨ "X", 3, 1, false, "", "", 8⟩ rfl
    simpa [cells3] using this
  have f2 : DataW.trod enc Tryd.prog W 0 spare held n 3 [c2] = some x2 := by
    have := hf 2 ⟨ "Y", 3, 2, false, "", "", 16⟩ rfl
    simpa [cells3] using this
  have f3 : DataW.trod enc Tryd.prog W 0 spare held n 3 [c3] = some x3 := by
    have := hf 3 ⟨ "Z", 3, 3, false, "", "", 24⟩ rfl
    simpa [cells3] using this
  obtain ⟨m0, e0, g0⟩ := trod3 f0
  obtain ⟨m1, e1, g1⟩ := trod3 f1
  obtain ⟨m2, e2, g2⟩ := trod3 f2
  obtain ⟨m3, e3, g3⟩ := trod3 f3
  simp only [List.cons.injEq, and_true] at e0 e1 e2 e3
  subst e0 e1 e2 e3
  exact ⟨⟨m0, m1, m2, m3⟩, ⟨g0, g1, g2, g3⟩, .cons (.int _ _) (.cons (.int _ _) (.cons (.int _ _) (.cons (.int _ _) (.nil _ _))))⟩

theorem inRow_leaf (i : Ins) : ∀ (j : Nat) (x : AV), (inRow i)[j]? = some x → leaf x = true := by
  intro j x h
  rcases j with _ | _ | _ | _ | j
  all_goals first
    | (simp [inRow] at h; subst h; rfl)
    | (simp [inRow] at h)

/-- A program that came in. -/
theorem open_insA {v : Value} {d : DataW H} {p : List MemPlace} (hv : Value.okWide Tryd.prog W .any base 22 v) (h : DataW.Trod enc Tryd.prog W 0 spare held 22 v d p) (hs : ∀ m ∈ DataW.weights Tryd.prog 22 d, m ≤ reachBytes) :
    ∃ l : List Ins, (l.length * 32 ≤ 140737488351232 ∧ ∀ i ∈ l, i.ok) ∧ Rep (Gh.of W) W (.vec (inRows l)) v := by
  obtain ⟨a, len, cap, rfl⟩ := WideShapes.okWide_slice Tryd.underlying22 hv
  obtain ⟨fuel, f6⟩ := h
  rcases DataW.trod_slice Tryd.underlying22 f6 with ⟨h1, h2⟩ | ⟨a', len', cap', elems, rest, n', hcs, h1, h2, _, hl, hm, hel, hE, _, _⟩
  · simp [Value.cells] at h1
    obtain ⟨rfl, rfl, rfl⟩ := h1
    exact ⟨[], ⟨by simp, by simp⟩, .vec0 _ _ (fun _ => rfl)⟩
  · simp [Value.cells] at h1
    obtain ⟨rfl, rfl, rfl⟩ := h1
    rw [cells39] at hE
    have hd : d = .slice (elems.map (·.1)) (rest.map (·.1)) := by
      have := congrArg Prod.fst h2
      simpa using this
    rw [hd] at hs
    have hone : ∀ i, i < len → ∃ k : Ins, k.ok ∧ ∃ l, W.cells? 0 (a'.add (i * 4)) 4 = some l ∧ RepL (Gh.of W) W (inRow k) l := by
      intro i hi
      have hE' := hE i hi
      have he : elems[i]? = some (elems[i]'(by omega)) := List.getElem?_eq_getElem (by omega)
      rw [he, Option.bind_eq_some_iff] at hE'
      obtain ⟨l, hl1, hl2⟩ := hE'
      obtain ⟨k, hk, hr⟩ := ins_trod hl2
      exact ⟨k, hk, l, hl1, hr⟩
    have hch : ∃ f : Nat → Ins, ∀ i, i < len → (f i).ok ∧ ∃ l, W.cells? 0 (a'.add (i * 4)) 4 = some l ∧ RepL (Gh.of W) W (inRow (f i)) l := by
      refine ⟨fun i => if h : i < len then (hone i h).choose else default, fun i hi => ?_⟩
      simp only [hi, dif_pos]
      exact (hone i hi).choose_spec
    obtain ⟨f, hf⟩ := hch
    have hlen : len * 32 ≤ 140737488351232 := by
      have := hs (((elems.map (·.1)).length + (rest.map (·.1)).length) * 32) (by rw [← bytes39]; simp [DataW.weights, Tryd.underlying22])
      rw [reach_eq] at this
      simp only [List.length_map] at this
      omega
    have hln : ((List.range len).map f).length = len := by simp
    refine ⟨(List.range len).map f, ⟨by rw [hln]; exact hlen, fun k hk => ?_⟩, ?_⟩
    · simp only [List.mem_map, List.mem_range] at hk
      obtain ⟨i, hi, rfl⟩ := hk
      exact (hf i hi).1
    · rcases Nat.eq_zero_or_pos len with rfl | hp
      · exact .vec0 _ _ (fun h => by cases h)
      · have hsp : a'.spot = none := by
          obtain ⟨_, l, hl1, _⟩ := hf 0 hp
          obtain ⟨h1, h2⟩ := cells_get hl1
          have h3 := h2 0 (by omega)
          have : l[0]? = some (l[0]'(by omega)) := List.getElem?_eq_getElem (by omega)
          rw [this] at h3
          have := cell_spot h3
          simpa [Addr.add] using this
        have hR : RowsAt (Gh.of W) W a'.block a'.off 4 (inRows ((List.range len).map f)) := by
          refine ⟨fun i r hr => ?_, fun i r j x hr hx => ?_⟩
          · rw [inRows_get] at hr
            simp only [Option.map_eq_some_iff] at hr
            obtain ⟨y, _, rfl⟩ := hr
            exact inRow_len y
          · rw [inRows_get] at hr
            simp only [Option.map_eq_some_iff] at hr
            obtain ⟨y, hy, rfl⟩ := hr
            simp only [List.getElem?_map, Option.map_eq_some_iff] at hy
            obtain ⟨i', hi', rfl⟩ := hy
            have hil : i < len := by
              rw [List.getElem?_eq_some_iff] at hi'
              obtain ⟨h, _⟩ := hi'
              simpa using h
            have : i' = i := by simpa [hil] using hi'.symm
            subst this
            obtain ⟨_, l, hl1, hr⟩ := hf i' hil
            obtain ⟨h1, h2⟩ := cells_get hl1
            have hj : j < 4 := by
              rw [List.getElem?_eq_some_iff] at hx
              obtain ⟨h, _⟩ := hx
              rw [inRow_len] at h
              exact h
            obtain ⟨u, hu, hru⟩ := hr.get hx
            have h3 := h2 j hj
            rw [hu, add_add a' _ _ hsp] at h3
            exact ⟨inRow_leaf _ j x hx, u, ⟨⟨u, h3⟩, h3⟩, hru⟩
        have := rep_vec hR (cap := cap) (by rw [inRows_len, hln]; exact hl)
        rw [inRows_len, hln] at this
        have ha : a' = ⟨a'.block, a'.off, none⟩ := by cases a'; simp_all
        rw [← ha] at this
        exact this

theorem sized_of {ts : List TypeId} {ds : List (DataW H)} (hsz : (DataW.weightsEach Tryd.prog ts ds).all (· ≤ reachBytes) = true) {j : Nat} {t : TypeId} {d : DataW H} (ht : ts[j]? = some t) (hd : ds[j]? = some d) : ∀ m ∈ DataW.weights Tryd.prog t d, m ≤ reachBytes := fun m hm => by
  have := List.all_eq_true.1 hsz m (DataW.weights_mem_each ht hd m hm)
  simpa using this
end Go.Am.V
