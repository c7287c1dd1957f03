/- THE ABSTRACT MACHINE, THIRD FILE: what its values and its memory say of the model's. -/
import Derived.Test.YtghpjjhdbankhaaAm1
import Derived.RangeFuncRecord
set_option linter.unusedVariables false
namespace Go.Am

structure Seg where
  b : Nat
  st : Nat
  ln : Nat
  cp : Nat
  es : Nat

/-- Where objects lie, and which cells are written no more. -/
structure Gh where
  blk : Nat → Nat → Prop
  seg : Nat → Nat → Seg → Prop
  im : Nat → Nat → Prop

structure Gh.Le (G G' : Gh) : Prop where
  blk : ∀ o b, G.blk o b → G'.blk o b
  seg : ∀ o g s, G.seg o g s → G'.seg o g s
  im : ∀ b f, G.im b f → G'.im b f

theorem Gh.Le.refl (G : Gh) : G.Le G := ⟨fun _ _ h => h, fun _ _ _ h => h, fun _ _ h => h⟩
theorem Gh.Le.trans {A B C : Gh} (h : A.Le B) (k : B.Le C) : A.Le C :=
  ⟨fun o b x => k.blk o b (h.blk o b x), fun o g s x => k.seg o g s (h.seg o g s x), fun b f x => k.im b f (h.im b f x)⟩

def Gh.cell (G : Gh) (w : World) (b f : Nat) (u : Value) : Prop := G.im b f ∧ w.cell? ⟨b, f, none⟩ = some u

inductive Rep (G : Gh) (w : World) : AV → Value → Prop
  | int (k : IntKind) (n : Int) : Rep G w (.int k n) (.int k n)
  | bool (b : Bool) : Rep G w (.bool b) (.bool b)
  | str (s : List UInt8) : Rep G w (.str s) (.string ⟨s.toArray⟩)
  | undef : Rep G w .undef (.tuple #[])
  | nilp : Rep G w .nilp (.pointer none)
  | nils : Rep G w .nils (.slice none 0 0)
  | nilm : Rep G w .nilm (.map none)
  | nilf : Rep G w .nilf .nilFunc
  | nili : Rep G w .nili .nilIface
  | emp (a : Addr) (cap : Nat) : Rep G w .emp (.slice (some a) 0 cap)
  | ifc (t : TypeId) (v : Value) : Rep G w .ifc (.iface t v)
  | ptr (o off b : Nat) (h : G.blk o b) : Rep G w (.ptr o off) (.pointer (some ⟨b, off, none⟩))
  | eptr (o g i off : Nat) (s : Seg) (h : G.seg o g s) : Rep G w (.eptr o g i off) (.pointer (some ⟨s.b, s.st + i * s.es + off, none⟩))
  | iptr (row : List AV) (off b p : Nat) (us : Nat → Value)
      (hl : ∀ (j : Nat) (x : AV), row[j]? = some x → leaf x = true) (hc : ∀ (j : Nat) (x : AV), row[j]? = some x → G.cell w b (p + j) (us j)) (hr : ∀ (j : Nat) (x : AV), row[j]? = some x → Rep G w x (us j)) :
      Rep G w (.iptr row off) (.pointer (some ⟨b, p + off, none⟩))
  | vec0 (a : Option Addr) (cap : Nat) (h : a = none → cap = 0) : Rep G w (.vec []) (.slice a 0 cap)
  | vec (rows : Rows) (es b p cap : Nat) (us : Nat → Nat → Value) (hcap : rows.length ≤ cap) (hes : ∀ (i : Nat) (r : List AV), rows[i]? = some r → r.length = es)
      (hl : ∀ (i : Nat) (r : List AV) (j : Nat) (x : AV), rows[i]? = some r → r[j]? = some x → leaf x = true)
      (hc : ∀ (i : Nat) (r : List AV) (j : Nat) (x : AV), rows[i]? = some r → r[j]? = some x → G.cell w b (p + i * es + j) (us i j)) (hr : ∀ (i : Nat) (r : List AV) (j : Nat) (x : AV), rows[i]? = some r → r[j]? = some x → Rep G w x (us i j)) :
      Rep G w (.vec rows) (.slice (some ⟨b, p, none⟩) rows.length cap)
  | lit0 (a : Option Addr) : Rep G w (.lit []) (.slice a 0 0)
  | lit (rows : Rows) (es b p : Nat) (us : Nat → Nat → Value) (hes : ∀ (i : Nat) (r : List AV), rows[i]? = some r → r.length = es)
      (hl : ∀ (i : Nat) (r : List AV) (j : Nat) (x : AV), rows[i]? = some r → r[j]? = some x → leaf x = true)
      (hc : ∀ (i : Nat) (r : List AV) (j : Nat) (x : AV), rows[i]? = some r → r[j]? = some x → G.cell w b (p + i * es + j) (us i j)) (hr : ∀ (i : Nat) (r : List AV) (j : Nat) (x : AV), rows[i]? = some r → r[j]? = some x → Rep G w x (us i j)) :
      Rep G w (.lit rows) (.slice (some ⟨b, p, none⟩) rows.length rows.length)
  | own (rows : Rows) (o g : Nat) (s : Seg) (us : Nat → Nat → Value) (hs : G.seg o g s) (hn : rows.length = s.ln) (hcap : s.ln ≤ s.cp) (hes : ∀ (i : Nat) (r : List AV), rows[i]? = some r → r.length = s.es)
      (hl : ∀ (i : Nat) (r : List AV) (j : Nat) (x : AV), rows[i]? = some r → r[j]? = some x → leaf x = true)
      (hc : ∀ (i : Nat) (r : List AV) (j : Nat) (x : AV), rows[i]? = some r → r[j]? = some x → G.cell w s.b (s.st + i * s.es + j) (us i j)) (hr : ∀ (i : Nat) (r : List AV) (j : Nat) (x : AV), rows[i]? = some r → r[j]? = some x → Rep G w x (us i j)) :
      Rep G w (.own rows o g) (.slice (some ⟨s.b, s.st, none⟩) rows.length s.cp)
  | sref (o g off len : Nat) (s : Seg) (hs : G.seg o g s) (h : off < s.cp) (hle : off + len ≤ s.cp) : Rep G w (.sref o g off len) (.slice (some ⟨s.b, s.st + off * s.es, none⟩) len (s.cp - off))
  | sref0 (o g off : Nat) (s : Seg) (hs : G.seg o g s) (h : off = s.cp) (a : Addr) : Rep G w (.sref o g off 0) (.slice (some a) 0 0)
  | map (o b : Nat) (h : G.blk o b) : Rep G w (.map o) (.map (some b))
  | fn (f : FuncId) (first cap : List AV) (vf vc : Array Value) (uf uc : Nat → Value) (nf : vf.size = first.length) (nc : vc.size = cap.length)
      (hf : ∀ (j : Nat) (x : AV), first[j]? = some x → vf[j]? = some (uf j)) (hc : ∀ (j : Nat) (x : AV), cap[j]? = some x → vc[j]? = some (uc j))
      (rf : ∀ (j : Nat) (x : AV), first[j]? = some x → Rep G w x (uf j)) (rc : ∀ (j : Nat) (x : AV), cap[j]? = some x → Rep G w x (uc j)) : Rep G w (.fn f first cap) (.func (.func f) vf vc)
  | yield (l b : Nat) (h : G.blk l b) : Rep G w (.yield l) (.func (.yield b) #[] #[])
  | agg (cs : List AV) (vs : Array Value) (us : Nat → Value) (hn : vs.size = cs.length) (hl : ∀ (j : Nat) (x : AV), cs[j]? = some x → leaf x = true)
      (hv : ∀ (j : Nat) (x : AV), cs[j]? = some x → vs[j]? = some (us j)) (hr : ∀ (j : Nat) (x : AV), cs[j]? = some x → Rep G w x (us j)) : Rep G w (.agg cs) (.agg vs)
  | tup (cs : List AV) (vs : Array Value) (us : Nat → Value) (hn : vs.size = cs.length)
      (hv : ∀ (j : Nat) (x : AV), cs[j]? = some x → vs[j]? = some (us j)) (hr : ∀ (j : Nat) (x : AV), cs[j]? = some x → Rep G w x (us j)) : Rep G w (.tup cs) (.tuple vs)

/-- Cells that are written no more are as they were. -/
def Kept (G : Gh) (w w' : World) : Prop := ∀ b f u, G.im b f → w.cell? ⟨b, f, none⟩ = some u → w'.cell? ⟨b, f, none⟩ = some u

theorem Gh.cell.mono {G G' : Gh} {w w' : World} (hg : G.Le G') (hk : Kept G w w') {b f : Nat} {u : Value} (h : G.cell w b f u) : G'.cell w' b f u :=
  ⟨hg.im _ _ h.1, hk _ _ _ h.1 h.2⟩

theorem Rep.mono {G G' : Gh} {w w' : World} (hg : G.Le G') (hk : Kept G w w') {x : AV} {v : Value} (h : Rep G w x v) : Rep G' w' x v := by
  induction h with
  | int => exact .int _ _
  | bool => exact .bool _
  | str => exact .str _
  | undef => exact .undef
  | nilp => exact .nilp
  | nils => exact .nils
  | nilm => exact .nilm
  | nilf => exact .nilf
  | nili => exact .nili
  | emp => exact .emp _ _
  | ifc => exact .ifc _ _
  | ptr o off b h => exact .ptr _ _ _ (hg.blk _ _ h)
  | eptr o g i off s h => exact .eptr _ _ _ _ _ (hg.seg _ _ _ h)
  | iptr row off b p us hl hc hr ih => exact .iptr _ _ _ _ us hl (fun j x h => (hc j x h).mono hg hk) ih
  | vec0 a cap h => exact .vec0 _ _ h
  | vec rows es b p cap us hcap hes hl hc hr ih => exact .vec _ _ _ _ _ us hcap hes hl (fun i r j x h h' => (hc i r j x h h').mono hg hk) ih
  | lit0 a => exact .lit0 _
  | lit rows es b p us hes hl hc hr ih => exact .lit _ _ _ _ us hes hl (fun i r j x h h' => (hc i r j x h h').mono hg hk) ih
  | own rows o g s us hs hn hcap hes hl hc hr ih => exact .own _ _ _ _ us (hg.seg _ _ _ hs) hn hcap hes hl (fun i r j x h h' => (hc i r j x h h').mono hg hk) ih
  | sref o g off len s hs h hle => exact .sref _ _ _ _ _ (hg.seg _ _ _ hs) h hle
  | sref0 o g off s hs h a => exact .sref0 _ _ _ _ (hg.seg _ _ _ hs) h _
  | map o b h => exact .map _ _ (hg.blk _ _ h)
  | fn f first cap vf vc uf uc nf nc hf hc _ _ ihf ihc => exact .fn _ _ _ _ _ uf uc nf nc hf hc ihf ihc
  | yield l b h => exact .yield _ _ (hg.blk _ _ h)
  | agg cs vs us hn hl hv _ ih => exact .agg _ _ us hn hl hv ih
  | tup cs vs us hn hv _ ih => exact .tup _ _ us hn hv ih

/-! ### Rows of values -/
/-- Values, one by one. -/
def RepL (G : Gh) (w : World) (xs : List AV) (vs : List Value) : Prop := vs.length = xs.length ∧ ∀ (j : Nat) (x : AV), xs[j]? = some x → ∃ u, vs[j]? = some u ∧ Rep G w x u

theorem RepL.mono {G G' : Gh} {w w' : World} (hg : G.Le G') (hk : Kept G w w') {xs : List AV} {vs : List Value} (h : RepL G w xs vs) : RepL G' w' xs vs :=
  ⟨h.1, fun j x hx => let ⟨u, h1, h2⟩ := h.2 j x hx; ⟨u, h1, h2.mono hg hk⟩⟩

theorem RepL.nil (G : Gh) (w : World) : RepL G w [] [] := ⟨rfl, fun j x h => by simp at h⟩
theorem RepL.cons {G : Gh} {w : World} {x : AV} {v : Value} {xs : List AV} {vs : List Value} (h : Rep G w x v) (t : RepL G w xs vs) : RepL G w (x :: xs) (v :: vs) :=
  ⟨by simp [t.1], fun j y hy => by
    cases j with
    | zero => simp at hy; subst hy; exact ⟨v, by simp, h⟩
    | succ j => simp at hy; simpa using t.2 j y hy⟩
theorem RepL.uncons {G : Gh} {w : World} {x : AV} {xs : List AV} {vs : List Value} (h : RepL G w (x :: xs) vs) : ∃ v vs', vs = v :: vs' ∧ Rep G w x v ∧ RepL G w xs vs' := by
  obtain ⟨h1, h2⟩ := h
  cases vs with
  | nil => simp at h1
  | cons v vs =>
    obtain ⟨u, hu, hr⟩ := h2 0 x (by simp)
    simp at hu
    subst hu
    exact ⟨v, vs, rfl, hr, by simpa using h1, fun j y hy => by simpa using h2 (j + 1) y (by simpa using hy)⟩
theorem RepL.nil_inv {G : Gh} {w : World} {vs : List Value} (h : RepL G w [] vs) : vs = [] := by
  have := h.1
  exact List.eq_nil_of_length_eq_zero (by simpa using this)
theorem RepL.append {G : Gh} {w : World} {xs ys : List AV} {vs us : List Value} (h : RepL G w xs vs) (k : RepL G w ys us) : RepL G w (xs ++ ys) (vs ++ us) := by
  refine ⟨by simp [h.1, k.1], fun j x hx => ?_⟩
  rcases Nat.lt_or_ge j xs.length with hj | hj
  · rw [List.getElem?_append_left hj] at hx
    rw [List.getElem?_append_left (by rw [h.1]; exact hj)]
    exact h.2 j x hx
  · rw [List.getElem?_append_right hj] at hx
    rw [List.getElem?_append_right (by rw [h.1]; exact hj), h.1]
    exact k.2 _ x hx
theorem RepL.take {G : Gh} {w : World} {xs : List AV} {vs : List Value} (h : RepL G w xs vs) (n : Nat) : RepL G w (xs.take n) (vs.take n) := by
  refine ⟨by simp [h.1], fun j x hx => ?_⟩
  rw [List.getElem?_take] at hx ⊢
  split at hx
  · rename_i hj
    rw [if_pos hj]
    exact h.2 j x hx
  · simp at hx
theorem RepL.drop {G : Gh} {w : World} {xs : List AV} {vs : List Value} (h : RepL G w xs vs) (n : Nat) : RepL G w (xs.drop n) (vs.drop n) := by
  refine ⟨by simp [h.1], fun j x hx => ?_⟩
  rw [List.getElem?_drop] at hx ⊢
  exact h.2 _ x hx
theorem RepL.set {G : Gh} {w : World} {xs : List AV} {vs : List Value} (h : RepL G w xs vs) (n : Nat) {x : AV} {v : Value} (hv : Rep G w x v) : RepL G w (xs.set n x) (vs.set n v) := by
  refine ⟨by simp [h.1], fun j y hy => ?_⟩
  rw [List.getElem?_set] at hy ⊢
  split at hy
  · rename_i hn
    subst hn
    split at hy
    · rename_i hlt
      simp at hy
      subst hy
      exact ⟨v, by simp [h.1, hlt], hv⟩
    · simp at hy
  · rename_i hn
    rw [if_neg hn]
    exact h.2 j y hy
theorem RepL.get {G : Gh} {w : World} {xs : List AV} {vs : List Value} (h : RepL G w xs vs) {j : Nat} {x : AV} (hx : xs[j]? = some x) : ∃ u, vs[j]? = some u ∧ Rep G w x u := h.2 j x hx
theorem RepL.getD {G : Gh} {w : World} {xs : List AV} {vs : List Value} (h : RepL G w xs vs) (j : Nat) : Rep G w (xs.getD j .undef) (vs.getD j undef) := by
  cases hx : xs[j]? with
  | some x =>
    obtain ⟨u, hu, hr⟩ := h.2 j x hx
    simp [List.getD, hx, hu, hr]
  | none =>
    have hv : vs[j]? = none := by
      rw [List.getElem?_eq_none_iff] at hx ⊢
      rw [h.1]; exact hx
    simp [List.getD, hx, hv]
    exact Rep.undef
theorem RepL.replicate {G : Gh} {w : World} (n : Nat) {x : AV} {v : Value} (h : Rep G w x v) : RepL G w (List.replicate n x) (List.replicate n v) := by
  refine ⟨by simp, fun j y hy => ?_⟩
  rw [List.getElem?_replicate] at hy ⊢
  split at hy
  · rename_i hj; simp at hy; subst hy; exact ⟨v, by simp [hj], h⟩
  · simp at hy

theorem rep_agg {G : Gh} {w : World} {cs : List AV} {vs : Array Value} : Rep G w (.agg cs) (.agg vs) ↔ RepL G w cs vs.toList ∧ ∀ (j : Nat) (x : AV), cs[j]? = some x → leaf x = true := by
  constructor
  · intro h
    cases h with
    | agg _ _ us hn hl hv hr =>
      exact ⟨⟨by simpa using hn, fun j x hx => ⟨us j, by simpa using hv j x hx, hr j x hx⟩⟩, hl⟩
  · rintro ⟨⟨hn, h⟩, hl⟩
    refine .agg cs vs (fun j => vs.getD j undef) (by simpa using hn) hl (fun j x hx => ?_) (fun j x hx => ?_)
    · obtain ⟨u, hu, _⟩ := h j x hx
      have hu' : vs[j]? = some u := by simpa using hu
      simp [Array.getD_eq_getD_getElem?, hu']
    · obtain ⟨u, hu, hr⟩ := h j x hx
      have hu' : vs[j]? = some u := by simpa using hu
      simpa [Array.getD_eq_getD_getElem?, hu'] using hr
theorem rep_agg_inv {G : Gh} {w : World} {cs : List AV} {v : Value} (h : Rep G w (.agg cs) v) : ∃ vs, v = .agg vs ∧ RepL G w cs vs.toList ∧ ∀ (j : Nat) (x : AV), cs[j]? = some x → leaf x = true := by
  cases h with
  | agg _ vs us hn hl hv hr => exact ⟨vs, rfl, rep_agg.1 (.agg _ _ us hn hl hv hr)⟩
theorem rep_tup {G : Gh} {w : World} {cs : List AV} {vs : Array Value} : Rep G w (.tup cs) (.tuple vs) ↔ RepL G w cs vs.toList := by
  constructor
  · intro h
    cases h with
    | tup _ _ us hn hv hr => exact ⟨by simpa using hn, fun j x hx => ⟨us j, by simpa using hv j x hx, hr j x hx⟩⟩
  · rintro ⟨hn, h⟩
    refine .tup cs vs (fun j => vs.getD j undef) (by simpa using hn) (fun j x hx => ?_) (fun j x hx => ?_)
    · obtain ⟨u, hu, _⟩ := h j x hx
      have hu' : vs[j]? = some u := by simpa using hu
      simp [Array.getD_eq_getD_getElem?, hu']
    · obtain ⟨u, hu, hr⟩ := h j x hx
      have hu' : vs[j]? = some u := by simpa using hu
      simpa [Array.getD_eq_getD_getElem?, hu'] using hr
theorem rep_tup_inv {G : Gh} {w : World} {cs : List AV} {v : Value} (h : Rep G w (.tup cs) v) : ∃ vs, v = .tuple vs ∧ RepL G w cs vs.toList := by
  cases h with
  | tup _ vs us hn hv hr => exact ⟨vs, rfl, rep_tup.1 (.tup _ _ us hn hv hr)⟩
theorem rep_fn {G : Gh} {w : World} {f : FuncId} {a b : List AV} {vf vc : Array Value} (ha : RepL G w a vf.toList) (hb : RepL G w b vc.toList) : Rep G w (.fn f a b) (.func (.func f) vf vc) := by
  have key : ∀ {l : List AV} {vs : Array Value}, RepL G w l vs.toList → (∀ (j : Nat) (x : AV), l[j]? = some x → vs[j]? = some ((fun j => vs.getD j undef) j)) ∧ (∀ (j : Nat) (x : AV), l[j]? = some x → Rep G w x ((fun j => vs.getD j undef) j)) := by
    intro l vs h
    refine ⟨fun j x hx => ?_, fun j x hx => ?_⟩
    · obtain ⟨u, hu, _⟩ := h.2 j x hx
      have hu' : vs[j]? = some u := by simpa using hu
      simp [Array.getD_eq_getD_getElem?, hu']
    · obtain ⟨u, hu, hr⟩ := h.2 j x hx
      have hu' : vs[j]? = some u := by simpa using hu
      simpa [Array.getD_eq_getD_getElem?, hu'] using hr
  exact .fn f a b vf vc _ _ (by simpa using ha.1) (by simpa using hb.1) (key ha).1 (key hb).1 (key ha).2 (key hb).2
theorem rep_fn_inv {G : Gh} {w : World} {f : FuncId} {a b : List AV} {v : Value} (h : Rep G w (.fn f a b) v) : ∃ vf vc, v = .func (.func f) vf vc ∧ RepL G w a vf.toList ∧ RepL G w b vc.toList := by
  cases h with
  | fn _ _ _ vf vc uf uc nf nc hf hc rf rc =>
    exact ⟨vf, vc, rfl, ⟨by simpa using nf, fun j x hx => ⟨uf j, by simpa using hf j x hx, rf j x hx⟩⟩, ⟨by simpa using nc, fun j x hx => ⟨uc j, by simpa using hc j x hx, rc j x hx⟩⟩⟩

theorem rep_oneCell {G : Gh} {w : World} {x : AV} {v : Value} (h : Rep G w x v) (hl : leaf x = true) : v.oneCell' = true := by
  cases h <;> first | rfl | (simp [leaf] at hl)

/-- The cells of a value. -/
theorem rep_cells {G : Gh} {w : World} {x : AV} {v : Value} (h : Rep G w x v) (hl : leafC x = true) : RepL G w x.cells v.cells.toList ∧ ∀ (j : Nat) (y : AV), x.cells[j]? = some y → leaf y = true := by
  cases x with
  | agg cs =>
    obtain ⟨vs, rfl, h1, h2⟩ := rep_agg_inv h
    exact ⟨h1, h2⟩
  | tup => simp [leafC, leaf] at hl
  | undef => simp [leafC, leaf] at hl
  | _ =>
    have hv : v.cells = #[v] := by cases h <;> rfl
    rw [hv]
    refine ⟨RepL.cons h (RepL.nil _ _), fun j y hy => ?_⟩
    cases j with
    | zero => simp [AV.cells] at hy; subst hy; exact hl
    | succ j => simp [AV.cells] at hy

/-! ### Immutable rows -/
/-- Rows of cells that lie in w from cell p of block b on. -/
structure RowsAt (G : Gh) (w : World) (b p es : Nat) (rows : Rows) : Prop where
  len : ∀ (i : Nat) (r : List AV), rows[i]? = some r → r.length = es
  cell : ∀ (i : Nat) (r : List AV) (j : Nat) (x : AV), rows[i]? = some r → r[j]? = some x → leaf x = true ∧ ∃ u, G.cell w b (p + i * es + j) u ∧ Rep G w x u

theorem rowsAt_us {G : Gh} {w : World} {b p es : Nat} {rows : Rows} (h : RowsAt G w b p es rows) : ∃ us : Nat → Nat → Value,
    (∀ (i : Nat) (r : List AV) (j : Nat) (x : AV), rows[i]? = some r → r[j]? = some x → G.cell w b (p + i * es + j) (us i j)) ∧ (∀ (i : Nat) (r : List AV) (j : Nat) (x : AV), rows[i]? = some r → r[j]? = some x → Rep G w x (us i j)) := by
  refine ⟨fun i j => (w.cell? ⟨b, p + i * es + j, none⟩).getD undef, fun i r j x hi hj => ?_, fun i r j x hi hj => ?_⟩
  · obtain ⟨_, u, hc, _⟩ := h.cell i r j x hi hj
    show G.cell w b _ ((w.cell? _).getD undef)
    rw [hc.2]; exact hc
  · obtain ⟨_, u, hc, hr⟩ := h.cell i r j x hi hj
    show Rep G w x ((w.cell? _).getD undef)
    rw [hc.2]; exact hr

theorem RowsAt.mono {G G' : Gh} {w w' : World} (hg : G.Le G') (hk : Kept G w w') {b p es : Nat} {rows : Rows} (h : RowsAt G w b p es rows) : RowsAt G' w' b p es rows :=
  ⟨h.len, fun i r j x hi hj => let ⟨a, u, hc, hr⟩ := h.cell i r j x hi hj; ⟨a, u, hc.mono hg hk, hr.mono hg hk⟩⟩

theorem rep_vec {G : Gh} {w : World} {b p es cap : Nat} {rows : Rows} (h : RowsAt G w b p es rows) (hc : rows.length ≤ cap) : Rep G w (.vec rows) (.slice (some ⟨b, p, none⟩) rows.length cap) := by
  obtain ⟨us, h1, h2⟩ := rowsAt_us h
  exact .vec rows es b p cap us hc h.len (fun i r j x hi hj => (h.cell i r j x hi hj).1) h1 h2
theorem rep_lit {G : Gh} {w : World} {b p es : Nat} {rows : Rows} (h : RowsAt G w b p es rows) : Rep G w (.lit rows) (.slice (some ⟨b, p, none⟩) rows.length rows.length) := by
  obtain ⟨us, h1, h2⟩ := rowsAt_us h
  exact .lit rows es b p us h.len (fun i r j x hi hj => (h.cell i r j x hi hj).1) h1 h2
theorem rep_own {G : Gh} {w : World} {o g : Nat} {s : Seg} {rows : Rows} (hs : G.seg o g s) (hn : rows.length = s.ln) (hc : s.ln ≤ s.cp) (h : RowsAt G w s.b s.st s.es rows) :
    Rep G w (.own rows o g) (.slice (some ⟨s.b, s.st, none⟩) rows.length s.cp) := by
  obtain ⟨us, h1, h2⟩ := rowsAt_us h
  exact .own rows o g s us hs hn hc h.len (fun i r j x hi hj => (h.cell i r j x hi hj).1) h1 h2

/-- A slice value of plain rows: nothing, or rows somewhere. -/
theorem rep_rows_inv {G : Gh} {w : World} {x : AV} {v : Value} {rows : Rows} (h : Rep G w x v) (hx : (∃ r, x = .vec r ∧ rows = r) ∨ (∃ r, x = .lit r ∧ rows = r) ∨ (∃ r o g, x = .own r o g ∧ rows = r) ∨ (x = .nils ∧ rows = []) ∨ (x = .emp ∧ rows = [])) :
    ∃ a cap, v = .slice a rows.length cap ∧ rows.length ≤ cap ∧ (a = none → cap = 0) ∧ (rows = [] ∨ ∃ b p es, a = some ⟨b, p, none⟩ ∧ RowsAt G w b p es rows) := by
  rcases hx with ⟨r, rfl, rfl⟩ | ⟨r, rfl, rfl⟩ | ⟨r, o, g, rfl, rfl⟩ | ⟨rfl, rfl⟩ | ⟨rfl, rfl⟩
  · cases h with
    | vec0 a cap h => exact ⟨a, cap, rfl, Nat.zero_le _, h, .inl rfl⟩
    | vec _ es b p cap us hcap hes hl hc hr =>
      exact ⟨_, _, rfl, hcap, by simp, .inr ⟨b, p, es, rfl, hes, fun i r j x hi hj => ⟨hl i r j x hi hj, us i j, hc i r j x hi hj, hr i r j x hi hj⟩⟩⟩
  · cases h with
    | lit0 a => exact ⟨a, 0, rfl, Nat.zero_le _, fun _ => rfl, .inl rfl⟩
    | lit _ es b p us hes hl hc hr =>
      exact ⟨_, _, rfl, Nat.le_refl _, by simp, .inr ⟨b, p, es, rfl, hes, fun i r j x hi hj => ⟨hl i r j x hi hj, us i j, hc i r j x hi hj, hr i r j x hi hj⟩⟩⟩
  · cases h with
    | own _ _ _ s us hs hn hcap hes hl hc hr =>
      exact ⟨_, _, rfl, by rw [hn]; exact hcap, by simp, .inr ⟨s.b, s.st, s.es, rfl, hes, fun i r j x hi hj => ⟨hl i r j x hi hj, us i j, hc i r j x hi hj, hr i r j x hi hj⟩⟩⟩
  · cases h; exact ⟨none, 0, rfl, Nat.le_refl _, fun _ => rfl, .inl rfl⟩
  · cases h; exact ⟨_, _, rfl, Nat.zero_le _, by simp, .inl rfl⟩

end Go.Am
