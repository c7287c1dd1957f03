/- THE LAW ArenaHandles: its rows. -/
import Derived.Test.YtbmfnoaogebjfaaDoorU10
set_option linter.unusedSimpArgs false
set_option linter.unusedVariables false
set_option maxRecDepth 20000
namespace Go.Am.R
open Go.Proofs Go.IntWalk

variable {w : Ways}

/-- A deed. -/
structure Deed where
  node : Node
  drop : Bool
  h : Int
def Deed.row (d : Deed) : List AV := d.node.cells ++ [.bool d.drop, .int .i64 d.h]
theorem Deed.row_len (d : Deed) : d.row.length = 9 := by simp [Deed.row, Node.cells_len]
theorem Deed.row_take (d : Deed) : d.row.take 7 = d.node.cells := by
  rw [Deed.row, List.take_append_of_le_length (by rw [Node.cells_len]; omega)]
  exact Node.cells_take d.node
theorem Deed.row7 (d : Deed) : d.row[7]? = some (.bool d.drop) := by
  rw [Deed.row, List.getElem?_append_right (by rw [Node.cells_len]; omega), Node.cells_len]; rfl
theorem Deed.row8 (d : Deed) : d.row[8]? = some (.int .i64 d.h) := by
  rw [Deed.row, List.getElem?_append_right (by rw [Node.cells_len]; omega), Node.cells_len]; rfl
def drows (l : List Deed) : Rows := l.map Deed.row
theorem drows_len (l : List Deed) : (drows l).length = l.length := by simp [drows]
theorem drows_get {l : List Deed} {i : Nat} {d : Deed} (h : l[i]? = some d) : (drows l)[i]? = some d.row := by simp [drows, h]
theorem Deed.row_nrm (d : Deed) : nrmL d.row = some d.row := by
  have h : ∀ (a b : List AV), nrmL a = some a → nrmL b = some b → nrmL (a ++ b) = some (a ++ b) := by
    intro a b ha hb
    induction a with
    | nil => simpa using hb
    | cons x xs ih =>
      simp only [nrmL, Option.bind_eq_some_iff, Option.map_eq_some_iff] at ha
      obtain ⟨y, hy, ys, hys, hxy⟩ := ha
      obtain ⟨rfl, rfl⟩ := List.cons.inj hxy
      simp [nrmL, hy, ih hys]
  exact h _ _ (Node.nrm_all d.node) (by simp [nrmL, nrm])
theorem drows_nrm (l : List Deed) : nrmR (drows l) = some (drows l) := by
  induction l with
  | nil => rfl
  | cons d l ih =>
    have h : drows (d :: l) = d.row :: drows l := rfl
    rw [h]; simp [nrmR, Deed.row_nrm, ih, keepN_self]
def bls (g : List Bool) : Rows := g.map fun b => [.bool b]
theorem bls_len (g : List Bool) : (bls g).length = g.length := by simp [bls]
theorem bls_get {g : List Bool} {i : Nat} {b : Bool} (h : g[i]? = some b) : (bls g)[i]? = some [.bool b] := by simp [bls, h]
theorem bls_set (g : List Bool) (i : Nat) (b : Bool) : (bls g).set i [.bool b] = bls (g.set i b) := by simp [bls, List.map_set]

/-- v isn't at q. -/
def Sw (v : AV) (q : Nat) : Prop := ∀ o g f n, v = .sref o g f n → o ≠ q
theorem MV.sw {es es' : Nat} {v : AV} {R : Rows} {S : St} {q g : Nat} {rows : Rows} {e : Nat} (h : MV es v R S) (hg : S.get q = some (.seq g es' rows e)) (hne : es ≠ es') : Sw v q := by
  rcases h with ⟨_, rfl | rfl⟩ | ⟨o, g', rfl, h3, h4⟩
  · intro _ _ _ _ e; cases e
  · intro _ _ _ _ e; cases e
  · intro _ _ _ _ e; cases e; intro hq; subst hq; rw [h4] at hg; cases hg; exact hne rfl
theorem MV.sw_row {es : Nat} {v : AV} {R : Rows} {S : St} {q : Nat} {c : List AV} {lk : Bool} (h : MV es v R S) (hg : S.get q = some (.row c lk)) : Sw v q := by
  rcases h with ⟨_, rfl | rfl⟩ | ⟨o, g', rfl, h3, h4⟩
  · intro _ _ _ _ e; cases e
  · intro _ _ _ _ e; cases e
  · intro _ _ _ _ e; cases e; intro hq; subst hq; rw [h4] at hg; cases hg
theorem MV.push {es : Nat} {v : AV} {R : Rows} {S : St} (h : MV es v R S) (a : AObj) : MV es v R (S.push a) :=
  h.kp (by rw [St.pushN]; omega) fun q g rows e hq hg => by rw [St.get_pushn (by omega)]; exact hg
theorem MV.setRow {es : Nat} {v : AV} {R : Rows} {S : St} (h : MV es v R S) {q : Nat} {c : List AV} {lk : Bool} (hq : q < S.n) (hg : S.get q = some (.row c lk)) (a : AObj) : MV es v R (S.set q a) :=
  h.kp (by rw [St.setN]; omega) fun i g rows e hi hgi => by
    by_cases e1 : i = q
    · subst e1; rw [hg] at hgi; cases hgi
    · rw [St.get_setn hq e1]; exact hgi
/-- Appending where rows may be written: all else stays. -/
theorem app_mv2 {es bytes : Nat} {R : Rows} {v : AV} {S : St} (row : List AV) (h : MV es v R S) (hok : S.ok) (hb : S.base = 0) (hr : row.length = es) (hh : headOk es R = true) (hc : capOk (R.length + 1) bytes = true) :
    ∃ v' S', aappend es bytes true v [row] S = some (v', S') ∧ MV es v' (R ++ [row]) S' ∧ S'.ok ∧ S'.base = 0 ∧ S.n ≤ S'.n ∧ leafC v' = true ∧ v'.cells = [v'] ∧
      (∀ q x, q < S.n → Sw v q → S.get q = some x → S'.get q = some x) := by
  have hh' : headOk es [row] = true := by simp [headOk, hr]
  have hf : aappend.fresh es true [row] S = some (.sref S.n 0 0 1, S.push (.seq 0 es [row] 0)) := rfl
  have hm : MV es (.sref S.n 0 0 1) [row] (S.push (.seq 0 es [row] 0)) := .inr ⟨S.n, 0, rfl, by rw [St.pushN]; omega, St.get_pushe⟩
  rcases h with ⟨rfl, rfl | rfl⟩ | ⟨o, g, rfl, h3, h4⟩
  · refine ⟨.sref S.n 0 0 1, S.push (.seq 0 es [row] 0), ?_, hm, St.ok_push hok, by rw [St.pushB]; exact hb, by rw [St.pushN]; omega, rfl, rfl, fun q x hq hx hg => by rw [St.get_pushn (by omega)]; exact hg⟩
    have hc' : capOk (([] : Rows).length + ([row] : Rows).length) bytes = true := hc
    simp [aappend, hh', hh, hf]
    simpa using hc
  · refine ⟨.sref S.n 0 0 1, S.push (.seq 0 es [row] 0), ?_, hm, St.ok_push hok, by rw [St.pushB]; exact hb, by rw [St.pushN]; omega, rfl, rfl, fun q x hq hx hg => by rw [St.get_pushn (by omega)]; exact hg⟩
    simp [aappend, hh', hf]
    simpa using hc
  · refine ⟨.sref o (g + 1) 0 (R.length + 1), S.set o (.seq (g + 1) es (R ++ [row]) 0), ?_, .inr ⟨o, g + 1, by simp, by rw [St.setN]; exact h3, St.get_sete hok h3⟩, St.ok_set hok, by rw [St.setB]; exact hb, by rw [St.setN]; omega, rfl, rfl, fun q x hq hx hg => ?_⟩
    · have hb' : S.base ≤ o := by omega
      have hc' : capOk (R.length + ([row] : Rows).length) bytes = true := hc
      simp [aappend, hh', h4, hb']
      simpa using hc'
    · rw [St.get_setn h3 (fun e => hx _ _ _ _ rfl e.symm)]; exact hg
/-- .. and another slice of other rows stays. -/
theorem MV.other {es es' : Nat} {v u : AV} {R Q : Rows} {S S' : St} (hu : MV es' u Q S) (hv : MV es v R S) (hne : es ≠ es') (hn : S.n ≤ S'.n) (hg : ∀ q x, q < S.n → Sw v q → S.get q = some x → S'.get q = some x) : MV es' u Q S' := by
  rcases hu with h | ⟨o, g, h2, h3, h4⟩
  · exact .inl h
  · exact .inr ⟨o, g, h2, by omega, hg _ _ h3 (hv.sw h4 hne) h4⟩
theorem nrows_hd (ks : List Node) : headOk 7 (Node.rows ks) = true := by
  cases ks with
  | nil => rfl
  | cons x xs => simp [Node.rows, Node.cellsL, headOk, Node.cells_len]
theorem nrows_snoc (ks : List Node) (n : Node) : Node.rows ks ++ [n.cells] = Node.rows (ks ++ [n]) := by simp [Node.rows_map]
theorem bls_hd (g : List Bool) : headOk 1 (bls g) = true := by cases g <;> rfl
theorem bls_snoc (g : List Bool) (b : Bool) : bls g ++ [[.bool b]] = bls (g ++ [b]) := by simp [bls]
end Go.Am.R
