/- THE BUILDER: what its memory holds. -/
import Derived.Test.YtbmfnoaogebjfaaDoorT1
set_option linter.unusedSimpArgs false
set_option linter.unusedVariables false
namespace Go.Am.R
open Go.Proofs

def optI : Option Nat → Int
  | none => -1
  | some i => (i : Int)
def ks (l : List Nat) : Rows := l.map fun k : Nat => [.int .i64 (k : Int)]
def rs (r : List (Option Nat)) : Rows := r.map fun o => [.int .i64 (optI o)]
theorem ks_len (l : List Nat) : (ks l).length = l.length := by simp [ks]
theorem ks_get (l : List Nat) (i : Nat) : (ks l)[i]? = (l[i]?).map fun k : Nat => [.int .i64 (k : Int)] := by simp [ks]
theorem rs_len (l : List (Option Nat)) : (rs l).length = l.length := by simp [rs]
theorem rs_get (l : List (Option Nat)) (i : Nat) : (rs l)[i]? = (l[i]?).map fun o => [.int .i64 (optI o)] := by simp [rs]
theorem nrmR_ks (l : List Nat) : nrmR (ks l) = some (ks l) := by
  induction l with
  | nil => rfl
  | cons x xs ih =>
    have h : ks (x :: xs) = [.int .i64 (x : Int)] :: ks xs := rfl
    rw [h]; simp [nrmR, nrmL, nrm, ih]
theorem nrmR_rs (l : List (Option Nat)) : nrmR (rs l) = some (rs l) := by
  induction l with
  | nil => rfl
  | cons x xs ih =>
    have h : rs (x :: xs) = [.int .i64 (optI x)] :: rs xs := rfl
    rw [h]; simp [nrmR, nrmL, nrm, ih]

/-- A slot's numbers. -/
def IsK (c : AV) (l : List Nat) : Prop := c = .vec (ks l) ∨ (l ≠ [] ∧ ∃ o g, c = .own (ks l) o g) ∨ (l = [] ∧ c = .nils)
def IsE (c : AV) : Prop := c = .nils ∨ c = .vec []
theorem IsK.nrm {c : AV} {l : List Nat} (h : IsK c l) : Am.nrm c = some (.vec (ks l)) := by
  rcases h with rfl | ⟨_, o, g, rfl⟩ | ⟨rfl, rfl⟩
  · simp [Am.nrm, nrmR_ks]
  · simp [Am.nrm, nrmR_ks]
  · rfl
theorem IsE.nrm {c : AV} (h : IsE c) : Am.nrm c = some (.vec []) := by
  rcases h with rfl | rfl <;> rfl

def slC (s : Sl) (c6 c7 : AV) : List AV := [.str s.fs.kind, .bool s.fs.named, .str s.fs.field, .int .i64 s.fs.frm, .int .i64 s.fs.to, .int .i64 s.fs.bad, c6, c7, .int .i64 (max s.refs 0), .int .i64 (optI s.next)]
def SlRow (s : Sl) (row : List AV) : Prop := ∃ c6 c7, row = slC s c6 c7 ∧ IsE c6 ∧ IsK c7 s.kids
def slCan (s : Sl) : List AV := slC s (.vec []) (.vec (ks s.kids))
theorem SlRow.nrm {s : Sl} {row : List AV} (h : SlRow s row) : nrmL row = some (slCan s) := by
  obtain ⟨c6, c7, rfl, h6, h7⟩ := h
  simp [slC, slCan, nrmL, Am.nrm, h6.nrm, h7.nrm]
theorem SlRow.can (s : Sl) : SlRow s (slCan s) := ⟨_, _, rfl, .inr rfl, .inl rfl⟩
theorem SlRow.len {s : Sl} {row : List AV} (h : SlRow s row) : row.length = 10 := by
  obtain ⟨c6, c7, rfl, _⟩ := h; rfl

/-- Slots' rows. -/
inductive SlRows : List Sl → Rows → Prop
  | nil : SlRows [] []
  | cons {s : Sl} {row : List AV} {S : List Sl} {R : Rows} (h : SlRow s row) (hs : SlRows S R) : SlRows (s :: S) (row :: R)
theorem SlRows.len {S : List Sl} {R : Rows} (h : SlRows S R) : R.length = S.length := by
  induction h with
  | nil => rfl
  | cons _ _ ih => simp [ih]
theorem SlRows.get {S : List Sl} {R : Rows} (h : SlRows S R) : ∀ {i : Nat} {s : Sl}, S[i]? = some s → ∃ row, R[i]? = some row ∧ SlRow s row := by
  induction h with
  | nil => intro i s hs; simp at hs
  | cons h1 h2 ih =>
    intro i s hs
    cases i with
    | zero => simp at hs; subst hs; exact ⟨_, rfl, h1⟩
    | succ i => simpa using ih (by simpa using hs)
theorem SlRows.set {S : List Sl} {R : Rows} (h : SlRows S R) {s : Sl} {row : List AV} (hr : SlRow s row) : ∀ (i : Nat), SlRows (S.set i s) (R.set i row) := by
  induction h with
  | nil => intro i; exact .nil
  | cons h1 h2 ih =>
    intro i
    cases i with
    | zero => exact .cons hr h2
    | succ i => exact .cons h1 (ih i)
theorem SlRows.snoc {S : List Sl} {R : Rows} (h : SlRows S R) {s : Sl} {row : List AV} (hr : SlRow s row) : SlRows (S ++ [s]) (R ++ [row]) := by
  induction h with
  | nil => exact .cons hr .nil
  | cons h1 h2 ih => exact .cons h1 ih
theorem SlRows.nrm {S : List Sl} {R : Rows} (h : SlRows S R) : nrmR R = some (S.map slCan) := by
  induction h with
  | nil => rfl
  | cons h1 h2 ih => simp [nrmR, h1.nrm, ih]
theorem SlRows.can (S : List Sl) : SlRows S (S.map slCan) := by
  induction S with
  | nil => exact .nil
  | cons s S ih => exact .cons (.can s) ih
theorem SlRows.hd {S : List Sl} {R : Rows} (h : SlRows S R) : headOk 10 R = true := by
  cases h with
  | nil => rfl
  | cons h1 _ => simp [headOk, h1.len]

/-- A slice of rows that may be written, with these rows. -/
def MV (es : Nat) (v : AV) (R : Rows) (S : St) : Prop := (R = [] ∧ (v = .lit [] ∨ v = .nils)) ∨ ∃ o g, v = .sref o g 0 R.length ∧ o < S.n ∧ S.get o = some (.seq g es R 0)

/-- The builder at o. -/
structure Bd (o m : Nat) (sv rv : AV) (R : Rows) (es : List (AV × AV × Nat)) (clock : Nat) (A : Ar) (full : Bool) (S : St) : Prop where
  ok : S.ok
  base : S.base = 0
  n : o < S.n
  g : S.get o = some (.row [sv, .int .i64 (optI A.free), rv, .map m, .bool full] false)
  mn : m < S.n
  mg : S.get m = some (.map es clock)
  mok : MapOk es clock A.slots
  sv : MV 10 sv R S
  rows : SlRows A.slots R
  rv : MV 1 rv (rs A.roots) S
def BD (o : Nat) (A : Ar) (full : Bool) (S : St) : Prop := ∃ m sv rv R es clock, Bd o m sv rv R es clock A full S
theorem KI : type_of% @ks_len ∧ type_of% @rs_len ∧ type_of% @ks_get ∧ type_of% @rs_get := ⟨@ks_len, @rs_len, @ks_get, @rs_get⟩
end Go.Am.R
