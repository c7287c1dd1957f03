/- PROGRAMS OF THE SCANNER AS DATA; WHAT A RUN IS. -/
import Derived.Test.YtjdhcjhalkjamaaDoorV0
set_option linter.unusedVariables false
set_option linter.unusedSimpArgs false
namespace Go.Am.V

structure Ins where
  op : Int
  x : Int
  y : Int
  z : Int
  deriving Inhabited, DecidableEq

def inRow (i : Ins) : List AV := [.int .i64 i.op, .int .i64 i.x, .int .i64 i.y, .int .i64 i.z]
def inRows (p : List Ins) : Rows := p.map inRow

theorem inRows_len (p : List Ins) : (inRows p).length = p.length := by simp [inRows]
theorem inRows_get (p : List Ins) (i : Nat) : (inRows p)[i]? = (p[i]?).map inRow := by simp [inRows]
theorem inRow_len (i : Ins) : (inRow i).length = 4 := rfl
theorem inRow0 (i : Ins) : (inRow i)[0]? = some (.int .i64 i.op) := rfl
theorem inRow1 (i : Ins) : (inRow i)[1]? = some (.int .i64 i.x) := rfl
theorem inRow2 (i : Ins) : (inRow i)[2]? = some (.int .i64 i.y) := rfl
theorem inRow3 (i : Ins) : (inRow i)[3]? = some (.int .i64 i.z) := rfl
theorem inRow_take (i : Ins) : (inRow i).take 4 = inRow i := rfl
theorem inRow_drop (i : Ins) : (inRow i).drop 4 = [] := rfl
theorem nrmL_inRow (i : Ins) : nrmL (inRow i) = some (inRow i) := by simp [inRow, nrmL, nrm]
theorem nrmR_inRows (p : List Ins) : nrmR (inRows p) = some (inRows p) := by
  induction p with
  | nil => rfl
  | cons x xs ih =>
    have h : inRows (x :: xs) = inRow x :: inRows xs := rfl
    rw [h]
    simp [nrmR, nrmL_inRow, ih]
theorem nrm_inRow (i : Ins) : nrm (.agg (inRow i)) = some (.agg (inRow i)) := by simp [nrm, nrmL_inRow]
theorem nrm_inRows (p : List Ins) : nrm (.vec (inRows p)) = some (.vec (inRows p)) := by simp [nrm, nrmR_inRows]

def num8 (n : Int) : Bool := decide (0 ≤ n) && decide (n ≤ 255)

/-- Whether an operation can be, in a program of n. -/
def fit1 (n : Nat) (i : Ins) : Bool :=
  if i.op = 1 then num8 i.x && num8 i.y && decide (i.x ≤ i.y) && decide (0 ≤ i.z) && decide (i.z ≤ n)
  else if i.op = 2 then num8 i.x && decide (i.y = 0) && decide (0 ≤ i.z) && decide (i.z ≤ n)
  else if i.op = 3 ∨ i.op = 4 then num8 i.x && decide (i.y = 0) && decide (i.z = 0)
  else if i.op = 5 then decide (i.x = 0) && decide (i.y = 0) && decide (0 ≤ i.z) && decide (i.z ≤ n)
  else if i.op = 6 ∨ i.op = 7 then decide (i.x = 0) && decide (i.y = 0) && decide (i.z = 0)
  else false

def fitV (p : List Ins) : Bool := decide (1 ≤ p.length) && decide (p.length ≤ 64) && p.all (fit1 p.length)

/-- The byte at n is one of the operation's. -/
def hits (s : List UInt8) (n : Nat) (i : Ins) : Bool :=
  match s[n]? with
  | some b => decide (i.x ≤ (b.toNat : Int)) && decide ((b.toNat : Int) ≤ i.y)
  | none => false

/-- A run: with so many steps left; bytes taken, state, bytes looked at, place in the program. -/
def ru (p : List Ins) (s : List UInt8) (first : Int) : Nat → Nat → Int → Nat → Nat → Int × Int × Int
  | 0, _, _, seen, _ => (-1, first, seen)
  | k + 1, n, now, seen, pc =>
    match p[pc]? with
    | none => (-1, first, seen)
    | some i =>
      if i.op = 1 then (if hits s n i then ru p s first k (n + 1) now (max seen (n + 1)) (pc + 1) else ru p s first k n now (max seen (n + 1)) i.z.toNat)
      else if i.op = 2 then (if now = i.x then ru p s first k n now seen (pc + 1) else ru p s first k n now seen i.z.toNat)
      else if i.op = 3 then ru p s first k n i.x seen (pc + 1)
      else if i.op = 4 then ru p s first k n (Int.tmod (now + i.x) 256) seen (pc + 1)
      else if i.op = 5 then ru p s first k n now seen i.z.toNat
      else if i.op = 7 then (-1, first, seen)
      else if i.op = 6 then (if n = 0 then (-1, first, seen) else (n, now, seen))
      else ru p s first k n now seen (pc + 1)

/-- The state as Run takes it. -/
def st8 (state : Int) : Int := Int.tmod (IntKind.u64.wrap state) 256

theorem st8_range (state : Int) : 0 ≤ st8 state ∧ st8 state ≤ 255 := by
  unfold st8
  have h : 0 ≤ IntKind.u64.wrap state := by
    simp only [IntKind.wrap, IntKind.signed, IntKind.bits]
    simp
    omega
  have h1 := Int.tmod_nonneg 256 h
  have h2 := Int.tmod_lt_of_pos (IntKind.u64.wrap state) (b := 256) (by omega)
  omega

def runV (p : List Ins) (s : List UInt8) (at' state : Int) : Int × Int × Int :=
  if at' < 0 ∨ (s.length : Int) < at' then (-1, 0, 0) else ru p (s.drop at'.toNat) (st8 state) 10000 0 (st8 state) 0 0

def tri (r : Int × Int × Int) : AV := .tup [.int .i64 r.1, .int .i64 r.2.1, .int .i64 r.2.2]

theorem num8_iff (n : Int) : num8 n = true ↔ 0 ≤ n ∧ n ≤ 255 := by simp [num8]

/-- What a program that can be has. -/
theorem fit1_facts {n : Nat} {i : Ins} (h : fit1 n i = true) : (1 ≤ i.op ∧ i.op ≤ 7) ∧ (0 ≤ i.x ∧ i.x ≤ 255) ∧ (0 ≤ i.y ∧ i.y ≤ 255) ∧ (0 ≤ i.z ∧ i.z ≤ n) := by
  unfold fit1 at h
  split at h
  · simp [num8] at h; omega
  · split at h
    · simp [num8] at h; omega
    · split at h
      · simp [num8] at h; omega
      · split at h
        · simp [num8] at h; omega
        · split at h
          · simp [num8] at h; omega
          · simp at h

theorem fitV_get {p : List Ins} (h : fitV p = true) {k : Nat} {i : Ins} (hk : p[k]? = some i) : fit1 p.length i = true := by
  simp only [fitV, Bool.and_eq_true, List.all_eq_true] at h
  exact h.2 i (List.mem_of_getElem? hk)
theorem fitV_len {p : List Ins} (h : fitV p = true) : 1 ≤ p.length ∧ p.length ≤ 64 := by
  simp only [fitV, Bool.and_eq_true, decide_eq_true_eq] at h
  exact h.1
theorem KI : type_of% @inRows_len ∧ type_of% @inRows_get ∧ type_of% @inRow_len ∧ type_of% @inRow0 ∧ type_of% @inRow1 ∧ type_of% @inRow2 ∧ type_of% @inRow3 ∧ type_of% @inRow_take ∧ type_of% @inRow_drop ∧ type_of% @nrm_inRow ∧ type_of% @nrm_inRows ∧ type_of% @nrmR_inRows ∧ type_of% @nrmL_inRow :=
  ⟨@inRows_len, @inRows_get, @inRow_len, @inRow0, @inRow1, @inRow2, @inRow3, @inRow_take, @inRow_drop, @nrm_inRow, @nrm_inRows, @nrmR_inRows, @nrmL_inRow⟩

end Go.Am.V
