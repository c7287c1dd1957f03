/- AN ARENA PLAINLY: what taking in a tree and releasing a handle do. No program in sight. -/
import Derived.Test.YtbmfnoaogebjfaaDoorN0
set_option linter.unusedSimpArgs false
set_option linter.unusedVariables false
namespace Go.Am.R

abbrev w64 (n : Int) : Int := IntKind.i64.wrap n

structure Fs where
  kind : List UInt8
  named : Bool
  field : List UInt8
  frm : Int
  to : Int
  bad : Int
  deriving DecidableEq, Inhabited

structure Sl where
  fs : Fs
  kids : List Nat
  refs : Int
  next : Option Nat
  deriving DecidableEq, Inhabited

structure Ar where
  slots : List Sl
  free : Option Nat
  roots : List (Option Nat)

def fs0 : Fs := ⟨[], false, [], 0, 0, 0⟩
def zs (n : Option Nat) : Sl := ⟨fs0, [], 0, n⟩
abbrev Key := Fs × List Nat
def Sl.key (s : Sl) : Key := (s.fs, s.kids)
def ar0 : Ar := ⟨[], none, []⟩

/-! ### What is done -/
def look (S : List Sl) (K : Key) : Option Nat := S.findIdx? fun s => decide (s.refs ≠ 0) && decide (s.key = K)
def room (A : Ar) : Option (Nat × Ar) :=
  match A.free with
  | some i => some (i, { A with free := (A.slots.getD i default).next })
  | none => if A.slots.length < 4096 then some (A.slots.length, { A with slots := A.slots ++ [zs (some 0)] }) else none
def refS (S : List Sl) (i : Nat) : List Sl := S.modify i fun s => { s with refs := max s.refs 0 + 1 }
def place (A : Ar) (K : Key) : Option (Nat × Ar) :=
  match look A.slots K with
  | some i => some (i, A)
  | none =>
    match room A with
    | none => none
    | some (i, B) => some (i, { B with slots := K.2.foldl refS (B.slots.set i ⟨K.1, K.2, -1, none⟩) })

mutual
def lay : Node → Int → Ar → Option (Nat × Ar)
  | .mk k nm f a b d ks, base, A =>
    match layL ks a A with
    | none => none
    | some (l, B) => place B (⟨k, nm, f, w64 (a - base), w64 (b - base), d⟩, l)
def layL : List Node → Int → Ar → Option (List Nat × Ar)
  | [], _, A => some ([], A)
  | x :: xs, base, A =>
    match lay x base A with
    | none => none
    | some (i, B) =>
      match layL xs base B with
      | none => none
      | some (l, C) => some (i :: l, C)
end

/-- One reference less, for each of a row. -/
def decS (S : List Sl) (i : Nat) : List Sl := S.modify i fun s => { s with refs := s.refs - 1 }
def gone (A : Ar) (i : Nat) : Ar := { A with slots := A.slots.set i (zs A.free), free := some i }
inductive LessL : Ar → List Nat → Ar → Prop
  | nil (A : Ar) : LessL A [] A
  | keep {A : Ar} {i : Nat} {r : List Nat} {C : Ar} {s : Sl} (hs : A.slots[i]? = some s) (h : 1 < s.refs) (hr : LessL { A with slots := decS A.slots i } r C) : LessL A (i :: r) C
  | gone {A : Ar} {i : Nat} {r : List Nat} {B C : Ar} {s : Sl} (hs : A.slots[i]? = some s) (h : s.refs = 1) (hk : LessL (gone A i) s.kids B) (hr : LessL B r C) : LessL A (i :: r) C

/-! ### What a slot holds -/
inductive Tr where
  | mk (fs : Fs) (kids : List Tr)
mutual
def nt : Node → Int → Tr
  | .mk k nm f a b d ks, base => .mk ⟨k, nm, f, w64 (a - base), w64 (b - base), d⟩ (ntL ks a)
def ntL : List Node → Int → List Tr
  | [], _ => []
  | x :: xs, base => nt x base :: ntL xs base
end
mutual
def Tr.size : Tr → Nat
  | .mk _ ts => sizeL ts + 1
def sizeL : List Tr → Nat
  | [] => 0
  | t :: ts => t.size + sizeL ts
end
mutual
def Is (S : List Sl) : Nat → Tr → Prop
  | i, .mk fs ts => ∃ s, S[i]? = some s ∧ s.refs ≠ 0 ∧ s.fs = fs ∧ IsL S s.kids ts
def IsL (S : List Sl) : List Nat → List Tr → Prop
  | [], [] => True
  | i :: l, t :: ts => Is S i t ∧ IsL S l ts
  | _, _ => False
end

theorem Is.used {S : List Sl} {i : Nat} {t : Tr} (h : Is S i t) : ∃ s, S[i]? = some s ∧ s.refs ≠ 0 := by
  cases t; rw [Is] at h; obtain ⟨s, h1, h2, _⟩ := h; exact ⟨s, h1, h2⟩

mutual
theorem Is.uniq {S : List Sl} : ∀ (t : Tr) (i : Nat) (u : Tr), Is S i t → Is S i u → t = u
  | .mk fs ts, i, .mk gs us, h1, h2 => by
    rw [Is] at h1 h2
    obtain ⟨s, a1, a2, a3, a4⟩ := h1
    obtain ⟨s', b1, b2, b3, b4⟩ := h2
    rw [a1] at b1; cases b1
    rw [← a3, ← b3, IsL.uniq ts s.kids us a4 b4]
theorem IsL.uniq {S : List Sl} : ∀ (ts : List Tr) (l : List Nat) (us : List Tr), IsL S l ts → IsL S l us → ts = us
  | [], [], [], _, _ => rfl
  | [], [], u :: us, _, h => by simp [IsL] at h
  | [], i :: l, us, h, _ => by simp [IsL] at h
  | t :: ts, [], us, h, _ => by simp [IsL] at h
  | t :: ts, i :: l, [], _, h => by simp [IsL] at h
  | t :: ts, i :: l, u :: us, h1, h2 => by
    rw [IsL] at h1 h2
    rw [Is.uniq t i u h1.1 h2.1, IsL.uniq ts l us h1.2 h2.2]
end

/-- Slots that are used stay, but for how many refer to them. -/
def Le (S S' : List Sl) : Prop := ∀ (i : Nat) (s : Sl), S[i]? = some s → s.refs ≠ 0 → ∃ s', S'[i]? = some s' ∧ s'.refs ≠ 0 ∧ s'.fs = s.fs ∧ s'.kids = s.kids
theorem Le.refl (S : List Sl) : Le S S := fun i s h1 h2 => ⟨s, h1, h2, rfl, rfl⟩
theorem Le.trans {A B C : List Sl} (h : Le A B) (k : Le B C) : Le A C := fun i s h1 h2 => by
  obtain ⟨s', a1, a2, a3, a4⟩ := h i s h1 h2
  obtain ⟨s2, b1, b2, b3, b4⟩ := k i s' a1 a2
  exact ⟨s2, b1, b2, b3.trans a3, b4.trans a4⟩
mutual
theorem Is.mono {S S' : List Sl} (hle : Le S S') : ∀ (t : Tr) (i : Nat), Is S i t → Is S' i t
  | .mk fs ts, i, h => by
    rw [Is] at h ⊢
    obtain ⟨s, a1, a2, a3, a4⟩ := h
    obtain ⟨s', b1, b2, b3, b4⟩ := hle i s a1 a2
    exact ⟨s', b1, b2, b3.trans a3, by rw [b4]; exact IsL.mono hle ts s.kids a4⟩
theorem IsL.mono {S S' : List Sl} (hle : Le S S') : ∀ (ts : List Tr) (l : List Nat), IsL S l ts → IsL S' l ts
  | [], [], _ => by rw [IsL]; trivial
  | [], i :: l, h => by simp [IsL] at h
  | t :: ts, [], h => by simp [IsL] at h
  | t :: ts, i :: l, h => by
    rw [IsL] at h ⊢
    exact ⟨Is.mono hle t i h.1, IsL.mono hle ts l h.2⟩
end

/-- No two used slots hold the same. -/
def Apart (S : List Sl) : Prop := ∀ (i j : Nat) (s s' : Sl), S[i]? = some s → S[j]? = some s' → s.refs ≠ 0 → s'.refs ≠ 0 → s.key = s'.key → i = j
mutual
theorem Is.inj {S : List Sl} (hd : Apart S) : ∀ (t : Tr) (i j : Nat), Is S i t → Is S j t → i = j
  | .mk fs ts, i, j, h1, h2 => by
    rw [Is] at h1 h2
    obtain ⟨s, a1, a2, a3, a4⟩ := h1
    obtain ⟨s', b1, b2, b3, b4⟩ := h2
    have hk := IsL.inj hd ts _ _ a4 b4
    exact hd i j s s' a1 b1 a2 b2 (by simp only [Sl.key]; rw [a3, b3, hk])
theorem IsL.inj {S : List Sl} (hd : Apart S) : ∀ (ts : List Tr) (l m : List Nat), IsL S l ts → IsL S m ts → l = m
  | [], [], [], _, _ => rfl
  | [], i :: l, m, h, _ => by simp [IsL] at h
  | [], [], j :: m, _, h => by simp [IsL] at h
  | t :: ts, [], m, h, _ => by simp [IsL] at h
  | t :: ts, i :: l, [], _, h => by simp [IsL] at h
  | t :: ts, i :: l, j :: m, h1, h2 => by
    rw [IsL] at h1 h2
    rw [Is.inj hd t i j h1.1 h2.1, IsL.inj hd ts l m h1.2 h2.2]
end

/-- How often used slots refer to one. -/
def cnt (S : List Sl) (i : Nat) : Nat := (S.map fun s => s.kids.count i).sum
def rcnt (r : List (Option Nat)) (i : Nat) : Nat := r.count (some i)

/-- The free slots, one after another. -/
inductive Chain (S : List Sl) : Option Nat → List Nat → Prop
  | nil : Chain S none []
  | cons {i : Nat} {s : Sl} {l : List Nat} (h : S[i]? = some s) (hc : Chain S s.next l) : Chain S (some i) (i :: l)

/-- An arena such as may be; p: slots that are laid and that nothing refers to yet; q: references that are not counted elsewhere. -/
structure Inv (A : Ar) (p q : List Nat) : Prop where
  apart : Apart A.slots
  tree : ∀ (i : Nat) (s : Sl), A.slots[i]? = some s → s.refs ≠ 0 → ∃ t, Is A.slots i t
  refs : ∀ (i : Nat) (s : Sl), A.slots[i]? = some s → s.refs ≠ 0 → max s.refs 0 = ((cnt A.slots i + rcnt A.roots i + q.count i : Nat) : Int)
  neg : ∀ (i : Nat) (s : Sl), A.slots[i]? = some s → s.refs < 0 → s.refs = -1 ∧ i ∈ p
  zero : ∀ (i : Nat) (s : Sl), A.slots[i]? = some s → s.refs = 0 → s = zs s.next
  next : ∀ (i : Nat) (s : Sl), A.slots[i]? = some s → s.refs ≠ 0 → s.next = none
  free : ∃ l, Chain A.slots A.free l ∧ l.Nodup ∧ ∀ i, i ∈ l ↔ ∃ s, A.slots[i]? = some s ∧ s.refs = 0
  root : ∀ i, some i ∈ A.roots → ∃ s, A.slots[i]? = some s ∧ s.refs ≠ 0
  more : ∀ i ∈ q, ∃ s, A.slots[i]? = some s ∧ s.refs ≠ 0
  len : A.slots.length ≤ 4096

/-- How many slots are used. -/
def used (S : List Sl) : Nat := S.countP fun s => decide (s.refs ≠ 0)
end Go.Am.R
