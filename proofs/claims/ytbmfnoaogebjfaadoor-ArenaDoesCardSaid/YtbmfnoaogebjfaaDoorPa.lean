/- AN ARENA PLAINLY: what taking in a tree and releasing a handle do. No program in sight. -/
import Derived.Test.YtbmfnoaogebjfaaDoorN0
set_option linter.unusedSimpArgs false
set_option linter.unusedVariables false
namespace Go.Am.R

abbrev w64 (n : Int) : Int := IntKind.i64.wrap n

structure Fs where
  kind : List UInt8
  named : Bool
  field : List UInt8
  frm : Int
  to : Int
  bad : Int
  deriving DecidableEq, Inhabited

structure Sl where
  fs : Fs
  kids : List Nat
  refs : Int
  next : Option Nat
  deriving DecidableEq, Inhabited

structure Ar where
  slots : List Sl
  free : Option Nat
  roots : List (Option Nat)

def fs0 : Fs := ⟨[], false, [], 0, 0, 0⟩
def zs (n : Option Nat) : Sl := ⟨fs0, [], 0, n⟩
abbrev Key := Fs × List Nat
def Sl.key (s : Sl) : Key := (s.fs, s.kids)
def ar0 : Ar := ⟨[], none, []⟩

/-! ### What is done -/
def look (S : List Sl) (K : Key) : Option Nat := S.findIdx? fun s => decide (s.refs ≠ 0) && decide (s.key = K)
def room (A : Ar) : Option (Nat × Ar) :=
  match A.free with
  | some i => some (i, { A with free := (A.slots.getD i default).next })
  | none => if A.slots.length < 4096 then some (A.slots.length, { A with slots := A.slots ++ [zs (some 0)] }) else none
def refS (S : List Sl) (i : Nat) : List Sl := S.modify i fun s => { s with refs := max s.refs 0 + 1 }
def place (A : Ar) (K : Key) : Option (Nat × Ar) :=
  match look A.slots K with
  | some i => some (i, A)
  | none =>
    match room A with
    | none => none
    | some (i, B) => some (i, { B with slots := K.2.foldl refS (B.slots.set i ⟨K.1, K.2, -1, none⟩) })

mutual
def lay : Node → Int → Ar → Option (Nat × Ar)
  | .mk k nm f a b d ks, base, A =>
    match layL ks a A with
    | none => none
    | some (l, B) => place B (⟨k, nm, f, w64 (a - base), w64 (b - base), d⟩, l)
def layL : List Node → Int → Ar → Option (List Nat × Ar)
  | [], _, A => some ([], A)
  | x :: xs, base, A =>
    match lay x base A with
    | none => none
    | some (i, B) =>
      match layL xs base B with
      | none => none
      | some (l, C) => some (i :: l, C)
end

/-- One reference less, for each of a row. -/
def decS (S : List Sl) (i : Nat) : List Sl := S.modify i fun s => { s with refs := s.refs - 1 }
def gone (A : Ar) (i : Nat) : Ar := { A with slots := A.slots.set i (zs A.free), free := some i }
inductive LessL : Ar → List Nat → Ar → Prop
  | nil (A : Ar) : LessL A [] A
  | keep {A : Ar} {i : Nat} {r : List Nat} {C : Ar} {s : Sl} (hs : A.slots[i]? = some s) (h : 1 < s.refs) (hr : LessL { A with slots := decS A.slots i } r C) : LessL A (i :: r) C
  | gone {A : Ar} {i : Nat} {r : List Nat} {B C : Ar} {s : Sl} (hs : A.slots[i]? = some s) (h : s.refs = 1) (hk : LessL (gone A i) s.kids B) (hr : LessL B r C) : LessL A (i :: r) C

/-! ### What a slot holds -/
inductive Tr where
  | mk (fs : Fs) (kids : List Tr)
mutual
def nt : Node → Int → Tr
  | .mk k nm f a b d ks, base => .mk ⟨k, nm, f, w64 (a - base), w64 (b - base), d⟩ (ntL ks a)
def ntL : List Node → Int → List Tr
  | [], _ => []
  | x :: xs, base => nt x base :: ntL xs base
end
mutual
def Tr.size : Tr → Nat
  | .mk _ ts => sizeL ts + 1
def sizeL : List Tr → Nat
  | [] => 0
  | t :: ts => t.size + sizeL ts
end
mutual
def Is (S : List Sl) : Nat → Tr → Prop
  | i, .mk fs ts => ∃ s, S[i]? = some s ∧ s.refs ≠ 0 ∧ s.fs = fs ∧ IsL S s.kids ts
def IsL (S : List Sl) : List Nat → List Tr → Prop
  | [], [] => True
  | i :: l, t :: ts => Is S i t ∧ IsL S l ts
  | _, _ => False
end

theorem Is.used {S : List Sl} {i : Nat} {t : Tr} (h : Is S i t) : ∃ s, S[i]? = some s ∧ s.refs ≠ 0 := by
  cases t; rw [Is] at h; obtain ⟨s, h1, h2, _⟩ := h; exact ⟨s, h1, h2⟩

mutual
theorem Is.uniq {S : List Sl} : ∀ (t : Tr) (i : Nat) (u : Tr), Is S i t → Is S i u → t = u
  | .mk fs ts, i, .mk gs us, h1, h2 => by
    rw [Is] at h1 h2
    obtain ⟨s, a1, a2, a3, a4⟩ := h1
    obtain ⟨s', b1, b2, b3, b4⟩ := h2
    rw [a1] at b1; cases b1
    rw [← a3, ← b3, IsL.uniq ts s.kids us a4 b4]
theorem IsL.uniq {S : List Sl} : ∀ (ts : List Tr) (l : List Nat) (us : List Tr), IsL S l ts → IsL S l us → ts = us
  | [], [], [], _, _ => rfl
  | [], [], u :: us, _, h => by simp [IsL] at h
  | [], i :: l, us, h, _ => by simp [IsL] at h
  | t :: ts, [], us, h, _ => by simp [IsL] at h
  | t :: ts, i :: l, [], _, h => by simp [IsL] at h
  | t :: ts, i :: l, u :: us, h1, h2 => by
    rw [IsL] at h1 h2
    rw [Is.uniq t i u h1.1 h2.1, IsL.uniq ts l us h1.2 h2.2]
end

/-- Slots that are used stay, but for how many refer to them. -/
def Le (S S' : List Sl) : Prop := ∀ (i : Nat) (s : Sl), S[i]? = some s → s.refs ≠ 0 → ∃ s', S'[i]? = some s' ∧ s'.refs ≠ 0 ∧ s'.fs = s.fs ∧ s'.kids = s.kids
theorem Le.refl (S : List Sl) : Le S S := fun i s h1 h2 => ⟨s, h1, h2, rfl, rfl⟩
theorem Le.trans {A B C : List Sl} (h : Le A B) (k : Le B C) : Le A C := fun i s h1 h2 => by
  obtain ⟨s', a1, a2, a3, a4⟩ := h i s h1 h2
  obtain ⟨s2, b1, b2, b3, b4⟩ := k i s' a1 a2
  exact ⟨s2, b1, b2, b3.trans a3, b4.trans a4⟩
mutual
theorem Is.mono {S S' : List Sl} (hle : Le S S') : ∀ (t : Tr) (i : Nat), Is S i t → Is S' i t
  | .mk fs ts, i, h => by
    rw [Is] at h ⊢
    obtain ⟨s, a1, a2, a3, a4⟩ := h
    obtain ⟨s', b1, b2, b3, b4⟩ := hle i s a1 a2
    exact ⟨s', b1, b2, b3.trans a3, by rw [b4]; exact IsL.mono hle ts s.kids a4⟩
theorem IsL.mono {S S' : List Sl} (hle : Le S S') : ∀ (ts : List Tr) (l : List Nat), IsL S l ts → IsL S' l ts
  | [], [], _ => by rw [IsL]; trivial
  | [], i :: l, h => by simp [IsL] at h
  | t :: ts, [], h => by simp [IsL] at h
  | t :: ts, i :: l, h => by
    rw [IsL] at h ⊢
    exact ⟨Is.mono hle t i h.1, IsL.mono hle ts l h.2⟩
end

/-- No two used slots hold the same. -/
def Apart (S : List Sl) : Prop := ∀ (i j : Nat) (s s' : Sl), S[i]? = some s → S[j]? = some s' → s.refs ≠ 0 → s'.refs ≠ 0 → s.key = s'.key → i = j
mutual
theorem Is.inj {S : List Sl} (hd : Apart S) : ∀ (t : Tr) (i j : Nat), Is S i t → Is S j t → i = j
  | .mk fs ts, i, j, h1, h2 => by
    rw [Is] at h1 h2
    obtain ⟨s, a1, a2, a3, a4⟩ := h1
    obtain ⟨s', b1, b2, b3, b4⟩ := h2
    have hk := IsL.inj hd ts _ _ a4 b4
    exact hd i j s s' a1 b1 a2 b2 (by simp only [Sl.key]; rw [a3, b3, hk])
theorem IsL.inj {S : List Sl} (hd : Apart S) : ∀ (ts : List Tr) (l m : List Nat), IsL S l ts → IsL S m ts → l = m
  | [], [], [], _, _ => rfl
  | [], i :: l, m, h, _ => by simp [IsL] at h
  | [], [], j :: m, _, h => by simp [IsL] at h
  | t :: ts, [], m, h, _ => by simp [IsL] at h
  | t :: ts, i :: l, [], _, h => by simp [IsL] at h
  | t :: ts, i :: l, j :: m, h1, h2 => by
    rw [IsL] at h1 h2
    rw [Is.inj hd t i j h1.1 h2.1, IsL.inj hd ts l m h1.2 h2.2]
end

/-- How often used slots refer to one. -/
def cnt (S : List Sl) (i : Nat) : Nat := (S.map fun s => s.kids.count i).sum
def rcnt (r : List (Option Nat)) (i : Nat) : Nat := r.count (some i)

/-- The free slots, one after another. -/
inductive Chain (S : List Sl) : Option Nat → List Nat → Prop
  | nil : Chain S none []
  | cons {i : Nat} {s : Sl} {l : List Nat} (h : S[i]? = some s) (hc : Chain S s.next l) : Chain S (some i) (i :: l)

/-- An arena such as may be; p: slots that are laid and that nothing refers to yet; q: references that are not counted elsewhere. -/
structure Inv (A : Ar) (p q : List Nat) : Prop where
  apart : Apart A.slots
  tree : ∀ (i : Nat) (s : Sl), A.slots[i]? = some s → s.refs ≠ 0 → ∃ t, Is A.slots i t
  refs : ∀ (i : Nat) (s : Sl), A.slots[i]? = some s → s.refs ≠ 0 → max s.refs 0 = ((cnt A.slots i + rcnt A.roots i + q.count i : Nat) : Int)
  neg : ∀ (i : Nat) (s : Sl), A.slots[i]? = some s → s.refs < 0 → s.refs = -1 ∧ i ∈ p
  zero : ∀ (i : Nat) (s : Sl), A.slots[i]? = some s → s.refs = 0 → s = zs s.next
  next : ∀ (i : Nat) (s : Sl), A.slots[i]? = some s → s.refs ≠ 0 → s.next = none
  free : ∃ l, Chain A.slots A.free l ∧ l.Nodup ∧ ∀ i, i ∈ l ↔ ∃ s, A.slots[i]? = some s ∧ s.refs = 0
  root : ∀ i, some i ∈ A.roots → ∃ s, A.slots[i]? = some s ∧ s.refs ≠ 0
  more : ∀ i ∈ q, ∃ s, A.slots[i]? = some s ∧ s.refs ≠ 0
  len : A.slots.length ≤ 4096

/-- How many slots are used. -/
def used (S : List Sl) : Nat := S.countP fun s => decide (s.refs ≠ 0)
end Go.Am.R

/- AN ARENA PLAINLY: counting. -/
set_option linter.unusedSimpArgs false
set_option linter.unusedVariables false
namespace Go.Am.R

theorem map_modify {α β : Type} (g : α → β) (f : α → α) (h : ∀ a, g (f a) = g a) : ∀ (S : List α) (i : Nat), (S.modify i f).map g = S.map g
  | [], i => by simp
  | a :: S, 0 => by simp [h]
  | a :: S, i + 1 => by simp [map_modify g f h S i]

theorem cnt_modify (f : Sl → Sl) (h : ∀ s, (f s).kids = s.kids) (S : List Sl) (i j : Nat) : cnt (S.modify i f) j = cnt S j := by
  unfold cnt
  rw [map_modify _ f (fun a => by rw [h])]
theorem cnt_set : ∀ (S : List Sl) (i j : Nat) (s s' : Sl), S[i]? = some s → cnt (S.set i s') j + s.kids.count j = cnt S j + s'.kids.count j
  | [], i, j, s, s', h => by simp at h
  | a :: S, 0, j, s, s', h => by
    simp at h; subst h
    simp only [cnt, List.set_cons_zero, List.map_cons, List.sum_cons]
    omega
  | a :: S, i + 1, j, s, s', h => by
    have ih := cnt_set S i j s s' (by simpa using h)
    simp only [cnt, List.set_cons_succ, List.map_cons, List.sum_cons] at ih ⊢
    omega
theorem cnt_snoc (S : List Sl) (s : Sl) (j : Nat) : cnt (S ++ [s]) j = cnt S j + s.kids.count j := by
  simp [cnt]
theorem cnt_pos {S : List Sl} {i j : Nat} {s : Sl} (h : S[i]? = some s) (hj : j ∈ s.kids) : 1 ≤ cnt S j := by
  have h1 : 1 ≤ s.kids.count j := List.one_le_count_iff.2 hj
  have h2 := cnt_set S i j s ⟨s.fs, [], s.refs, s.next⟩ h
  simp at h2
  omega
theorem cnt_zero {S : List Sl} {j : Nat} (h : ∀ (i : Nat) (s : Sl), S[i]? = some s → j ∉ s.kids) : cnt S j = 0 := by
  unfold cnt
  induction S with
  | nil => rfl
  | cons a S ih =>
    simp only [List.map_cons, List.sum_cons]
    rw [ih (fun i s hs => h (i + 1) s (by simpa using hs)), List.count_eq_zero.2 (h 0 a rfl)]

theorem cnt_refS (S : List Sl) (i j : Nat) : cnt (refS S i) j = cnt S j := cnt_modify (fun s => { s with refs := max s.refs 0 + 1 }) (fun s => rfl) S i j
theorem cnt_decS (S : List Sl) (i j : Nat) : cnt (decS S i) j = cnt S j := cnt_modify (fun s => { s with refs := s.refs - 1 }) (fun s => rfl) S i j
theorem refS_get (S : List Sl) (i j : Nat) : (refS S i)[j]? = (S[j]?).map fun s => if i = j then { s with refs := max s.refs 0 + 1 } else s := by
  unfold refS
  rw [List.getElem?_modify]
  rfl
theorem decS_get (S : List Sl) (i j : Nat) : (decS S i)[j]? = (S[j]?).map fun s => if i = j then { s with refs := s.refs - 1 } else s := by
  unfold decS
  rw [List.getElem?_modify]
  rfl
theorem refL_get (l : List Nat) : ∀ (S : List Sl) (j : Nat), (l.foldl refS S)[j]? = (S[j]?).map fun s => if j ∈ l then { s with refs := max s.refs 0 + (l.count j : Nat) } else s := by
  induction l with
  | nil => intro S j; simp
  | cons i l ih =>
    intro S j
    rw [List.foldl_cons, ih, refS_get]
    cases hS : S[j]? with
    | none => rfl
    | some s =>
      simp only [Option.map_some, Option.some.injEq, List.mem_cons]
      by_cases hij : i = j
      · subst hij
        by_cases hl : i ∈ l
        · simp only [hl, or_true, ↓reduceIte, List.count_cons_self]
          congr 1
          push_cast
          omega
        · have : l.count i = 0 := List.count_eq_zero.2 hl
          simp only [hl, or_false, ↓reduceIte, List.count_cons_self, this]
          congr 1
      · have hji : ¬ j = i := fun h => hij h.symm
        have hc : (i :: l).count j = l.count j := List.count_cons_of_ne hij
        simp only [hij, hji, ↓reduceIte, false_or, hc]
theorem refL_cnt (l : List Nat) : ∀ (S : List Sl) (j : Nat), cnt (l.foldl refS S) j = cnt S j := by
  induction l with
  | nil => intro S j; rfl
  | cons i l ih =>
    intro S j
    rw [List.foldl_cons, ih]
    exact cnt_refS S i j
theorem refL_len (l : List Nat) : ∀ (S : List Sl), (l.foldl refS S).length = S.length := by
  induction l with
  | nil => intro S; rfl
  | cons i l ih => intro S; rw [List.foldl_cons, ih]; simp [refS]

/-! ### How many are used -/
theorem used_map (S : List Sl) : used S = (S.map fun s => decide (s.refs ≠ 0)).countP id := by
  unfold used
  rw [List.countP_map]
  rfl
theorem used_congr {S S' : List Sl} (h : ∀ j : Nat, (S'[j]?).map (fun s : Sl => decide (s.refs ≠ 0)) = (S[j]?).map fun s : Sl => decide (s.refs ≠ 0)) : used S' = used S := by
  rw [used_map, used_map]
  congr 1
  apply List.ext_getElem?
  intro j
  rw [List.getElem?_map, List.getElem?_map, h]
theorem used_set : ∀ (S : List Sl) (i : Nat) (s s' : Sl), S[i]? = some s → used (S.set i s') + (if s.refs ≠ 0 then 1 else 0) = used S + (if s'.refs ≠ 0 then 1 else 0)
  | [], i, s, s', h => by simp at h
  | a :: S, 0, s, s', h => by
    simp at h; subst h
    simp only [used, List.set_cons_zero, List.countP_cons, decide_eq_true_eq]
    omega
  | a :: S, i + 1, s, s', h => by
    have ih := used_set S i s s' (by simpa using h)
    simp only [used, List.set_cons_succ, List.countP_cons] at ih ⊢
    omega
theorem used_snoc (S : List Sl) (s : Sl) : used (S ++ [s]) = used S + (if s.refs ≠ 0 then 1 else 0) := by
  simp [used, List.countP_append, List.countP_cons]
theorem used_le (S : List Sl) : used S ≤ S.length := List.countP_le_length
theorem used_all {S : List Sl} (h : ∀ (i : Nat) (s : Sl), S[i]? = some s → s.refs ≠ 0) : used S = S.length := by
  unfold used
  rw [List.countP_eq_length]
  intro s hs
  obtain ⟨i, hi⟩ := List.mem_iff_getElem?.1 hs
  simpa using h i s hi

/-! ### Slots and what they refer to -/
theorem isL_mem {S : List Sl} : ∀ (ts : List Tr) (l : List Nat), IsL S l ts → ∀ j ∈ l, ∃ t ∈ ts, Is S j t
  | [], [], _, j, hj => by cases hj
  | [], i :: l, h, _, _ => by simp [IsL] at h
  | t :: ts, [], h, _, _ => by simp [IsL] at h
  | t :: ts, i :: l, h, j, hj => by
    rw [IsL] at h
    rcases List.mem_cons.1 hj with rfl | hj
    · exact ⟨t, List.mem_cons_self, h.1⟩
    · obtain ⟨u, hu, h2⟩ := isL_mem ts l h.2 j hj
      exact ⟨u, List.mem_cons_of_mem _ hu, h2⟩
theorem isL_used {S : List Sl} {ts : List Tr} {l : List Nat} (h : IsL S l ts) {j : Nat} (hj : j ∈ l) : ∃ s, S[j]? = some s ∧ s.refs ≠ 0 := by
  obtain ⟨t, _, ht⟩ := isL_mem ts l h j hj
  exact ht.used
theorem Inv.kid {A : Ar} {p q : List Nat} (h : Inv A p q) {i j : Nat} {s : Sl} (hs : A.slots[i]? = some s) (hj : j ∈ s.kids) : ∃ s', A.slots[j]? = some s' ∧ s'.refs ≠ 0 := by
  by_cases hr : s.refs = 0
  · have := h.zero i s hs hr
    rw [this] at hj; simp [zs] at hj
  · obtain ⟨t, ht⟩ := h.tree i s hs hr
    cases t with
    | mk fs ts =>
      rw [Is] at ht
      obtain ⟨s', a1, a2, a3, a4⟩ := ht
      rw [hs] at a1; cases a1
      exact isL_used a4 hj
theorem Inv.noref {A : Ar} {p q : List Nat} (h : Inv A p q) {j : Nat} (hj : ∀ s, A.slots[j]? = some s → s.refs = 0) : cnt A.slots j = 0 ∧ rcnt A.roots j = 0 := by
  constructor
  · refine cnt_zero fun i s hs hm => ?_
    obtain ⟨s', h1, h2⟩ := h.kid hs hm
    exact h2 (hj s' h1)
  · refine List.count_eq_zero.2 fun hm => ?_
    obtain ⟨s', h1, h2⟩ := h.root j hm
    exact h2 (hj s' h1)

theorem Chain.congr {S S' : List Sl} {o : Option Nat} {l : List Nat} (h : Chain S o l) (hc : ∀ j ∈ l, S'[j]? = S[j]?) : Chain S' o l := by
  induction h with
  | nil => exact .nil
  | cons h1 h2 ih => exact .cons (by rw [hc _ List.mem_cons_self]; exact h1) (ih fun j hj => hc j (List.mem_cons_of_mem _ hj))

theorem look_some {S : List Sl} {K : Key} {i : Nat} (h : look S K = some i) : ∃ s, S[i]? = some s ∧ s.refs ≠ 0 ∧ s.key = K := by
  unfold look at h
  rw [List.findIdx?_eq_some_iff_getElem] at h
  obtain ⟨hi, hp, _⟩ := h
  simp only [Bool.and_eq_true, decide_eq_true_eq] at hp
  exact ⟨_, List.getElem?_eq_getElem hi, hp.1, hp.2⟩
theorem look_none {S : List Sl} {K : Key} (h : look S K = none) : ∀ (i : Nat) (s : Sl), S[i]? = some s → s.refs ≠ 0 → s.key ≠ K := by
  unfold look at h
  rw [List.findIdx?_eq_none_iff] at h
  intro i s hs hr hk
  have := h s (List.mem_of_getElem? hs)
  simp [hr, hk] at this
end Go.Am.R

/- AN ARENA PLAINLY: taking in. -/
set_option linter.unusedSimpArgs false
set_option linter.unusedVariables false
namespace Go.Am.R

/-- A new slot is laid where none is used. -/
theorem fresh_ok {A : Ar} {p p' : List Nat} {K : Key} {ts : List Tr} (h : Inv A p []) (hk : IsL A.slots K.2 ts) (hno : ∀ (i : Nat) (s : Sl), A.slots[i]? = some s → s.refs ≠ 0 → s.key ≠ K) (hp : ∀ j ∈ p, j ∈ K.2 ∨ j ∈ p')
    {S1 : List Sl} {i : Nat} {z : Sl} {fr : Option Nat} {lf : List Nat} (hz : S1[i]? = some z) (hz2 : z.kids = []) (hi : ∀ s, A.slots[i]? = some s → s.refs = 0) (hS1 : ∀ j, j ≠ i → S1[j]? = A.slots[j]?) (hc1 : ∀ j, cnt S1 j = cnt A.slots j)
    (hlen : S1.length ≤ 4096) (hch : Chain A.slots fr lf) (hnd : lf.Nodup) (hlf : ∀ j, j ∈ lf ↔ j ≠ i ∧ ∃ s, A.slots[j]? = some s ∧ s.refs = 0) :
    Inv ⟨K.2.foldl refS (S1.set i ⟨K.1, K.2, -1, none⟩), fr, A.roots⟩ (i :: p') [] ∧ Le A.slots (K.2.foldl refS (S1.set i ⟨K.1, K.2, -1, none⟩)) ∧ Is (K.2.foldl refS (S1.set i ⟨K.1, K.2, -1, none⟩)) i (.mk K.1 ts) := by
  obtain ⟨fs, l⟩ := K
  simp only at *
  have hlt : i < S1.length := (List.getElem?_eq_some_iff.1 hz).1
  have hil : i ∉ l := fun hm => by
    obtain ⟨s, h1, h2⟩ := isL_used hk hm
    exact h2 (hi s h1)
  obtain ⟨S3, hS3⟩ : ∃ S3, l.foldl refS (S1.set i ⟨fs, l, -1, none⟩) = S3 := ⟨_, rfl⟩
  rw [hS3]
  have gi : S3[i]? = some ⟨fs, l, -1, none⟩ := by
    rw [← hS3, refL_get, List.getElem?_set_self hlt]
    simp [hil]
  have gj : ∀ j, j ≠ i → S3[j]? = (A.slots[j]?).map fun s => if j ∈ l then { s with refs := max s.refs 0 + (l.count j : Nat) } else s := fun j hj => by
    rw [← hS3, refL_get, List.getElem?_set_ne (Ne.symm hj), hS1 j hj]
  have hcnt : ∀ j, cnt S3 j = cnt A.slots j + l.count j := fun j => by
    rw [← hS3, refL_cnt]
    have := cnt_set S1 i j z ⟨fs, l, -1, none⟩ hz
    rw [hz2] at this
    simp only [List.count_nil, Nat.add_zero] at this
    rw [this, hc1]
  have back : ∀ (j : Nat) (s' : Sl), j ≠ i → S3[j]? = some s' → ∃ s, A.slots[j]? = some s ∧ s'.fs = s.fs ∧ s'.kids = s.kids ∧ s'.next = s.next ∧ (s'.refs = if j ∈ l then max s.refs 0 + (l.count j : Nat) else s.refs) := fun j s' hj hs => by
    rw [gj j hj, Option.map_eq_some_iff] at hs
    obtain ⟨s, h1, rfl⟩ := hs
    refine ⟨s, h1, ?_⟩
    split <;> simp
  have cpos : ∀ j, j ∈ l → 1 ≤ l.count j := fun j hj => List.one_le_count_iff.2 hj
  have usedJ : ∀ j ∈ l, ∃ s, A.slots[j]? = some s ∧ s.refs ≠ 0 := fun j hj => isL_used hk hj
  have hle : Le A.slots S3 := fun j s hs hr => by
    have hj : j ≠ i := fun e => by subst e; exact hr (hi s hs)
    refine ⟨_, by rw [gj j hj, hs]; rfl, ?_, ?_, ?_⟩
    · split
      · rename_i hm; have := cpos j hm; simp only; omega
      · exact hr
    · split <;> rfl
    · split <;> rfl
  have hIs : Is S3 i (.mk fs ts) := by
    rw [Is]
    exact ⟨_, gi, by simp, rfl, IsL.mono hle ts l hk⟩
  have hnr := h.noref hi
  refine ⟨⟨?_, ?_, ?_, ?_, ?_, ?_, ?_, ?_, by simp, ?_⟩, hle, hIs⟩
  · intro a b s s' ha hb hra hrb hkey
    by_cases hai : a = i
    · by_cases hbi : b = i
      · rw [hai, hbi]
      · exfalso
        subst hai
        rw [gi] at ha; cases ha
        obtain ⟨u, h1, h2, h3, _, h5⟩ := back b s' hbi hb
        have hu : u.refs ≠ 0 := by
          by_cases hm : b ∈ l
          · obtain ⟨s2, b1, b2⟩ := usedJ b hm
            rw [h1] at b1; cases b1; exact b2
          · rw [if_neg hm] at h5; rw [← h5]; exact hrb
        refine hno b u h1 hu ?_
        simp only [Sl.key] at hkey ⊢
        rw [← h2, ← h3]; exact hkey.symm
    · by_cases hbi : b = i
      · exfalso
        subst hbi
        rw [gi] at hb; cases hb
        obtain ⟨u, h1, h2, h3, _, h5⟩ := back a s hai ha
        have hu : u.refs ≠ 0 := by
          by_cases hm : a ∈ l
          · obtain ⟨s2, b1, b2⟩ := usedJ a hm
            rw [h1] at b1; cases b1; exact b2
          · rw [if_neg hm] at h5; rw [← h5]; exact hra
        refine hno a u h1 hu ?_
        simp only [Sl.key] at hkey ⊢
        rw [← h2, ← h3]; exact hkey
      · obtain ⟨u, h1, h2, h3, _, h5⟩ := back a s hai ha
        obtain ⟨v, k1, k2, k3, _, k5⟩ := back b s' hbi hb
        have hu : u.refs ≠ 0 := by
          by_cases hm : a ∈ l
          · obtain ⟨s2, b1, b2⟩ := usedJ a hm
            rw [h1] at b1; cases b1; exact b2
          · rw [if_neg hm] at h5; rw [← h5]; exact hra
        have hv : v.refs ≠ 0 := by
          by_cases hm : b ∈ l
          · obtain ⟨s2, b1, b2⟩ := usedJ b hm
            rw [k1] at b1; cases b1; exact b2
          · rw [if_neg hm] at k5; rw [← k5]; exact hrb
        refine h.apart a b u v h1 k1 hu hv ?_
        simp only [Sl.key] at hkey ⊢
        rw [← h2, ← h3, ← k2, ← k3]; exact hkey
  · intro j s hs hr
    by_cases hj : j = i
    · subst hj; exact ⟨_, hIs⟩
    · obtain ⟨u, h1, h2, h3, _, h5⟩ := back j s hj hs
      have hu : u.refs ≠ 0 := by
        by_cases hm : j ∈ l
        · obtain ⟨s2, b1, b2⟩ := usedJ j hm
          rw [h1] at b1; cases b1; exact b2
        · rw [if_neg hm] at h5; rw [← h5]; exact hr
      obtain ⟨t, ht⟩ := h.tree j u h1 hu
      exact ⟨t, Is.mono hle t j ht⟩
  · intro j s hs hr
    simp only [hcnt]
    by_cases hj : j = i
    · subst hj
      rw [gi] at hs; cases hs
      rw [hnr.1, hnr.2, List.count_eq_zero.2 hil]
      rfl
    · obtain ⟨u, h1, h2, h3, _, h5⟩ := back j s hj hs
      by_cases hm : j ∈ l
      · obtain ⟨s2, b1, b2⟩ := usedJ j hm
        rw [h1] at b1; cases b1
        have := h.refs j u h1 b2
        have hc := cpos j hm
        rw [if_pos hm] at h5
        simp only [List.count_nil, Nat.add_zero] at this ⊢
        push_cast at this ⊢
        omega
      · rw [if_neg hm] at h5
        have := h.refs j u h1 (by rw [← h5]; exact hr)
        have hc : l.count j = 0 := List.count_eq_zero.2 hm
        rw [h5, hc]
        simpa using this
  · intro j s hs hr
    by_cases hj : j = i
    · subst hj
      rw [gi] at hs; cases hs
      exact ⟨rfl, List.mem_cons_self⟩
    · obtain ⟨u, h1, h2, h3, _, h5⟩ := back j s hj hs
      by_cases hm : j ∈ l
      · rw [if_pos hm] at h5; omega
      · rw [if_neg hm] at h5
        obtain ⟨a1, a2⟩ := h.neg j u h1 (by omega)
        refine ⟨by omega, List.mem_cons_of_mem _ ?_⟩
        rcases hp j a2 with h | h
        · exact absurd h hm
        · exact h
  · intro j s hs hr
    have hj : j ≠ i := fun e => by subst e; rw [gi] at hs; cases hs; simp at hr
    have hs' := hs
    rw [gj j hj, Option.map_eq_some_iff] at hs'
    obtain ⟨u, h1, h2⟩ := hs'
    by_cases hm : j ∈ l
    · have := cpos j hm
      rw [if_pos hm] at h2; subst h2
      simp only at hr; omega
    · rw [if_neg hm] at h2; subst h2
      exact h.zero j u h1 hr
  · intro j s hs hr
    by_cases hj : j = i
    · subst hj; rw [gi] at hs; cases hs; rfl
    · obtain ⟨u, h1, h2, h3, h4, h5⟩ := back j s hj hs
      rw [h4]
      refine h.next j u h1 ?_
      by_cases hm : j ∈ l
      · obtain ⟨s2, b1, b2⟩ := usedJ j hm
        rw [h1] at b1; cases b1; exact b2
      · rw [if_neg hm] at h5; rw [← h5]; exact hr
  · refine ⟨lf, hch.congr fun j hj => ?_, hnd, fun j => ?_⟩
    · obtain ⟨h1, u, h2, h3⟩ := (hlf j).1 hj
      rw [gj j h1, h2]
      have hm : j ∉ l := fun hm => by
        obtain ⟨s2, b1, b2⟩ := usedJ j hm
        rw [h2] at b1; cases b1; exact b2 h3
      simp [hm]
    · rw [hlf]
      constructor
      · rintro ⟨h1, u, h2, h3⟩
        have hm : j ∉ l := fun hm => by
          obtain ⟨s2, b1, b2⟩ := usedJ j hm
          rw [h2] at b1; cases b1; exact b2 h3
        exact ⟨u, by rw [gj j h1, h2]; simp [hm], h3⟩
      · rintro ⟨s, h1, h2⟩
        have hj : j ≠ i := fun e => by subst e; rw [gi] at h1; cases h1; simp at h2
        refine ⟨hj, ?_⟩
        obtain ⟨u, k1, _, _, _, k5⟩ := back j s hj h1
        by_cases hm : j ∈ l
        · have := cpos j hm
          rw [if_pos hm] at k5; omega
        · rw [if_neg hm] at k5
          exact ⟨u, k1, by omega⟩
  · intro j hj
    obtain ⟨s, h1, h2⟩ := h.root j hj
    obtain ⟨s', k1, k2, _⟩ := hle j s h1 h2
    exact ⟨s', k1, k2⟩
  · rw [← hS3, refL_len, List.length_set]; exact hlen

theorem Inv.weaken {A : Ar} {p p' q : List Nat} (h : Inv A p q) (hp : ∀ (j : Nat) (s : Sl), A.slots[j]? = some s → s.refs < 0 → j ∈ p → j ∈ p') : Inv A p' q :=
  ⟨h.apart, h.tree, h.refs, fun i s hs hr => ⟨(h.neg i s hs hr).1, hp i s hs hr (h.neg i s hs hr).2⟩, h.zero, h.next, h.free, h.root, h.more, h.len⟩

theorem place_or {A : Ar} {p p' : List Nat} {K : Key} {ts : List Tr} (h : Inv A p []) (hk : IsL A.slots K.2 ts) (hp : ∀ j ∈ p, j ∈ K.2 ∨ j ∈ p') :
    (place A K = none ∧ 4096 ≤ used A.slots) ∨ ∃ i B, place A K = some (i, B) ∧ Inv B (i :: p') [] ∧ Le A.slots B.slots ∧ Is B.slots i (.mk K.1 ts) ∧ B.roots = A.roots ∧ used B.slots ≤ used A.slots + 1 := by
  unfold place
  cases hl : look A.slots K with
  | some i =>
    obtain ⟨s, h1, h2, h3⟩ := look_some hl
    have e1 : s.fs = K.1 := congrArg Prod.fst h3
    have e2 : s.kids = K.2 := congrArg Prod.snd h3
    refine .inr ⟨i, A, rfl, h.weaken fun j u hu hr hj => ?_, Le.refl _, ?_, rfl, by omega⟩
    · rcases hp j hj with hm | hm
      · exfalso
        have hc := cnt_pos h1 (by rw [e2]; exact hm)
        have := h.refs j u hu (by omega)
        push_cast at this
        omega
      · exact List.mem_cons_of_mem _ hm
    · rw [Is]
      exact ⟨s, h1, h2, e1, by rw [e2]; exact hk⟩
  | none =>
    have hno := look_none hl
    obtain ⟨l, c1, c2, c3⟩ := h.free
    unfold room
    cases hf : A.free with
    | some i =>
      rw [hf] at c1
      cases c1 with
      | @cons _ s l' hs hc =>
        obtain ⟨u, hu, hu0⟩ := (c3 i).1 List.mem_cons_self
        rw [hs] at hu; cases hu
        have hz := h.zero i s hs hu0
        have hnd := List.nodup_cons.1 c2
        obtain ⟨a1, a2, a3⟩ := fresh_ok (S1 := A.slots) (i := i) (z := s) (fr := s.next) (lf := l') h hk hno hp hs (by rw [hz]; rfl) (fun s' h' => by rw [hs] at h'; cases h'; exact hu0) (fun j hj => rfl) (fun j => rfl) h.len hc hnd.2
          (fun j => ⟨fun hj => ⟨fun e => hnd.1 (e ▸ hj), (c3 j).1 (List.mem_cons_of_mem _ hj)⟩, fun ⟨h1, h2⟩ => by
            rcases List.mem_cons.1 ((c3 j).2 h2) with e | e
            · exact absurd e h1
            · exact e⟩)
        have hg : (A.slots.getD i default).next = s.next := by simp [List.getD, hs]
        refine .inr ⟨i, _, rfl, ?_, a2, a3, rfl, ?_⟩
        · simp only [hg]; exact a1
        · have hu : used (K.2.foldl refS (A.slots.set i ⟨K.1, K.2, -1, none⟩)) = used (A.slots.set i ⟨K.1, K.2, -1, none⟩) := by
            refine used_congr fun j => ?_
            rw [refL_get]
            cases hj : (A.slots.set i ⟨K.1, K.2, -1, none⟩)[j]? with
            | none => rfl
            | some v =>
              simp only [Option.map_some, Option.some.injEq]
              by_cases hm : j ∈ K.2
              · have hji : j ≠ i := fun e => by
                  obtain ⟨s2, b1, b2⟩ := isL_used hk hm
                  rw [e, hs] at b1; cases b1; exact b2 hu0
                rw [List.getElem?_set_ne (Ne.symm hji)] at hj
                obtain ⟨s2, b1, b2⟩ := isL_used hk hm
                rw [hj] at b1; cases b1
                have : 1 ≤ K.2.count j := List.one_le_count_iff.2 hm
                simp only [hm, ↓reduceIte, decide_eq_decide]
                constructor <;> intro _ <;> omega
              · simp [hm]
          have := used_set A.slots i s ⟨K.1, K.2, -1, none⟩ hs
          simp only [hu]
          rw [hu0] at this
          simp at this
          omega
    | none =>
      rw [hf] at c1
      cases c1
      have hall : ∀ (i : Nat) (s : Sl), A.slots[i]? = some s → s.refs ≠ 0 := fun i s hs h0 => by
        have := (c3 i).2 ⟨s, hs, h0⟩
        cases this
      have hUl := used_all hall
      by_cases hlt : A.slots.length < 4096
      case neg => exact .inl ⟨by simp only [if_neg hlt], by omega⟩
      simp only [if_pos hlt]
      have hz : (A.slots ++ [zs (some 0)])[A.slots.length]? = some (zs (some 0)) := by simp
      obtain ⟨a1, a2, a3⟩ := fresh_ok (S1 := A.slots ++ [zs (some 0)]) (i := A.slots.length) (z := zs (some 0)) (fr := none) (lf := []) h hk hno hp hz rfl (fun s' h' => by simp at h')
        (fun j hj => by
          by_cases hjl : j < A.slots.length
          · rw [List.getElem?_append_left hjl]
          · rw [List.getElem?_eq_none (by simp; omega), List.getElem?_eq_none (by omega)])
        (fun j => by rw [cnt_snoc]; simp [zs]) (by simp; omega) .nil List.nodup_nil
        (fun j => ⟨fun hj => (by cases hj), fun ⟨h1, h2⟩ => (c3 j).2 h2⟩)
      refine .inr ⟨A.slots.length, _, rfl, ?_, a2, a3, rfl, ?_⟩
      · exact a1
      · have := used_le (K.2.foldl refS ((A.slots ++ [zs (some 0)]).set A.slots.length ⟨K.1, K.2, -1, none⟩))
        rw [refL_len] at this
        simp only [List.length_set, List.length_append, List.length_cons, List.length_nil] at this
        simp only
        omega

mutual
def nn : Node → Nat
  | .mk _ _ _ _ _ _ ks => nnL ks + 1
def nnL : List Node → Nat
  | [] => 0
  | x :: xs => nn x + nnL xs
end
mutual
theorem lay_or : ∀ (n : Node) (base : Int) (A : Ar) (p : List Nat), Inv A p [] →
    (lay n base A = none ∧ 4096 < used A.slots + nn n) ∨ ∃ i B, lay n base A = some (i, B) ∧ Inv B (i :: p) [] ∧ Le A.slots B.slots ∧ Is B.slots i (nt n base) ∧ B.roots = A.roots ∧ used B.slots ≤ used A.slots + nn n
  | .mk k nm f a b d ks, base, A, p, h => by
    rw [nn]
    rcases layL_or ks a A p h with ⟨h1, h2⟩ | ⟨l, B, h1, h2, h3, h4, h5, h6⟩
    · exact .inl ⟨by rw [lay, h1], by omega⟩
    rcases place_or (p' := p) (K := (⟨k, nm, f, w64 (a - base), w64 (b - base), d⟩, l)) h2 h4 (fun j hj => by simpa using List.mem_append.1 hj) with ⟨k1, k2⟩ | ⟨i, C, k1, k2, k3, k4, k5, k6⟩
    · exact .inl ⟨by rw [lay, h1]; exact k1, by omega⟩
    refine .inr ⟨i, C, ?_, k2, h3.trans k3, ?_, k5.trans h5, by omega⟩
    · rw [lay, h1]; exact k1
    · rw [nt]; exact k4
theorem layL_or : ∀ (ks : List Node) (base : Int) (A : Ar) (p : List Nat), Inv A p [] →
    (layL ks base A = none ∧ 4096 < used A.slots + nnL ks) ∨ ∃ l B, layL ks base A = some (l, B) ∧ Inv B (l ++ p) [] ∧ Le A.slots B.slots ∧ IsL B.slots l (ntL ks base) ∧ B.roots = A.roots ∧ used B.slots ≤ used A.slots + nnL ks
  | [], base, A, p, h => .inr ⟨[], A, rfl, h, Le.refl _, by rw [ntL, IsL]; trivial, rfl, by omega⟩
  | x :: xs, base, A, p, h => by
    rw [nnL]
    rcases lay_or x base A p h with ⟨h1, h2⟩ | ⟨i, B, h1, h2, h3, h4, h5, h6⟩
    · exact .inl ⟨by rw [layL, h1], by omega⟩
    rcases layL_or xs base B (i :: p) h2 with ⟨k1, k2⟩ | ⟨l, C, k1, k2, k3, k4, k5, k6⟩
    · exact .inl ⟨by rw [layL, h1]; simp only [k1], by omega⟩
    refine .inr ⟨i :: l, C, by rw [layL, h1]; simp only [k1], k2.weaken fun j s hs hr hj => ?_, h3.trans k3, ?_, k5.trans h5, by omega⟩
    · simp only [List.mem_append, List.mem_cons] at hj ⊢
      rcases hj with hj | hj | hj
      · exact .inl (.inr hj)
      · exact .inl (.inl hj)
      · exact .inr hj
    · rw [ntL, IsL]; exact ⟨Is.mono k3 _ _ h4, k4⟩
end
theorem lay_ok (n : Node) (base : Int) (A : Ar) (p : List Nat) (h : Inv A p []) (hU : used A.slots + nn n ≤ 4096) :
    ∃ i B, lay n base A = some (i, B) ∧ Inv B (i :: p) [] ∧ Le A.slots B.slots ∧ Is B.slots i (nt n base) ∧ B.roots = A.roots ∧ used B.slots ≤ used A.slots + nn n := by
  rcases lay_or n base A p h with ⟨_, h2⟩ | h
  · omega
  · exact h

/-! ### How many refer to one, at most -/
def RB (c : Int) (S : List Sl) : Prop := ∀ (i : Nat) (s : Sl), S[i]? = some s → s.refs ≤ c
theorem RB.mono {c d : Int} {S : List Sl} (h : RB c S) (hd : c ≤ d) : RB d S := fun i s hs => Int.le_trans (h i s hs) hd
theorem RB.set {c : Int} {S : List Sl} (h : RB c S) {s : Sl} (hs : s.refs ≤ c) (i : Nat) : RB c (S.set i s) := fun j t ht => by
  by_cases e : i = j
  · subst e
    by_cases hl : i < S.length
    · rw [List.getElem?_set_self hl] at ht; cases ht; exact hs
    · rw [List.getElem?_eq_none (by simp; omega)] at ht; cases ht
  · rw [List.getElem?_set_ne e] at ht; exact h j t ht
theorem RB.snoc {c : Int} {S : List Sl} (h : RB c S) {s : Sl} (hs : s.refs ≤ c) : RB c (S ++ [s]) := fun j t ht => by
  by_cases hl : j < S.length
  · rw [List.getElem?_append_left hl] at ht; exact h j t ht
  · rw [List.getElem?_append_right (by omega)] at ht
    have : j - S.length = 0 := by
      have := (List.getElem?_eq_some_iff.1 ht).1
      simp at this; omega
    rw [this] at ht; simp at ht; subst ht; exact hs
theorem RB.refL {c : Int} {S : List Sl} (h0 : 0 ≤ c) (h : RB c S) (l : List Nat) : RB (c + l.length) (l.foldl refS S) := fun j t ht => by
  rw [refL_get, Option.map_eq_some_iff] at ht
  obtain ⟨s, hs, rfl⟩ := ht
  have := h j s hs
  split
  · have hc : l.count j ≤ l.length := List.count_le_length
    simp only; omega
  · omega
theorem place_rb {c : Int} {A B : Ar} {K : Key} {i : Nat} (h0 : 0 ≤ c) (h : RB c A.slots) (hp : place A K = some (i, B)) : RB (c + K.2.length) B.slots := by
  unfold place at hp
  split at hp
  · cases hp; exact h.mono (by omega)
  · split at hp
    · cases hp
    · rename_i j C hr
      cases hp
      unfold room at hr
      split at hr
      · cases hr
        exact RB.refL h0 (h.set (by simp only; omega) _) _
      · split at hr
        · cases hr
          exact RB.refL h0 ((h.snoc (by simp only [zs]; omega)).set (by simp only; omega) _) _
        · cases hr
theorem len_nnL : ∀ (ks : List Node), ks.length ≤ nnL ks
  | [] => Nat.zero_le _
  | x :: xs => by
    have := len_nnL xs
    have hx : 1 ≤ nn x := by cases x; rw [nn]; omega
    rw [nnL, List.length_cons]; omega
mutual
theorem lay_rb : ∀ (n : Node) (base : Int) (A : Ar) (c : Int) (i : Nat) (B : Ar), 0 ≤ c → RB c A.slots → lay n base A = some (i, B) → RB (c + nn n - 1) B.slots
  | .mk k nm f a b d ks, base, A, c, i, B, h0, h, hl => by
    rw [lay] at hl
    cases h1 : layL ks a A with
    | none => rw [h1] at hl; cases hl
    | some q =>
      obtain ⟨l, C⟩ := q
      rw [h1] at hl
      obtain ⟨k1, k2⟩ := layL_rb ks a A c l C h0 h h1
      have := len_nnL ks
      have := place_rb (by omega) k1 hl
      rw [nn]
      refine this.mono ?_
      simp only [k2]
      push_cast
      omega
theorem layL_rb : ∀ (ks : List Node) (base : Int) (A : Ar) (c : Int) (l : List Nat) (B : Ar), 0 ≤ c → RB c A.slots → layL ks base A = some (l, B) → RB (c + nnL ks - ks.length) B.slots ∧ l.length = ks.length
  | [], base, A, c, l, B, h0, h, hl => by
    rw [layL] at hl; cases hl
    exact ⟨h.mono (by simp [nnL]), rfl⟩
  | x :: xs, base, A, c, l, B, h0, h, hl => by
    rw [layL] at hl
    cases h1 : lay x base A with
    | none => rw [h1] at hl; cases hl
    | some q =>
      obtain ⟨i, C⟩ := q
      rw [h1] at hl
      simp only at hl
      cases h2 : layL xs base C with
      | none => rw [h2] at hl; cases hl
      | some r =>
        obtain ⟨m, D⟩ := r
        rw [h2] at hl; cases hl
        have hx : 1 ≤ nn x := by cases x; rw [nn]; omega
        have k1 := lay_rb x base A c i C h0 h h1
        obtain ⟨k2, k3⟩ := layL_rb xs base C (c + nn x - 1) m B (by omega) k1 h2
        refine ⟨k2.mono ?_, by simp [k3]⟩
        rw [nnL, List.length_cons]
        push_cast
        omega
end
end Go.Am.R

