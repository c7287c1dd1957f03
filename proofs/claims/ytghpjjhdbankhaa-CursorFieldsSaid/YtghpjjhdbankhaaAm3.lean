/- THE ABSTRACT MACHINE, FOURTH FILE: memory: what lies where, and how it turns. -/
import Derived.Test.YtghpjjhdbankhaaAm2
import Derived.Deep.MidRow
import Derived.Below
set_option linter.unusedVariables false
namespace Go.Am
open Go.RowKit

/-! ### The list of objects -/
theorem St.get_lt {S : St} {id : Nat} {o : AObj} (h : S.get id = some o) : id < S.n := by
  unfold St.get at h
  split at h
  · assumption
  · simp at h
theorem St.get_push_new (S : St) (o : AObj) : (S.push o).get S.n = some o := by
  simp [St.get, St.push]
theorem St.get_push_old {S : St} (o : AObj) {id : Nat} (h : id < S.n) : (S.push o).get id = S.get id := by
  unfold St.get St.push
  simp only
  rw [if_pos (by omega), if_pos h, show S.n + 1 - 1 - id = (S.n - 1 - id) + 1 by omega, List.getElem?_cons_succ]
theorem St.get_push {S : St} {o : AObj} {id : Nat} {a : AObj} (h : (S.push o).get id = some a) : (id = S.n ∧ a = o) ∨ (id < S.n ∧ S.get id = some a) := by
  have hlt := St.get_lt h
  simp only [St.push] at hlt
  by_cases he : id = S.n
  · subst he
    rw [St.get_push_new] at h
    exact .inl ⟨rfl, by simpa using h.symm⟩
  · have hl : id < S.n := by omega
    rw [St.get_push_old o hl] at h
    exact .inr ⟨hl, h⟩
theorem St.get_set_same {S : St} (hl : S.h.length = S.n) (o : AObj) {id : Nat} (h : id < S.n) : (S.set id o).get id = some o := by
  unfold St.get St.set
  simp only
  rw [if_pos h, List.getElem?_set_self (by omega)]
theorem St.get_set_other {S : St} (o : AObj) {id id' : Nat} (h : id < S.n) (hne : id' ≠ id) : (S.set id o).get id' = S.get id' := by
  unfold St.get St.set
  simp only
  split
  · rename_i h'
    rw [List.getElem?_set_ne (by omega)]
  · rfl
theorem St.get_set {S : St} (hl : S.h.length = S.n) {o : AObj} {id id' : Nat} {a : AObj} (h : id < S.n) (hg : (S.set id o).get id' = some a) : (id' = id ∧ a = o) ∨ (id' ≠ id ∧ S.get id' = some a) := by
  by_cases he : id' = id
  · subst he
    rw [St.get_set_same hl o h] at hg
    exact .inl ⟨rfl, by simpa using hg.symm⟩
  · rw [St.get_set_other o h he] at hg
    exact .inr ⟨he, hg⟩
@[simp] theorem St.set_n (S : St) (id : Nat) (o : AObj) : (S.set id o).n = S.n := rfl
@[simp] theorem St.set_base (S : St) (id : Nat) (o : AObj) : (S.set id o).base = S.base := rfl
@[simp] theorem St.push_n (S : St) (o : AObj) : (S.push o).n = S.n + 1 := rfl
@[simp] theorem St.push_base (S : St) (o : AObj) : (S.push o).base = S.base := rfl
@[simp] theorem St.set_len (S : St) (id : Nat) (o : AObj) : (S.set id o).h.length = S.h.length := by simp [St.set]
theorem St.putO_some {S S' : St} {id : Nat} {o : AObj} (h : S.putO id o = some S') : S.base ≤ id ∧ S' = S.set id o := by
  unfold St.putO at h
  split at h
  · rename_i hb; simp at h; exact ⟨hb, h.symm⟩
  · simp at h

/-! ### Objects in the model's memory -/
def genOf : AObj → Option Nat
  | .seq g _ _ _ => some g
  | .tail g => some g
  | _ => none

def exCode : Ex → Option Code
  | .nrm => none
  | .exit id => some (.exit id)
  | .goto l => some (.goto l)
  | .ret => some .ret

/-- Which block an object has for itself. -/
def ownsA (G : Gh) (o : Nat) : AObj → Nat → Prop
  | .seq g _ _ _, b => ∃ s, G.seg o g s ∧ 0 < s.cp ∧ s.b = b
  | .tail g, b => ∃ s, G.seg o g s ∧ 0 < s.cp ∧ s.b = b
  | .dead, _ => False
  | _, b => G.blk o b

def Owns (G : Gh) (S : St) (o b : Nat) : Prop := ∃ a, S.get o = some a ∧ ownsA G o a b

/-- The cells of block b from p on are there, and may be written. -/
def Open (w : World) (b p n : Nat) : Prop := ∀ j, j < n → (w.cell? ⟨b, p + j, none⟩).isSome = true ∧ w.frozen? ⟨b, p + j, none⟩ = false

structure MapAt (G : Gh) (w : World) (b : Nat) (es : List (AV × AV × Nat)) (clock : Nat) : Prop where
  ex : ∃ mes : Array MapEntry, w.heap[b]? = some (.map mes clock) ∧ mes.size = es.length ∧
    ∀ (i : Nat) (e : AV × AV × Nat), es[i]? = some e → ∃ m : MapEntry, mes[i]? = some m ∧ Rep G w e.1 m.key ∧ Rep G w e.2.1 m.val ∧ m.born = e.2.2

def ObjRel (G : Gh) (w : World) (o : Nat) : AObj → Prop
  | .dead => True
  | .row cs lock => ∃ b, G.blk o b ∧ Open w b 0 cs.length ∧ (∀ (j : Nat) (x : AV), cs[j]? = some x → leaf x = true ∧ ∃ u, w.cell? ⟨b, j, none⟩ = some u ∧ Rep G w x u) ∧ (lock = false → ∀ f, ¬ G.im b f)
  | .seq g es rows exp => ∃ s, G.seg o g s ∧ s.es = es ∧ rows.length ≤ s.cp ∧ (∀ (i : Nat) (r : List AV), rows[i]? = some r → r.length = s.es) ∧
      (0 < s.cp → Open w s.b s.st (s.cp * s.es) ∧
        (∀ (i : Nat) (r : List AV) (j : Nat) (x : AV), rows[i]? = some r → r[j]? = some x → leaf x = true ∧ ∃ u, w.cell? ⟨s.b, s.st + i * s.es + j, none⟩ = some u ∧ Rep G w x u) ∧
        (∀ f, G.im s.b f → f < s.st + exp * s.es))
  | .tail g => ∃ s, G.seg o g s ∧ s.ln ≤ s.cp ∧ (0 < s.cp → Open w s.b s.st (s.cp * s.es) ∧ ∀ f, G.im s.b f → f < s.st + s.ln * s.es)
  | .map es clock => ∃ b, G.blk o b ∧ MapAt G w b es clock
  | .miter _ _ _ _ => False
  | .siter s pos => ∃ b, G.blk o b ∧ w.heap[b]? = some (.stringIter ⟨s.toArray⟩ pos)
  | .loop st pend _ tmps ps asg body d => ∃ b db tm fn', G.blk o b ∧ G.blk d db ∧ RepL G w tmps tm.toList ∧
      w.heap[b]? = some (.loop { state := st, pending := exCode pend, fn := fn', tmps := tm, params := ps.toArray, assign := asg, body := body, defers := db })
  | .dfr => ∃ b, G.blk o b ∧ w.heap[b]? = some (.deferred (some []))

structure Wrel (G : Gh) (S : St) (w : World) : Prop where
  len : S.h.length = S.n
  base : S.base ≤ S.n
  obj : ∀ o a, S.get o = some a → ObjRel G w o a
  inj : ∀ o o' b, Owns G S o b → Owns G S o' b → o = o'
  lt : ∀ o b, Owns G S o b → b < w.heap.size
  fblk : ∀ o b b', G.blk o b → G.blk o b' → b = b'
  fseg : ∀ o g s s', G.seg o g s → G.seg o g s' → s = s'
  bblk : ∀ o b, G.blk o b → o < S.n
  bseg : ∀ o g s, G.seg o g s → o < S.n ∧ ∀ a g', S.get o = some a → genOf a = some g' → g ≤ g'
  im : ∀ b f, G.im b f → ∃ u, w.cell? ⟨b, f, none⟩ = some u

structure Step (G : Gh) (S : St) (w : World) (G' : Gh) (S' : St) (w' : World) : Prop where
  le : G.Le G'
  kept : Kept G w w'
  size : w.heap.size ≤ w'.heap.size
  os : w'.os = w.os
  tape : w'.tape = w.tape
  output : w'.output = w.output
  frame : ∀ b, b < w.heap.size → (∀ o, ¬ Owns G S o b) → w'.heap[b]? = w.heap[b]?
  fresh : ∀ o b, Owns G' S' o b → (∃ o', Owns G S o' b) ∨ w.heap.size ≤ b
  newim : ∀ b f, G'.im b f → G.im b f ∨ (∃ o, Owns G S o b) ∨ w.heap.size ≤ b
  base : S'.base = S.base
  n : S.n ≤ S'.n
  low : ∀ id, id < S.base → S'.get id = S.get id

theorem Step.refl (G : Gh) (S : St) (w : World) : Step G S w G S w :=
  ⟨.refl G, fun _ _ _ _ h => h, Nat.le_refl _, rfl, rfl, rfl, fun _ _ _ => rfl, fun o _ h => .inl ⟨o, h⟩, fun _ _ h => .inl h, rfl, Nat.le_refl _, fun _ _ => rfl⟩

theorem Step.trans {G G' G'' : Gh} {S S' S'' : St} {w w' w'' : World} (h : Step G S w G' S' w') (k : Step G' S' w' G'' S'' w'') : Step G S w G'' S'' w'' where
  le := h.le.trans k.le
  kept := fun b f u hi hu => k.kept b f u (h.le.im _ _ hi) (h.kept b f u hi hu)
  size := Nat.le_trans h.size k.size
  os := k.os.trans h.os
  tape := k.tape.trans h.tape
  output := k.output.trans h.output
  frame := fun b hb hn => by
    rw [k.frame b (Nat.lt_of_lt_of_le hb h.size) (fun o ho => ?_), h.frame b hb hn]
    rcases h.fresh o b ho with ⟨o', h'⟩ | h'
    · exact hn o' h'
    · omega
  fresh := fun o b ho => by
    rcases k.fresh o b ho with ⟨o', h'⟩ | h'
    · exact h.fresh o' b h'
    · exact .inr (Nat.le_trans h.size h')
  newim := fun b f hi => by
    rcases k.newim b f hi with h' | ⟨o, h'⟩ | h'
    · exact h.newim b f h'
    · rcases h.fresh o b h' with h'' | h''
      · exact .inr (.inl h'')
      · exact .inr (.inr h'')
    · exact .inr (.inr (Nat.le_trans h.size h'))
  base := k.base.trans h.base
  n := Nat.le_trans h.n k.n
  low := fun id hid => (k.low id (by rw [h.base]; exact hid)).trans (h.low id hid)

theorem Step.rep {G G' : Gh} {S S' : St} {w w' : World} (h : Step G S w G' S' w') {x : AV} {v : Value} (hr : Rep G w x v) : Rep G' w' x v := hr.mono h.le h.kept
theorem Step.repL {G G' : Gh} {S S' : St} {w w' : World} (h : Step G S w G' S' w') {x : List AV} {v : List Value} (hr : RepL G w x v) : RepL G' w' x v := hr.mono h.le h.kept

/-! ### The same memory -/
/-- A world that differs in what has been drawn alone. -/
structure Same (w w' : World) : Prop where
  heap : w'.heap = w.heap
  os : w'.os = w.os
  tape : w'.tape = w.tape
  output : w'.output = w.output
theorem Same.cell {w w' : World} (h : Same w w') (a : Addr) : w'.cell? a = w.cell? a := by unfold World.cell?; rw [h.heap]
theorem Same.frozen {w w' : World} (h : Same w w') (a : Addr) : w'.frozen? a = w.frozen? a := by unfold World.frozen?; rw [h.heap]
theorem Same.drew (w : World) : Same w w.drew := ⟨rfl, rfl, rfl, rfl⟩

theorem ObjRel.mono {G G' : Gh} {w w' : World} {o : Nat} {a : AObj} (h : ObjRel G w o a) (hg : G.Le G') (hk : Kept G w w')
    (hheap : ∀ b, ownsA G o a b → w'.heap[b]? = w.heap[b]?) (him : ∀ b f, ownsA G o a b → G'.im b f → G.im b f) : ObjRel G' w' o a := by
  have hcell : ∀ b, ownsA G o a b → ∀ f, w'.cell? ⟨b, f, none⟩ = w.cell? ⟨b, f, none⟩ ∧ w'.frozen? ⟨b, f, none⟩ = w.frozen? ⟨b, f, none⟩ :=
    fun b hb f => ⟨World.cell?_of_block (w := w) (hheap b hb), World.frozen?_of_block (w := w) (hheap b hb)⟩
  cases a with
  | dead => trivial
  | row cs lock =>
    obtain ⟨b, hb, ho, hc, hl⟩ := h
    have hx := hcell b hb
    refine ⟨b, hg.blk _ _ hb, fun j hj => ?_, fun j x hj => ?_, fun h0 f hf => hl h0 f (him b f hb hf)⟩
    · rw [(hx _).1, (hx _).2]; exact ho j hj
    · obtain ⟨h1, u, h2, h3⟩ := hc j x hj
      exact ⟨h1, u, by rw [(hx _).1]; exact h2, h3.mono hg hk⟩
  | seq g es rows exp =>
    obtain ⟨s, hs, he, hle, hes, h⟩ := h
    refine ⟨s, hg.seg _ _ _ hs, he, hle, hes, fun hcp => ?_⟩
    have ho : ownsA G o (.seq g es rows exp) s.b := ⟨s, hs, hcp, rfl⟩
    have hx := hcell s.b ho
    obtain ⟨h1, h2, h3⟩ := h hcp
    refine ⟨fun j hj => ?_, fun i r j x hi hj => ?_, fun f hf => h3 f (him s.b f ho hf)⟩
    · rw [(hx _).1, (hx _).2]; exact h1 j hj
    · obtain ⟨h1, u, h2, h3⟩ := h2 i r j x hi hj
      exact ⟨h1, u, by rw [(hx _).1]; exact h2, h3.mono hg hk⟩
  | tail g =>
    obtain ⟨s, hs, hle, h⟩ := h
    refine ⟨s, hg.seg _ _ _ hs, hle, fun hcp => ?_⟩
    have ho : ownsA G o (.tail g) s.b := ⟨s, hs, hcp, rfl⟩
    have hx := hcell s.b ho
    obtain ⟨h1, h3⟩ := h hcp
    refine ⟨fun j hj => ?_, fun f hf => h3 f (him s.b f ho hf)⟩
    rw [(hx _).1, (hx _).2]; exact h1 j hj
  | map es clock =>
    obtain ⟨b, hb, ⟨mes, h1, h2, h3⟩⟩ := h
    refine ⟨b, hg.blk _ _ hb, ⟨mes, by rw [hheap b hb]; exact h1, h2, fun i e hi => ?_⟩⟩
    obtain ⟨m, k1, k2, k3, k4⟩ := h3 i e hi
    exact ⟨m, k1, k2.mono hg hk, k3.mono hg hk, k4⟩
  | miter => exact h
  | siter s pos =>
    obtain ⟨b, hb, h1⟩ := h
    exact ⟨b, hg.blk _ _ hb, by rw [hheap b hb]; exact h1⟩
  | loop st pend fn tmps ps asg body d =>
    obtain ⟨b, db, tm, fn', hb, hdb, ht, h1⟩ := h
    exact ⟨b, db, tm, fn', hg.blk _ _ hb, hg.blk _ _ hdb, ht.mono hg hk, by rw [hheap b hb]; exact h1⟩
  | dfr =>
    obtain ⟨b, hb, h1⟩ := h
    exact ⟨b, hg.blk _ _ hb, by rw [hheap b hb]; exact h1⟩

theorem ownsA.mono {G G' : Gh} (h : G.Le G') {o : Nat} {a : AObj} {b : Nat} (k : ownsA G o a b) : ownsA G' o a b := by
  cases a <;> first
    | exact k.elim
    | (obtain ⟨s, h1, h2⟩ := k; exact ⟨s, h.seg _ _ _ h1, h2⟩)
    | exact h.blk _ _ k

/-- What G' says of objects that G knows, G says. -/
theorem ownsA.back {G G' : Gh} {o : Nat} {a : AObj} {b : Nat} (hb : ∀ b, G'.blk o b → G.blk o b) (hs : ∀ g s, genOf a = some g → G'.seg o g s → G.seg o g s) (k : ownsA G' o a b) : ownsA G o a b := by
  cases a <;> first
    | exact k.elim
    | (obtain ⟨s, h1, h2⟩ := k; exact ⟨s, hs _ _ rfl h1, h2⟩)
    | exact hb _ k

/-! ### A world in which one thing has turned -/
theorem same_step {G : Gh} {S : St} {w w' : World} (h : Wrel G S w) (hs : Same w w') : Wrel G S w' ∧ Step G S w G S w' := by
  have hk : Kept G w w' := fun b f u _ hu => by rw [hs.cell]; exact hu
  refine ⟨⟨h.len, h.base, fun o a ho => (h.obj o a ho).mono (.refl G) hk (fun b _ => by rw [hs.heap]) (fun _ _ _ hi => hi), h.inj, fun o b ho => by rw [hs.heap]; exact h.lt o b ho, h.fblk, h.fseg, h.bblk, h.bseg,
    fun b f hi => by rw [hs.cell]; exact h.im b f hi⟩, ?_⟩
  exact ⟨.refl G, hk, by rw [hs.heap]; exact Nat.le_refl _, hs.os, hs.tape, hs.output, fun _ _ _ => by rw [hs.heap], fun o _ ho => .inl ⟨o, ho⟩, fun _ _ hi => .inl hi, rfl, Nat.le_refl _, fun _ _ => rfl⟩

/-- Blocks that lay below stay as they are, some are laid behind. -/
structure Laid (w w' : World) : Prop where
  size : w.heap.size ≤ w'.heap.size
  os : w'.os = w.os
  tape : w'.tape = w.tape
  output : w'.output = w.output
  heap : ∀ k, k < w.heap.size → w'.heap[k]? = w.heap[k]?

theorem Laid.refl (w : World) : Laid w w := ⟨Nat.le_refl _, rfl, rfl, rfl, fun _ _ => rfl⟩
theorem Laid.trans {a b c : World} (h : Laid a b) (k : Laid b c) : Laid a c :=
  ⟨Nat.le_trans h.size k.size, k.os.trans h.os, k.tape.trans h.tape, k.output.trans h.output, fun i hi => (k.heap i (Nat.lt_of_lt_of_le hi h.size)).trans (h.heap i hi)⟩
theorem Laid.alloc (w : World) (o : Obj) : Laid w (w.alloc o) := ⟨by simp, rfl, rfl, rfl, fun k hk => Below.heap_alloc w o k hk⟩
theorem Laid.same {w w' : World} (h : Same w w') : Laid w w' := ⟨by rw [h.heap]; exact Nat.le_refl _, h.os, h.tape, h.output, fun _ _ => by rw [h.heap]⟩

theorem Wrel.im_lt {G : Gh} {S : St} {w : World} (h : Wrel G S w) {b f : Nat} (hi : G.im b f) : b < w.heap.size := by
  obtain ⟨u, hu⟩ := h.im b f hi
  exact World.block_lt_of_cell? w ⟨b, f, none⟩ hu

theorem Laid.kept {G : Gh} {S : St} {w w' : World} (h : Laid w w') (hW : Wrel G S w) : Kept G w w' := fun b f u hi hu => by
  rw [World.cell?_of_block (w := w) (w' := w') (h.heap b (hW.im_lt hi))]; exact hu

/-- New blocks, a new object, and whatever is said of them. -/
theorem push_step {G G' : Gh} {S : St} {w w' : World} {a : AObj} (h : Wrel G S w) (hw : Laid w w') (hg : G.Le G')
    (hblk : ∀ o b, G'.blk o b → G.blk o b ∨ (o = S.n)) (hfb : ∀ b b', G'.blk S.n b → G'.blk S.n b' → b = b')
    (hseg : ∀ o g s, G'.seg o g s → G.seg o g s ∨ (o = S.n ∧ ∀ g', genOf a = some g' → g ≤ g')) (hfs : ∀ g s s', G'.seg S.n g s → G'.seg S.n g s' → s = s')
    (him : ∀ b f, G'.im b f → G.im b f ∨ (w.heap.size ≤ b ∧ ∃ u, w'.cell? ⟨b, f, none⟩ = some u))
    (hown : ∀ b, ownsA G' S.n a b → w.heap.size ≤ b ∧ b < w'.heap.size) (hobj : ObjRel G' w' S.n a) :
    Wrel G' (S.push a) w' ∧ Step G S w G' (S.push a) w' := by
  have hk := hw.kept h
  have hold : ∀ o, o < S.n → (∀ b, G'.blk o b → G.blk o b) ∧ (∀ g s, G'.seg o g s → G.seg o g s) := fun o ho =>
    ⟨fun b hb => (hblk o b hb).resolve_right (by omega), fun g s hs => (hseg o g s hs).resolve_right (by omega)⟩
  have howns : ∀ o b, Owns G' (S.push a) o b → (o = S.n ∧ ownsA G' S.n a b) ∨ (o < S.n ∧ Owns G S o b) := fun o b ⟨a', ha, ho⟩ => by
    rcases St.get_push ha with ⟨rfl, rfl⟩ | ⟨hlt, ha⟩
    · exact .inl ⟨rfl, ho⟩
    · exact .inr ⟨hlt, a', ha, ho.back (hold o hlt).1 (fun g s _ hs => (hold o hlt).2 g s hs)⟩
  refine ⟨⟨by simp [St.push, h.len], by have := h.base; simp; omega, fun o a' ha => ?_, fun o o' b h1 h2 => ?_, fun o b ho => ?_, fun o b b' h1 h2 => ?_, fun o g s s' h1 h2 => ?_, fun o b hb => ?_, fun o g s hs => ?_, fun b f hi => ?_⟩, ?_⟩
  · rcases St.get_push ha with ⟨rfl, rfl⟩ | ⟨hlt, ha⟩
    · exact hobj
    · refine (h.obj o a' ha).mono hg hk (fun b hb => hw.heap b (h.lt o b ⟨a', ha, hb⟩)) (fun b f hb hi => ?_)
      exact (him b f hi).resolve_right (fun hh => by have := h.lt o b ⟨a', ha, hb⟩; omega)
  · rcases howns o b h1 with ⟨e1, k1⟩ | ⟨hlt, k1⟩ <;> rcases howns o' b h2 with ⟨e2, k2⟩ | ⟨hlt', k2⟩
    · rw [e1, e2]
    · have := h.lt o' b k2; have := (hown b k1).1; omega
    · have := h.lt o b k1; have := (hown b k2).1; omega
    · exact h.inj o o' b k1 k2
  · rcases howns o b ho with ⟨rfl, h1⟩ | ⟨hlt, h1⟩
    · exact (hown b h1).2
    · exact Nat.lt_of_lt_of_le (h.lt o b h1) hw.size
  · by_cases ho : o = S.n
    · subst ho; exact hfb b b' h1 h2
    · exact h.fblk o b b' ((hblk o b h1).resolve_right ho) ((hblk o b' h2).resolve_right ho)
  · by_cases ho : o = S.n
    · subst ho; exact hfs g s s' h1 h2
    · exact h.fseg o g s s' ((hseg o g s h1).resolve_right (fun hh => ho hh.1)) ((hseg o g s' h2).resolve_right (fun hh => ho hh.1))
  · rcases hblk o b hb with hb | rfl
    · have := h.bblk o b hb; simp; omega
    · simp
  · rcases hseg o g s hs with hs | ⟨rfl, hh⟩
    · obtain ⟨h1, h2⟩ := h.bseg o g s hs
      refine ⟨by simp; omega, fun a' g' ha hgen => ?_⟩
      rw [St.get_push_old a h1] at ha
      exact h2 a' g' ha hgen
    · refine ⟨by simp, fun a' g' ha hgen => ?_⟩
      rw [St.get_push_new] at ha
      cases ha
      exact hh g' hgen
  · rcases him b f hi with hi | ⟨_, hu⟩
    · obtain ⟨u, hu⟩ := h.im b f hi
      exact ⟨u, hk b f u hi hu⟩
    · exact hu
  · refine ⟨hg, hk, hw.size, hw.os, hw.tape, hw.output, fun b hb _ => hw.heap b hb, fun o b ho => ?_, fun b f hi => ?_, rfl, by simp, fun id hid => ?_⟩
    · rcases howns o b ho with ⟨rfl, h1⟩ | ⟨hlt, h1⟩
      · exact .inr (hown b h1).1
      · exact .inl ⟨o, h1⟩
    · rcases him b f hi with hi | hi
      · exact .inl hi
      · exact .inr (.inr hi.1)
    · exact St.get_push_old a (Nat.lt_of_lt_of_le hid h.base)

/-- One block has turned, others are laid. -/
structure Turned (b : Nat) (w w' : World) : Prop where
  size : w.heap.size ≤ w'.heap.size
  os : w'.os = w.os
  tape : w'.tape = w.tape
  output : w'.output = w.output
  heap : ∀ k, k < w.heap.size → k ≠ b → w'.heap[k]? = w.heap[k]?

theorem Turned.of_laid {b : Nat} {w w' : World} (h : Laid w w') : Turned b w w' := ⟨h.size, h.os, h.tape, h.output, fun k hk _ => h.heap k hk⟩

/-- An object has turned. -/
theorem upd_step {G G' : Gh} {S : St} {w w' : World} {o b : Nat} {a0 a : AObj} (h : Wrel G S w) (hget : S.get o = some a0) (hbase : S.base ≤ o) (hw : Turned b w w') (hob : ownsA G o a0 b ∨ Laid w w') (hg : G.Le G') (hk : Kept G w w')
    (hblk : ∀ o b, G'.blk o b → G.blk o b)
    (hseg : ∀ o' g s, G'.seg o' g s → G.seg o' g s ∨ (o' = o ∧ (∀ g', genOf a0 = some g' → g' < g) ∧ ∀ g', genOf a = some g' → g ≤ g')) (hgen : ∀ g g', genOf a0 = some g → genOf a = some g' → g ≤ g')
    (hgs : ∀ g', genOf a = some g' → (genOf a0).isSome = true)
    (hfs : ∀ g s s', G'.seg o g s → G'.seg o g s' → s = s')
    (him : ∀ b' f, G'.im b' f → G.im b' f ∨ ((ownsA G o a0 b' ∨ w.heap.size ≤ b') ∧ ∃ u, w'.cell? ⟨b', f, none⟩ = some u))
    (hown : ∀ b', ownsA G' o a b' → (ownsA G o a0 b') ∨ (w.heap.size ≤ b' ∧ b' < w'.heap.size)) (hobj : ObjRel G' w' o a) :
    Wrel G' (S.set o a) w' ∧ Step G S w G' (S.set o a) w' := by
  have hlt := St.get_lt hget
  have hother : ∀ o', o' ≠ o → ∀ g s, G'.seg o' g s → G.seg o' g s := fun o' ho g s hs => (hseg o' g s hs).resolve_right (fun hh => ho hh.1)
  have howns : ∀ o' b', Owns G' (S.set o a) o' b' → (o' = o ∧ ownsA G' o a b') ∨ (o' ≠ o ∧ Owns G S o' b') := fun o' b' ⟨a', ha, ho⟩ => by
    rcases St.get_set h.len hlt ha with ⟨rfl, rfl⟩ | ⟨hne, ha⟩
    · exact .inl ⟨rfl, ho⟩
    · exact .inr ⟨hne, a', ha, ho.back (fun b hb => hblk o' b hb) (fun g s _ hs => hother o' hne g s hs)⟩
  have hne_b : ∀ o' b', o' ≠ o → Owns G S o' b' → w'.heap[b']? = w.heap[b']? := fun o' b' hne ho => by
    rcases hob with hob | hob
    · refine hw.heap b' (h.lt o' b' ho) (fun e => hne ?_)
      subst e
      exact h.inj o' o b' ho ⟨a0, hget, hob⟩
    · exact hob.heap b' (h.lt o' b' ho)
  refine ⟨⟨by simp [h.len], h.base, fun o' a' ha => ?_, fun o1 o2 b' h1 h2 => ?_, fun o' b' ho => ?_, fun o' b1 b2 h1 h2 => h.fblk o' b1 b2 (hblk _ _ h1) (hblk _ _ h2), fun o' g s s' h1 h2 => ?_, fun o' b' hb => h.bblk o' b' (hblk _ _ hb), fun o' g s hs => ?_, fun b' f hi => ?_⟩, ?_⟩
  · rcases St.get_set h.len hlt ha with ⟨rfl, rfl⟩ | ⟨hne, ha⟩
    · exact hobj
    · refine (h.obj o' a' ha).mono hg hk (fun b' hb => hne_b o' b' hne ⟨a', ha, hb⟩) (fun b' f hb hi => ?_)
      rcases him b' f hi with hi | ⟨hi | hi, _⟩
      · exact hi
      · exact absurd (h.inj o' o b' ⟨a', ha, hb⟩ ⟨a0, hget, hi⟩) hne
      · have := h.lt o' b' ⟨a', ha, hb⟩; omega
  · rcases howns o1 b' h1 with ⟨e1, k1⟩ | ⟨n1, k1⟩ <;> rcases howns o2 b' h2 with ⟨e2, k2⟩ | ⟨n2, k2⟩
    · rw [e1, e2]
    · rcases hown b' k1 with k1 | k1
      · exact absurd (h.inj o2 o b' k2 ⟨a0, hget, k1⟩) n2
      · have := h.lt o2 b' k2; omega
    · rcases hown b' k2 with k2 | k2
      · exact absurd (h.inj o1 o b' k1 ⟨a0, hget, k2⟩) n1
      · have := h.lt o1 b' k1; omega
    · exact h.inj o1 o2 b' k1 k2
  · rcases howns o' b' ho with ⟨rfl, k1⟩ | ⟨n1, k1⟩
    · rcases hown b' k1 with k1 | k1
      · exact Nat.lt_of_lt_of_le (h.lt o' b' ⟨a0, hget, k1⟩) hw.size
      · exact k1.2
    · exact Nat.lt_of_lt_of_le (h.lt o' b' k1) hw.size
  · by_cases ho : o' = o
    · subst ho; exact hfs g s s' h1 h2
    · exact h.fseg o' g s s' (hother o' ho g s h1) (hother o' ho g s' h2)
  · rcases hseg o' g s hs with hs | ⟨rfl, hgt, hle⟩
    · obtain ⟨h1, h2⟩ := h.bseg o' g s hs
      refine ⟨h1, fun a' g' ha hgen' => ?_⟩
      rcases St.get_set h.len hlt ha with ⟨rfl, rfl⟩ | ⟨hne, ha⟩
      · obtain ⟨g0, hg0⟩ := Option.isSome_iff_exists.1 (hgs g' hgen')
        exact Nat.le_trans (h2 a0 g0 hget hg0) (hgen g0 g' hg0 hgen')
      · exact h2 a' g' ha hgen'
    · refine ⟨hlt, fun a' g' ha hgen' => ?_⟩
      rw [St.get_set_same h.len a hlt] at ha
      cases ha
      exact hle g' hgen'
  · rcases him b' f hi with hi | ⟨_, hu⟩
    · obtain ⟨u, hu⟩ := h.im b' f hi
      exact ⟨u, hk b' f u hi hu⟩
    · exact hu
  · refine ⟨hg, hk, hw.size, hw.os, hw.tape, hw.output, fun b' hb hn => ?_, fun o' b' ho => ?_, fun b' f hi => ?_, rfl, Nat.le_refl _, fun id hid => St.get_set_other a hlt (by omega)⟩
    · rcases hob with hob | hob
      · refine hw.heap b' hb (fun e => ?_)
        subst e
        exact hn o ⟨a0, hget, hob⟩
      · exact hob.heap b' hb
    · rcases howns o' b' ho with ⟨rfl, k1⟩ | ⟨n1, k1⟩
      · rcases hown b' k1 with k1 | k1
        · exact .inl ⟨o', a0, hget, k1⟩
        · exact .inr k1.1
      · exact .inl ⟨o', k1⟩
    · rcases him b' f hi with hi | ⟨hi | hi, _⟩
      · exact .inl hi
      · exact .inr (.inl ⟨o, a0, hget, hi⟩)
      · exact .inr (.inr hi)

/-- Cells are laid that are written no more, of no object. -/
theorem im_step {G : Gh} {S : St} {w w' : World} (h : Wrel G S w) (hw : Laid w w') (I : Nat → Nat → Prop) (hI : ∀ b f, I b f → w.heap.size ≤ b ∧ ∃ u, w'.cell? ⟨b, f, none⟩ = some u) :
    Wrel { G with im := fun b f => G.im b f ∨ I b f } S w' ∧ Step G S w { G with im := fun b f => G.im b f ∨ I b f } S w' := by
  have hk := hw.kept h
  have hg : G.Le { G with im := fun b f => G.im b f ∨ I b f } := ⟨fun _ _ x => x, fun _ _ _ x => x, fun _ _ x => .inl x⟩
  have hown : ∀ o b, Owns { G with im := fun b f => G.im b f ∨ I b f } S o b → Owns G S o b := fun o b ⟨a, ha, ho⟩ => ⟨a, ha, ho.back (fun _ x => x) (fun _ _ _ x => x)⟩
  refine ⟨⟨h.len, h.base, fun o a ho => (h.obj o a ho).mono hg hk (fun b hb => hw.heap b (h.lt o b ⟨a, ho, hb⟩)) (fun b f hb hi => hi.resolve_right (fun hh => by have := h.lt o b ⟨a, ho, hb⟩; have := (hI b f hh).1; omega)),
    fun o o' b h1 h2 => h.inj o o' b (hown o b h1) (hown o' b h2), fun o b ho => Nat.lt_of_lt_of_le (h.lt o b (hown o b ho)) hw.size, h.fblk, h.fseg, h.bblk, h.bseg, fun b f hi => ?_⟩, ?_⟩
  · rcases hi with hi | hi
    · obtain ⟨u, hu⟩ := h.im b f hi
      exact ⟨u, hk b f u hi hu⟩
    · exact (hI b f hi).2
  · exact ⟨hg, hk, hw.size, hw.os, hw.tape, hw.output, fun b hb _ => hw.heap b hb, fun o b ho => .inl ⟨o, hown o b ho⟩, fun b f hi => by
      rcases hi with hi | hi
      · exact .inl hi
      · exact .inr (.inr (hI b f hi).1), rfl, Nat.le_refl _, fun _ _ => rfl⟩

end Go.Am
