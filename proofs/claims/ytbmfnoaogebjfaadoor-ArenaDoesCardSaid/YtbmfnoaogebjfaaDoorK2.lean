/- keyOf BY THE KIT's WALK. -/
import Derived.Test.YtbmfnoaogebjfaaDoorK1
set_option linter.unusedVariables false
set_option linter.unusedSimpArgs false
namespace Go.Am.R
open Go.Proofs Go.RowKit Go.Shelf

theorem below_setCells_w {B g : Nat} (hg : B ≤ g) : ∀ (vs : List Value) (o : Nat) (w : World), Below B w (w.setCells g o vs)
  | [], _, w => Below.refl B w
  | v :: r, o, w => ((Below.refl B w).setCell (p := ⟨g, o, none⟩) hg v).trans (below_setCells_w hg r (o + 1) _)

/-- The slot's cells. -/
def slotC (k f : ByteArray) (nm : Bool) (a b d : Int) (v6 : Value) (sa : Option Addr) (n cap : Nat) (r x : Int) : Array Value :=
  #[.string k, .bool nm, .string f, .int .i64 a, .int .i64 b, .int .i64 d, v6, .slice sa n cap, .int .i64 r, .int .i64 x]
set_option maxHeartbeats 4000000 in
set_option maxRecDepth 1000000 in
theorem key_walk (w : World) (htab : Lib.TabIs Tryd.prog w "internal/strconv.uint64pow10" .u64 Lib.pow10Tab) (k f : ByteArray) (nm : Bool) (a b d r x : Int) (a6 : Option Addr) (cp6 : Nat) (l : List Nat) (hl : l.length ≤ 1000000000000) (hl2 : ∀ k ∈ l, k < 1000000000000) (sa : Option Addr) (cap : Nat)
    (hc : ∀ (i k : Nat), l[i]? = some k → ∃ b o, sa = some ⟨b, o, none⟩ ∧ w.cell? ⟨b, o + i, none⟩ = some (.int .i64 (k : Int))) :
    Calls Tryd.prog 46 #[.agg #[.string k, .bool nm, .string f, .int .i64 a, .int .i64 b, .int .i64 d, .slice a6 0 cp6, .slice sa l.length cap, .int .i64 r, .int .i64 x]] w fun e w' => e = .returned (.agg #[.string k, .string f, .bool nm, .int .i64 a, .int .i64 b, .int .i64 d, .string ⟨(ktxt l).toArray⟩]) ∧ Below w.heap.size w w' := by
  have hcl : ∀ (i k : Nat) (w' : World), Below w.heap.size w w' → l[i]? = some k → ∃ b o, sa = some ⟨b, o, none⟩ ∧ w'.cell? ⟨b, o + i, none⟩ = some (.int .i64 (k : Int)) := fun i k w' hb h => by
    obtain ⟨b, o, h1, h2⟩ := hc i k h
    exact ⟨b, o, h1, (World.cell?_of_block (hb.block b (World.block_lt_of_cell? w _ h2))).trans h2⟩
  obtain ⟨O1, hO1⟩ : ∃ O1 : Obj, O1 = .cells #[.string k, .bool nm, .string f, .int .i64 a, .int .i64 b, .int .i64 d, .slice a6 0 cp6, .slice sa l.length cap, .int .i64 r, .int .i64 x] 60 := ⟨_, rfl⟩
  obtain ⟨O2, hO2⟩ : ∃ O2 : Obj, O2 = .cells #[.string ⟨#[]⟩, .string ⟨#[]⟩, .bool false, .int .i64 0, .int .i64 0, .int .i64 0, .string ⟨#[]⟩] 80 := ⟨_, rfl⟩
  go_enter Tryd.func46, Tryd.ntmps46
  go_wp2
  go_loopw [10] (fun i wr => ∃ m : Nat, m ≤ l.length ∧ i = .int .i64 m ∧ Lib.IsBuilderF 93 5 (w.heap.size + 1 + 1) (w.heap.size + 1 + 1) (Lib.byteCells (ktxt (l.take m))) wr ∧ wr.heap[w.heap.size]? = some O1 ∧ wr.heap[w.heap.size + 1]? = some O2 ∧ Below w.heap.size w wr) (fun i _ => l.length - (intOf i).toNat)
  case atStart =>
    rw [← hO1, ← hO2]
    have s1 := heap_alloc_new w O1
    have s2 := heap_alloc_new (w.alloc O1) O2
    have hf := Lib.IsBuilderF.of (Lib.fresh_isBuilder 93 5 ((w.alloc O1).alloc O2))
    have hb1 := (Below.refl _ w).alloc (Nat.le_refl _) O1
    have hb2 := hb1.alloc (by simp) O2
    refine ⟨0, Nat.zero_le _, rfl, ?_, ?_, ?_, hb2.alloc (by simp; omega) _⟩
    · simp only [World.alloc, Array.size_push] at hf ⊢
      exact hf
    · rw [heap_alloc_old _ _ (by simp; omega), heap_alloc_old _ _ (by simp)]
      exact s1
    · rw [heap_alloc_old _ _ (by simp)]
      simpa using s2
  case round =>
    obtain ⟨m, hm, rfl, hI, hN, hN1, hB⟩ := hrel
    have hsz : w.heap.size + 1 < wr.heap.size := (Array.getElem?_eq_some_iff.1 hN1).1
    have hI2 : w.heap.size + 1 + 1 ≤ wr.heap.size := hsz
    by_cases hlt : m < l.length
    · have hlt' : (m : Int) < (l.length : Int) := by omega
      obtain ⟨q, hq⟩ : ∃ q, l[m]? = some q := ⟨_, List.getElem?_eq_getElem hlt⟩
      have hq12 := hl2 q (List.mem_of_getElem? hq)
      obtain ⟨sb, so, rfl, hcell⟩ := hcl m q wr hB hq
      have hdl := dec_len 12 q (by simpa using hq12)
      have hkl := ktxt_len (l.take m) fun k hk => hl2 k (List.mem_of_mem_take hk)
      have hkl2 : (l.take m).length ≤ 1000000000000 := by rw [List.length_take]; omega
      clear hcl hc hO1 hO2
      go_wp2_with (go_at_call 66; refine (itoa66 q hq12 _ (tab_below htab hB)).mono ?_; rintro e w2 ⟨rfl, hb2⟩)
      have hI2' := keptI hb2 hI
      have hsz2 := hb2.size
      have hN2 := (hb2.block _ (by omega)).trans hN
      have hN12 := (hb2.block _ hsz).trans hN1
      have hle : (Lib.byteCells (ktxt (l.take m))).length + (({ data := (Lib.decDigits q).toArray } : ByteArray) ++ { data := #[32] }).size ≤ 140737488355328 := by
        rw [Lib.byteCells_length]
        simp [ByteArray.size]
        omega
      refine (writeString65 (w.heap.size + 1 + 1) (w.heap.size + 1 + 1) _ _ _ hI2' hle (by omega)).mono ?_
      rintro e w3 ⟨rfl, h3, b3, k3⟩
      go_wp2
      go_roundw
      case rel =>
        refine ⟨m + 1, by omega, by simp, ?_, ?_, ?_, (hB.trans (hb2.mono hB.size)).trans (b3.mono (by omega))⟩
        · have : Lib.byteCells (ktxt (l.take (m + 1))) = Lib.byteCells (ktxt (l.take m)) ++ Lib.strCells (({ data := (Lib.decDigits q).toArray } : ByteArray) ++ { data := #[32] }) := by
            rw [List.take_add_one, hq]
            simp [ktxt_snoc, Lib.strCells, Lib.byteCells]
          rw [this]; exact Or.inr h3
        · exact (b3.block _ (by omega)).trans hN2
        · exact (b3.block _ (by omega)).trans hN12
      case measure =>
        simp [intOf]
        omega
    · obtain rfl : m = l.length := by omega
      have hnz : ¬ ((l.length : Int) < (l.length : Int)) := by omega
      rw [List.take_length] at hI
      have hI3 : w.heap.size + 1 + 1 < wr.heap.size := by rcases hI with h | h <;> exact h.lt
      have hC : ∀ i : Nat, wr.cell? ⟨w.heap.size, i, none⟩ = (#[.string k, .bool nm, .string f, .int .i64 a, .int .i64 b, .int .i64 d, .slice a6 0 cp6, .slice sa l.length cap, .int .i64 r, .int .i64 x] : Array Value)[i]? := Joins.cell_of_block (hO1 ▸ hN)
      have c0 : wr.cell? ⟨w.heap.size, 0, none⟩ = some (.string k) := hC 0
      have c1 : wr.cell? ⟨w.heap.size, 1, none⟩ = some (.bool nm) := hC 1
      have c2 : wr.cell? ⟨w.heap.size, 2, none⟩ = some (.string f) := hC 2
      have c3 : wr.cell? ⟨w.heap.size, 3, none⟩ = some (.int .i64 a) := hC 3
      have c4 : wr.cell? ⟨w.heap.size, 4, none⟩ = some (.int .i64 b) := hC 4
      have c5 : wr.cell? ⟨w.heap.size, 5, none⟩ = some (.int .i64 d) := hC 5
      have c6 : wr.cell? ⟨w.heap.size, 6, none⟩ = some (.slice a6 0 cp6) := hC 6
      clear hC
      clear hcl hc
      go_wp2
      generalize hW0 : wr.alloc (.cells #[.string k, .bool nm, .string f, .int .i64 a, .int .i64 b, .int .i64 d, .slice a6 0 cp6] 28) = W0
      have hA0 : W0.heap[wr.heap.size]? = some (.cells #[.string k, .bool nm, .string f, .int .i64 a, .int .i64 b, .int .i64 d, .slice a6 0 cp6] 28) := by rw [← hW0]; exact heap_alloc_new _ _
      have hB0 : Below wr.heap.size wr W0 := by rw [← hW0]; exact (Below.refl _ wr).alloc (Nat.le_refl _) _
      have hI0 := keptI hB0 hI
      have hN10 := (hB0.block _ hsz).trans hN1
      have hz0 : wr.heap.size < W0.heap.size := (Array.getElem?_eq_some_iff.1 hA0).1
      have hBw0 := hB.trans (hB0.mono (by omega))
      clear hW0 hO1 hN c0 c1 c2 c3 c4 c5 c6 hB0 hI
      have S0 : ∀ w' : World, w'.heap[wr.heap.size]? = some (.cells #[.string k, .bool nm, .string f, .int .i64 a, .int .i64 b, .int .i64 d, .slice a6 0 cp6] 28) → (w'.cell? ⟨wr.heap.size, 0, none⟩ = some (.string k) ∧ w'.cell? ⟨wr.heap.size, 1, none⟩ = some (.bool nm) ∧ w'.cell? ⟨wr.heap.size, 2, none⟩ = some (.string f) ∧ w'.cell? ⟨wr.heap.size, 3, none⟩ = some (.int .i64 a) ∧ w'.cell? ⟨wr.heap.size, 4, none⟩ = some (.int .i64 b) ∧ w'.cell? ⟨wr.heap.size, 5, none⟩ = some (.int .i64 d)) := fun w' h => ⟨Joins.cell_of_block h 0, Joins.cell_of_block h 1, Joins.cell_of_block h 2, Joins.cell_of_block h 3, Joins.cell_of_block h 4, Joins.cell_of_block h 5⟩
      refine wp_region_held_drew (S := (fun w' => w'.cell? ⟨wr.heap.size, 0, none⟩ = some (.string k) ∧ w'.cell? ⟨wr.heap.size, 1, none⟩ = some (.bool nm) ∧ w'.cell? ⟨wr.heap.size, 2, none⟩ = some (.string f) ∧ w'.cell? ⟨wr.heap.size, 3, none⟩ = some (.int .i64 a) ∧ w'.cell? ⟨wr.heap.size, 4, none⟩ = some (.int .i64 b) ∧ w'.cell? ⟨wr.heap.size, 5, none⟩ = some (.int .i64 d))) (by kernel_rfl) (S0 W0.drew hA0) (fun hHeld => ?_)
      refine wpAnyH_take (i := 0) (oi := { dst := some 21, op := Op.fieldAddr 28 (Operand.tmp 6) 0, type := 0, pos := "arena.go:32", after := #[], guard := none }) (v := ?_) rfl (by kernel_rfl) (by kernel_rfl) (by kernel_rfl) (fun _ _ _ h => h) (Or.inl ⟨by rfl, ?_⟩) (by assumption) ?_
      rotate_left
      · intro w hSw; (try dsimp only at hSw); go_simp; all_goals (with_reducible rfl)
      simp only [Act.put, List.setIfInBounds_toArray, List.set_cons_zero, List.set_cons_succ]
      refine wpAnyH_take (i := 1) (oi := { dst := some 22, op := Op.load 9 (Operand.tmp 21), type := 9, pos := "arena.go:32", after := #[{ on := 0, ground := Ground.data }], guard := none }) (v := ?_) rfl (by kernel_rfl) (by kernel_rfl) (by kernel_rfl) (fun _ _ _ h => h) (Or.inl ⟨by rfl, ?_⟩) (by assumption) ?_
      rotate_left
      · intro w hSw; (try dsimp only at hSw); go_simp; all_goals (with_reducible rfl)
      simp only [Act.put, List.setIfInBounds_toArray, List.set_cons_zero, List.set_cons_succ]
      refine wpAnyH_take (i := 2) (oi := { dst := some 23, op := Op.fieldAddr 28 (Operand.tmp 6) 2, type := 0, pos := "arena.go:32", after := #[], guard := none }) (v := ?_) rfl (by kernel_rfl) (by kernel_rfl) (by kernel_rfl) (fun _ _ _ h => h) (Or.inl ⟨by rfl, ?_⟩) (by assumption) ?_
      rotate_left
      · intro w hSw; (try dsimp only at hSw); go_simp; all_goals (with_reducible rfl)
      simp only [Act.put, List.setIfInBounds_toArray, List.set_cons_zero, List.set_cons_succ]
      refine wpAnyH_take (i := 3) (oi := { dst := some 24, op := Op.load 9 (Operand.tmp 23), type := 9, pos := "arena.go:32", after := #[{ on := 2, ground := Ground.data }], guard := none }) (v := ?_) rfl (by kernel_rfl) (by kernel_rfl) (by kernel_rfl) (fun _ _ _ h => h) (Or.inl ⟨by rfl, ?_⟩) (by assumption) ?_
      rotate_left
      · intro w hSw; (try dsimp only at hSw); go_simp; all_goals (with_reducible rfl)
      simp only [Act.put, List.setIfInBounds_toArray, List.set_cons_zero, List.set_cons_succ]
      refine wpAnyH_take (i := 4) (oi := { dst := some 25, op := Op.fieldAddr 28 (Operand.tmp 6) 1, type := 0, pos := "arena.go:32", after := #[], guard := none }) (v := ?_) rfl (by kernel_rfl) (by kernel_rfl) (by kernel_rfl) (fun _ _ _ h => h) (Or.inl ⟨by rfl, ?_⟩) (by assumption) ?_
      rotate_left
      · intro w hSw; (try dsimp only at hSw); go_simp; all_goals (with_reducible rfl)
      simp only [Act.put, List.setIfInBounds_toArray, List.set_cons_zero, List.set_cons_succ]
      refine wpAnyH_take (i := 5) (oi := { dst := some 26, op := Op.load 4 (Operand.tmp 25), type := 4, pos := "arena.go:32", after := #[{ on := 4, ground := Ground.data }], guard := none }) (v := ?_) rfl (by kernel_rfl) (by kernel_rfl) (by kernel_rfl) (fun _ _ _ h => h) (Or.inl ⟨by rfl, ?_⟩) (by assumption) ?_
      rotate_left
      · intro w hSw; (try dsimp only at hSw); go_simp; all_goals (with_reducible rfl)
      simp only [Act.put, List.setIfInBounds_toArray, List.set_cons_zero, List.set_cons_succ]
      refine wpAnyH_take (i := 6) (oi := { dst := some 27, op := Op.fieldAddr 28 (Operand.tmp 6) 3, type := 0, pos := "arena.go:32", after := #[], guard := none }) (v := ?_) rfl (by kernel_rfl) (by kernel_rfl) (by kernel_rfl) (fun _ _ _ h => h) (Or.inl ⟨by rfl, ?_⟩) (by assumption) ?_
      rotate_left
      · intro w hSw; (try dsimp only at hSw); go_simp; all_goals (with_reducible rfl)
      simp only [Act.put, List.setIfInBounds_toArray, List.set_cons_zero, List.set_cons_succ]
      refine wpAnyH_take (i := 7) (oi := { dst := some 28, op := Op.load 3 (Operand.tmp 27), type := 3, pos := "arena.go:32", after := #[{ on := 6, ground := Ground.data }], guard := none }) (v := ?_) rfl (by kernel_rfl) (by kernel_rfl) (by kernel_rfl) (fun _ _ _ h => h) (Or.inl ⟨by rfl, ?_⟩) (by assumption) ?_
      rotate_left
      · intro w hSw; (try dsimp only at hSw); go_simp; all_goals (with_reducible rfl)
      simp only [Act.put, List.setIfInBounds_toArray, List.set_cons_zero, List.set_cons_succ]
      refine wpAnyH_take (i := 8) (oi := { dst := some 29, op := Op.fieldAddr 28 (Operand.tmp 6) 4, type := 0, pos := "arena.go:32", after := #[], guard := none }) (v := ?_) rfl (by kernel_rfl) (by kernel_rfl) (by kernel_rfl) (fun _ _ _ h => h) (Or.inl ⟨by rfl, ?_⟩) (by assumption) ?_
      rotate_left
      · intro w hSw; (try dsimp only at hSw); go_simp; all_goals (with_reducible rfl)
      simp only [Act.put, List.setIfInBounds_toArray, List.set_cons_zero, List.set_cons_succ]
      refine wpAnyH_take (i := 9) (oi := { dst := some 30, op := Op.load 3 (Operand.tmp 29), type := 3, pos := "arena.go:32", after := #[{ on := 8, ground := Ground.data }], guard := none }) (v := ?_) rfl (by kernel_rfl) (by kernel_rfl) (by kernel_rfl) (fun _ _ _ h => h) (Or.inl ⟨by rfl, ?_⟩) (by assumption) ?_
      rotate_left
      · intro w hSw; (try dsimp only at hSw); go_simp; all_goals (with_reducible rfl)
      simp only [Act.put, List.setIfInBounds_toArray, List.set_cons_zero, List.set_cons_succ]
      refine wpAnyH_take (i := 10) (oi := { dst := some 31, op := Op.fieldAddr 28 (Operand.tmp 6) 5, type := 0, pos := "arena.go:32", after := #[], guard := none }) (v := ?_) rfl (by kernel_rfl) (by kernel_rfl) (by kernel_rfl) (fun _ _ _ h => h) (Or.inl ⟨by rfl, ?_⟩) (by assumption) ?_
      rotate_left
      · intro w hSw; (try dsimp only at hSw); go_simp; all_goals (with_reducible rfl)
      simp only [Act.put, List.setIfInBounds_toArray, List.set_cons_zero, List.set_cons_succ]
      refine wpAnyH_take (i := 11) (oi := { dst := some 32, op := Op.load 3 (Operand.tmp 31), type := 3, pos := "arena.go:32", after := #[{ on := 10, ground := Ground.data }], guard := none }) (v := ?_) rfl (by kernel_rfl) (by kernel_rfl) (by kernel_rfl) (fun _ _ _ h => h) (Or.inl ⟨by rfl, ?_⟩) (by assumption) ?_
      rotate_left
      · intro w hSw; (try dsimp only at hSw); go_simp; all_goals (with_reducible rfl)
      simp only [Act.put, List.setIfInBounds_toArray, List.set_cons_zero, List.set_cons_succ]
      refine wpAnyH_ready (rs := [12]) (by kernel_rfl) (by simp) ?_
      refine AllReadyH.cons (o := { dst := some 33, op := Op.call { callee := Callee.value (Operand.func 67), args := #[Operand.tmp 3], argTypes := #[93] }, type := 9, pos := "arena.go:32", after := #[], guard := none }) rfl (fun K hK => ?_) AllReadyH.nil
      go_simp
      go_at_call 67
      refine (string67 (w.heap.size + 1 + 1) (w.heap.size + 1 + 1) _ W0.drew (keptI (Below.drew (Below.refl _ _)) hI0) (by show w.heap.size + 1 + 1 ≤ W0.heap.size; omega)).mono ?_
      rintro e w4 ⟨rfl, hI4, hB4, k4⟩
      have hA4 : w4.heap[wr.heap.size]? = some (.cells #[.string k, .bool nm, .string f, .int .i64 a, .int .i64 b, .int .i64 d, .slice a6 0 cp6] 28) := k4 _ _ hA0 (by intro h; injection h with h; omega) (by intro c fz hc; cases hc)
      have hN4 : w4.heap[w.heap.size + 1]? = some (.cells #[.string ⟨#[]⟩, .string ⟨#[]⟩, .bool false, .int .i64 0, .int .i64 0, .int .i64 0, .string ⟨#[]⟩] 80) := by rw [← hO2]; exact (hB4.block _ (Nat.lt_succ_self _)).trans hN10
      have hBw4 : Below w.heap.size w w4 := by
        have h2 : Below w.heap.size W0 W0.drew := Below.drew (Below.refl _ _)
        have h3 : Below w.heap.size W0.drew w4 := hB4.mono (by omega)
        exact hBw0.trans (h2.trans h3)
      refine hK.out _ _ (S0 w4 hA4) (fun hHeld2 => ?_)
      clear hK K hHeld
      refine wpAnyH_take (i := 13) (oi := { dst := some 34, op := Op.build 80 #[(0, Operand.tmp 22), (1, Operand.tmp 24), (2, Operand.tmp 26), (3, Operand.tmp 28), (4, Operand.tmp 30), (5, Operand.tmp 32), (6, Operand.tmp 33)], type := 80, pos := "arena.go:32", after := #[{ on := 1, ground := Ground.data }, { on := 3, ground := Ground.data }, { on := 5, ground := Ground.data }, { on := 7, ground := Ground.data }, { on := 9, ground := Ground.data }, { on := 11, ground := Ground.data }, { on := 12, ground := Ground.data }], guard := none }) (v := ?_) rfl (by kernel_rfl) (by kernel_rfl) (by kernel_rfl) (fun _ _ _ h => h) (Or.inl ⟨by rfl, ?_⟩) (by assumption) ?_
      rotate_left
      · intro w hSw; (try dsimp only at hSw); go_simp; all_goals (with_reducible rfl)
      simp only [Act.put, List.setIfInBounds_toArray, List.set_cons_zero, List.set_cons_succ]
      refine wpAnyH_ready (rs := [14]) (by kernel_rfl) (by simp) ?_
      refine AllReadyH.cons (o := { dst := none, op := Op.store 80 (Operand.tmp 2) (Operand.tmp 34), type := 0, pos := "arena.go:32", after := #[{ on := 13, ground := Ground.data }, { on := 12, ground := Ground.chain }, { on := 0, ground := Ground.phase }, { on := 1, ground := Ground.phase }, { on := 2, ground := Ground.phase }, { on := 3, ground := Ground.phase }, { on := 4, ground := Ground.phase }, { on := 5, ground := Ground.phase }, { on := 6, ground := Ground.phase }, { on := 7, ground := Ground.phase }, { on := 8, ground := Ground.phase }, { on := 9, ground := Ground.phase }, { on := 10, ground := Ground.phase }, { on := 11, ground := Ground.phase }, { on := 12, ground := Ground.phase }, { on := 13, ground := Ground.phase }], guard := none }) rfl (fun K hK => ?_) AllReadyH.nil
      rw [if_pos (by rfl)]
      refine wp_store_mid _ _ _ rfl _ _ (List.toArray _) rfl rfl ?_ (by kernel_rfl) ?_ ?_
      · intro j hj
        rw [Joins.cell_of_block hN4, Joins.unfrozen_of_block hN4]
        refine ⟨?_, rfl⟩
        have hj7 : j < 7 := hj
        obtain rfl | rfl | rfl | rfl | rfl | rfl | rfl : j = 0 ∨ j = 1 ∨ j = 2 ∨ j = 3 ∨ j = 4 ∨ j = 5 ∨ j = 6 := by omega
        all_goals rfl
      · simp [Value.oneCell']
      simp only [Act.put, List.setIfInBounds_toArray, List.set_cons_zero, List.set_cons_succ, List.toList_toArray]
      have hblk : (w4.setCells (w.heap.size + 1) 0 [.string k, .string f, .bool nm, .int .i64 a, .int .i64 b, .int .i64 d, .string ⟨(ktxt l).toArray⟩]).heap[w.heap.size + 1]? = some (.cells #[.string k, .string f, .bool nm, .int .i64 a, .int .i64 b, .int .i64 d, .string ⟨(ktxt l).toArray⟩] 80) := Joins.block_setCell (Joins.block_setCell (Joins.block_setCell (Joins.block_setCell (Joins.block_setCell (Joins.block_setCell (Joins.block_setCell hN4 (.string k)) (.string f)) (.bool nm)) (.int .i64 a)) (.int .i64 b)) (.int .i64 d)) (.string ⟨(ktxt l).toArray⟩)
      have hout := fun j => World.cell?_setCells_out (w.heap.size + 1) [.string k, .string f, .bool nm, .int .i64 a, .int .i64 b, .int .i64 d, .string ⟨(ktxt l).toArray⟩] 0 w4 ⟨wr.heap.size, j, none⟩ (fun h => by have h2 : wr.heap.size = w.heap.size + 1 := h; omega)
      have hBe := hBw4.trans (below_setCells_w (Nat.le_succ w.heap.size) [.string k, .string f, .bool nm, .int .i64 a, .int .i64 b, .int .i64 d, .string ⟨(ktxt l).toArray⟩] 0 w4)
      generalize w4.setCells (w.heap.size + 1) 0 [.string k, .string f, .bool nm, .int .i64 a, .int .i64 b, .int .i64 d, .string ⟨(ktxt l).toArray⟩] = W9 at hblk hout hBe
      refine hK.out _ _ ⟨(hout 0).trans hHeld2.1, (hout 1).trans hHeld2.2.1, (hout 2).trans hHeld2.2.2.1, (hout 3).trans hHeld2.2.2.2.1, (hout 4).trans hHeld2.2.2.2.2.1, (hout 5).trans hHeld2.2.2.2.2.2⟩ (fun _ => wpAnyH_done (by kernel_rfl) ?_ _)
      clear hK K hHeld2 hout hN4 hA4 k4 hI4 hB4 hO2 S0 hA0 hN10 hI0 hN1 hBw0 htab
      go_wp2
      refine bodyPost_ret (v := .agg #[.string k, .string f, .bool nm, .int .i64 a, .int .i64 b, .int .i64 d, .string ⟨(ktxt l).toArray⟩]) (results_cell_row rfl _ W9 (w.heap.size + 1) 80 _ (0, 0) _ rfl hblk Tryd.underlying80 rfl (by kernel_rfl)) rfl ⟨rfl, hBe⟩
end Go.Am.R
