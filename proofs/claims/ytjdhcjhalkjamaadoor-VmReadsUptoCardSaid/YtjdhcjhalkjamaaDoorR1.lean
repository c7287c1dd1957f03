/- PRINT, by a walk. -/
import Derived.Test.YtjdhcjhalkjamaaDoorR0b
import Derived.Lib.OwnBridge
import Derived.OwnWalk
import Derived.WalkSpells
set_option linter.unusedVariables false
set_option linter.unusedSimpArgs false
namespace Go.Am.V
open Go.Proofs Go.RowKit Go.MapKept Go.ChangeMaps

def valOf (i : Ins) (f : UInt8) : Int := if f = 88 then i.x else if f = 89 then i.y else i.z
def insText (i : Ins) : List UInt8 := nameOf i.op.toNat ++ (fldsOf i.op.toNat).flatMap fun f => 32 :: dig (valOf i f).toNat
def printV (p : List Ins) : List UInt8 := Lib.join (p.map insText) [59, 32]

theorem fld62 (op : Int) (fs : ByteArray) (W : World) : (Instr.field 62 (.agg #[.int .i64 op, .string fs]) 1).run Tryd.prog W = .ok (.string fs) W := by
  haveI : Pin := ⟨fun _ _ => False⟩
  simp [Instr.field, Sem.run_bind, run_underlying Tryd.underlying62, part, run_isAgg_ty Tryd.underlying9, tkOf, isAggK, asAgg]
theorem tab_below {w w' : World} (h : Lib.TabIs Tryd.prog w "internal/strconv.uint64pow10" .u64 Lib.pow10Tab) (hb : Below w.heap.size w w') : Lib.TabIs Tryd.prog w' "internal/strconv.uint64pow10" .u64 Lib.pow10Tab :=
  by
  have hg : Tryd.prog.globalNamed "internal/strconv.uint64pow10" = some 3 := by kernel_rfl
  unfold Lib.TabIs World.var? at h ⊢
  rw [hg] at h ⊢
  simp only [Option.bind_some] at h ⊢
  have hlt : 3 < w.heap.size := by
    rcases Nat.lt_or_ge 3 w.heap.size with h3 | h3
    · exact h3
    · rw [Array.getElem?_eq_none h3] at h; cases h
  rw [hb.block 3 hlt]
  exact h
/-- A step over the letters. -/
theorem iter_step {W w' : World} {I m : Nat} {fs : ByteArray} (hI : I = W.heap.size) (hit : w'.heap[I]? = some (.stringIter fs m)) (hB : Below I W w') (hm : m < fs.size) (ha : (fs[m]'hm).toNat < 128) :
    ∃ w5, (∀ ty, (Instr.next (.pointer (some ⟨I, 0, none⟩)) true ty).run Tryd.prog w' = .ok (.tuple #[.bool true, .int .i64 m, .int .i32 (fs[m]'hm).toNat]) w5) ∧ w5.heap[I]? = some (.stringIter fs (m + 1)) ∧ Below I W w5 ∧ I < w5.heap.size :=
  ⟨w'.iterAt I fs (m + 1), fun ty => Lib.run_next_ascii_at w' I fs m ty hit hm ha, Lib.iterAt_heap _ _ _ _ _ hit, Lib.below_iterAt hB (Nat.le_refl _) _ _, by rw [Lib.iterAt_size]; exact (Array.getElem?_eq_some_iff.1 hit).1⟩

theorem own_below {w w' : World} {base : Nat} {e : TypeId} {s : Nat} {v : Value} {n : Nat} {xs : List Value} (h : w.ownsRow base e s v n xs) (hb : Below w.heap.size w w') : w'.ownsRow base e s v n xs := by
  refine ⟨h.1, ?_⟩
  rcases h.2 with h | ⟨g, cap, cur, h1, h2, h3, h4⟩
  · exact .inl h
  · exact .inr ⟨g, cap, cur, h1, h2, (hb.block g (Array.getElem?_eq_some_iff.1 h3).1).trans h3, h4⟩

theorem own_ge {w : World} {base : Nat} {e : TypeId} {s : Nat} {v : Value} {n : Nat} {xs : List Value} (h : w.ownsRow base e s v n xs) {j : Nat} (hj : v.ownBlock = some j) : base ≤ j := by
  rcases h.2 with ⟨rfl, _⟩ | ⟨g, cap, cur, rfl, h2, _⟩
  · cases hj
  · cases hj; exact h2

theorem dig_len (n : Nat) : (dig n).length ≤ 3 := by unfold dig; split <;> (try split) <;> simp
theorem name_len (n : Nat) : (nameOf n).length ≤ 4 := by unfold nameOf; split <;> simp
theorem flds_len (n : Nat) : (fldsOf n).length ≤ 3 := by unfold fldsOf; split <;> simp
theorem flat_len (i : Ins) : ∀ l : List UInt8, (l.flatMap fun f => 32 :: dig (valOf i f).toNat).length ≤ 4 * l.length
  | [] => by simp
  | f :: l => by
    have h1 := flat_len i l
    have h2 := dig_len (valOf i f).toNat
    simp only [List.flatMap_cons, List.length_append, List.length_cons]
    omega
theorem insText_len (i : Ins) : (insText i).length ≤ 16 := by
  have h1 := name_len i.op.toNat
  have h2 := flds_len i.op.toNat
  have h3 := flat_len i (fldsOf i.op.toNat)
  unfold insText
  rw [List.length_append]
  omega
theorem tail_len {L s : Nat} (sep : List UInt8) (hs : sep.length ≤ s) : ∀ l : List (List UInt8), (∀ x ∈ l, x.length ≤ L) → (Lib.joinTail sep l).length ≤ (L + s) * l.length
  | [], _ => by simp [Lib.joinTail]
  | x :: l, h => by
    have h1 := h x List.mem_cons_self
    have h2 := tail_len sep hs l fun z hz => h z (List.mem_cons_of_mem _ hz)
    simp only [Lib.joinTail, List.map_cons, List.flatten_cons, List.length_append, List.length_cons, Nat.mul_add] at h2 ⊢
    omega
theorem join_len {L s : Nat} (sep : List UInt8) (hs : sep.length ≤ s) (l : List (List UInt8)) (h : ∀ x ∈ l, x.length ≤ L) : (Lib.join l sep).length ≤ (L + s) * l.length := by
  cases l with
  | nil => simp [Lib.join_nil]
  | cons x l =>
    rw [Lib.join_cons]
    have h1 := h x List.mem_cons_self
    have h2 := tail_len (L := L) sep hs l fun z hz => h z (List.mem_cons_of_mem _ hz)
    simp only [List.length_append, List.length_cons, Nat.mul_add]
    omega
def CellsAt4 (w : World) (b o : Nat) (p : List Ins) : Prop := ∀ k i, p[k]? = some i → w.cell? ⟨b, o + k * 4, none⟩ = some (.int .i64 i.op) ∧ w.cell? ⟨b, o + k * 4 + 1, none⟩ = some (.int .i64 i.x) ∧ w.cell? ⟨b, o + k * 4 + 2, none⟩ = some (.int .i64 i.y) ∧ w.cell? ⟨b, o + k * 4 + 3, none⟩ = some (.int .i64 i.z)

def leftW (w : World) (r : Nat) : Nat :=
  match w.heap[r]? with
  | some (.mapIter _ _ seen _) => (leftOf opMes seen).size
  | _ => 0

/-- Where the first loop stands. -/
def Rel1 (w : World) (wr : World) : Prop := ∃ (seen : Array Nat) (c0 ck : Nat) (es : Array MapEntry), 7 ≤ c0 ∧ wr.heap[w.heap.size]? = some (.map es ck) ∧ wr.heap[w.heap.size + 1]? = some (.map opMes 7) ∧ wr.heap[w.heap.size + 2]? = some (.mapIter (some (w.heap.size + 1)) 7 seen c0) ∧ Named es seen ∧ Below w.heap.size w wr

/-- A step of it: an entry has come. -/
theorem rel1_next {w wr w2 : World} {seen : Array Nat} {c0 : Nat} {e : MapEntry} (hr : wr.heap[w.heap.size + 2]? = some (.mapIter (some (w.heap.size + 1)) 7 seen c0)) (hb : wr.heap[w.heap.size + 1]? = some (.map opMes 7)) (hB : Below w.heap.size w wr) (hw : NextW wr (w.heap.size + 2) (w.heap.size + 1) 7 7 seen opMes e w2) :
    (Instr.entry (.pointer (some ⟨w.heap.size + 2, 0, none⟩))).run Tryd.prog w2 = .ok (.tuple #[e.key, e.val]) w2 ∧ w2.heap[w.heap.size + 2]? = some (.mapIter (some (w.heap.size + 1)) 7 (seen.push e.born) 7) ∧
    (∀ k, k ≠ w.heap.size + 2 → w2.heap[k]? = wr.heap[k]?) ∧ w2.heap.size = wr.heap.size ∧ Below w.heap.size w w2 ∧ e ∈ opMes.toList ∧ seen.contains e.born = false := by
  obtain ⟨hmem, w1, hw, rfl⟩ := hw
  obtain ⟨he, hs⟩ := left_mem hmem
  have h1 : w1.heap = wr.heap := by rcases hw with rfl | rfl <;> rfl
  have hlt : w.heap.size + 2 < wr.heap.size := (Array.getElem?_eq_some_iff.1 hr).1
  have k1 : (setBlock w1 (w.heap.size + 2) (.mapIter (some (w.heap.size + 1)) 7 (seen.push e.born) 7)).heap[w.heap.size + 2]? = some (.mapIter (some (w.heap.size + 1)) 7 (seen.push e.born) 7) := by
    simp [setBlock, h1, hlt]
  have k2 : ∀ k, k ≠ w.heap.size + 2 → (setBlock w1 (w.heap.size + 2) (.mapIter (some (w.heap.size + 1)) 7 (seen.push e.born) 7)).heap[k]? = wr.heap[k]? := fun k hk => by
    simp only [setBlock, h1]
    exact Array.getElem?_setIfInBounds_ne (Ne.symm hk)
  refine ⟨run_entry_at _ _ _ 7 seen opMes 7 e k1 (by rw [k2 _ (by omega)]; exact hb) he opMes_nodup, k1, k2, by simp [setBlock, h1], ?_, he, hs⟩
  refine ⟨?_, ?_, ?_, by simp [setBlock, h1]; exact hB.size, fun k hk => by rw [k2 k (by omega)]; exact hB.block k hk⟩
  · rcases hw with rfl | rfl <;> exact hB.os
  · rcases hw with rfl | rfl <;> exact hB.tape
  · rcases hw with rfl | rfl <;> exact hB.output

/-- .. and its name is laid. -/
theorem rel1_upd {w w2 : World} {seen : Array Nat} {k ck : Nat} {K : Int} {es : Array MapEntry} {ob : Obj} (hK : K = ((k + 1 : Nat) : Int)) (hk : k < 7) (hs : seen.contains k = false) (hI : w2.heap[w.heap.size + 2]? = some (.mapIter (some (w.heap.size + 1)) 7 (seen.push k) 7)) (hO : w2.heap[w.heap.size + 1]? = some (.map opMes 7))
    (hN : w2.heap[w.heap.size]? = some (.map es ck)) (hnm : Named es seen) (hB : Below w.heap.size w w2) :
    ∃ w3, (Instr.mapUpdate 58 (.map (some w.heap.size)) (.int .i64 K) (.string ⟨(nameOf (k + 1)).toArray⟩)).run Tryd.prog (w2.alloc ob) = .ok () w3 ∧ Rel1 w w3 ∧ leftW w3 (w.heap.size + 2) = (leftOf opMes (seen.push k)).size := by
  subst hK
  have lt : ∀ {j : Nat} {x : Obj}, w2.heap[j]? = some x → j < w2.heap.size := fun h => (Array.getElem?_eq_some_iff.1 h).1
  have hN' : (w2.alloc ob).heap[w.heap.size]? = some (.map es ck) := by rw [heap_alloc_old _ _ (lt hN)]; exact hN
  have hrun := upd_at (P := Tryd.prog) (val := .string ⟨(nameOf (k + 1)).toArray⟩) Tryd.underlying58 Tryd.underlying3 (by simp [MapKept.IsKey]) hN' (hnm.fresh hs)
  have hne : ∀ j, j ≠ w.heap.size → (({ w2.alloc ob with heap := (w2.alloc ob).heap.setIfInBounds w.heap.size (.map (es.push { key := .int .i64 ((k + 1 : Nat) : Int), val := .string ⟨(nameOf (k + 1)).toArray⟩, born := ck }) (ck + 1)) } : World)).heap[j]? = (w2.alloc ob).heap[j]? := fun j hj => Array.getElem?_setIfInBounds_ne (Ne.symm hj)
  have hI' : (({ w2.alloc ob with heap := (w2.alloc ob).heap.setIfInBounds w.heap.size (.map (es.push { key := .int .i64 ((k + 1 : Nat) : Int), val := .string ⟨(nameOf (k + 1)).toArray⟩, born := ck }) (ck + 1)) } : World)).heap[w.heap.size + 2]? = some (.mapIter (some (w.heap.size + 1)) 7 (seen.push k) 7) := by
    rw [hne _ (by omega), heap_alloc_old _ _ (lt hI)]; exact hI
  refine ⟨_, hrun, ⟨seen.push k, 7, ck + 1, _, Nat.le_refl _, ?_, ?_, hI', hnm.push hk (c := ck), ?_⟩, ?_⟩
  · have := lt hN
    simp only [World.alloc]
    rw [Array.getElem?_setIfInBounds_self_of_lt (by simp; omega)]
  · rw [hne _ (by omega), heap_alloc_old _ _ (lt hO)]; exact hO
  · have h2 := hB.alloc hB.size ob
    refine ⟨h2.os, h2.tape, h2.output, ?_, fun j hj => ?_⟩
    · have := h2.size
      simpa using this
    · rw [hne j (by omega)]; exact h2.block j hj
  · unfold leftW
    rw [hI']

set_option maxHeartbeats 8000000 in
set_option maxRecDepth 1000000 in
theorem print_calls (w : World) (htab : Lib.TabIs Tryd.prog w "internal/strconv.uint64pow10" .u64 Lib.pow10Tab) (p : List Ins) (hf : fitV p = true) (b o c : Nat) (hb : b < w.heap.size) (hcells : CellsAt4 w b o p) :
    Calls Tryd.prog 11 #[.slice (some ⟨b, o, none⟩) p.length c] w fun e w' => e = .returned (.string ⟨(printV p).toArray⟩) ∧ Below w.heap.size w w' := by
  have hpl := fitV_len hf
  have hmk : (Instr.makeMap 58 none).run Tryd.prog w = .ok (.map (some w.heap.size)) (w.alloc (.map #[] 0)) := rfl
  have hrg : (Instr.range 59 (.map (some (w.heap.size + 1)))).run Tryd.prog ((w.alloc (.map #[] 0)).alloc (.map opMes 7)) = .ok (.pointer (some ⟨w.heap.size + 2, 0, none⟩)) (((w.alloc (.map #[] 0)).alloc (.map opMes 7)).alloc (.mapIter (some (w.heap.size + 1)) 7 #[] 7)) := by
    have := run_range_map (P := Tryd.prog) ((w.alloc (.map #[] 0)).alloc (.map opMes 7)) 59 9 62 (w.heap.size + 1) opMes 7 Tryd.underlying59 (by have := heap_alloc_new (w.alloc (.map #[] 0)) (.map opMes 7); simpa using this)
    simpa using this
  go_enter Tryd.func11, Tryd.ntmps11
  go_wp2_with (go_at_call 26; refine (ops_calls _).mono ?_; rintro e w' ⟨rfl, rfl⟩)
  clear hmk hrg
  go_loopw [4] (fun _ wr => Rel1 w wr) (fun _ wr => leftW wr (w.heap.size + 2))
  case atStart =>
    have s1 : (((w.alloc (.map #[] 0)).alloc (.map opMes 7)).alloc (.mapIter (some (w.heap.size + 1)) 7 #[] 7)).heap[w.heap.size + 2]? = some (.mapIter (some (w.heap.size + 1)) 7 #[] 7) := by
      have := heap_alloc_new ((w.alloc (.map #[] 0)).alloc (.map opMes 7)) (.mapIter (some (w.heap.size + 1)) 7 #[] 7); simpa using this
    refine ⟨#[], 7, 0, #[], Nat.le_refl _, ?_, ?_, s1, Named.nil, ((((Below.refl _ w).alloc (Nat.le_refl _) _).alloc (by simp) _).alloc (by simp; omega) _)⟩
    · rw [heap_alloc_old _ _ (by simp; omega), heap_alloc_old _ _ (by simp)]
      exact heap_alloc_new w _
    · rw [heap_alloc_old _ _ (by simp)]
      have := heap_alloc_new (w.alloc (.map #[] 0)) (.map opMes 7)
      simpa using this
  case round =>
    obtain ⟨seen, c0, ck, es, hc0, hN, hO, hI, hnm, hB⟩ := hrel
    go_wp2_with (first
      | (at_next; refine wpList_next_raw _ rfl _ rfl (w.heap.size + 2) (w.heap.size + 1) 7 c0 seen opMes 7 rfl hI hO opMes_born hc0 ?_ ?_)
      | go_in)
    · intro hdone
      have hall := left_all (by rw [hdone]; rfl)
      have hNlt : w.heap.size < wr.heap.size := (Array.getElem?_eq_some_iff.1 hN).1
      clear hdone hO hI
      rename World => W1
      go_wp2
      go_loopw [6, 26] (fun v i w' => ∃ k : Nat, k ≤ p.length ∧ i = .int .i64 k ∧ w'.ownsRow W1.heap.size 9 1 v k ((p.take k).map fun i => .string ⟨(insText i).toArray⟩) ∧ Below W1.heap.size W1 w') (fun _ i _ => p.length - (intOf i).toNat)
      case atStart =>
        exact ⟨0, Nat.zero_le _, rfl, World.ownsRow_nil _ _ _ _, Below.refl _ _⟩
      case round =>
        rename World => W2
        obtain ⟨k, hk, rfl, hown, hBw⟩ := hrel
        by_cases hlt : k < p.length
        · have hltz : ((k : Int) < (p.length : Int)) := by omega
          obtain ⟨i, hi⟩ : ∃ i, p[k]? = some i := ⟨_, List.getElem?_eq_getElem hlt⟩
          have hfi := fit1_facts (fitV_get hf hi)
          obtain ⟨n, hn7, hni⟩ : ∃ n : Nat, n < 7 ∧ i.op = ((n + 1 : Nat) : Int) := ⟨(i.op - 1).toNat, by omega, by omega⟩
          have hbw : b < W1.heap.size := by omega
          have hcl : ∀ j, W2.cell? ⟨b, j, none⟩ = w.cell? ⟨b, j, none⟩ := fun j => World.cell?_of_block ((hBw.block b hbw).trans (hB.block b hb))
          obtain ⟨hc0', hc1', hc2', hc3'⟩ := hcells k i hi
          rw [← hcl] at hc0' hc1' hc2' hc3'
          have hNw : W2.heap[w.heap.size]? = some (.map es ck) := (hBw.block _ hNlt).trans hN
          clear hcl
          have hNwlt : w.heap.size < W2.heap.size := (Array.getElem?_eq_some_iff.1 hNw).1
          obtain ⟨O8, hO8⟩ : ∃ O8 : Obj, O8 = .cells #[.int .i64 i.op, .int .i64 i.x, .int .i64 i.y, .int .i64 i.z] 39 := ⟨_, rfl⟩
          obtain ⟨nm, hnmE⟩ : ∃ nm : ByteArray, nm = ⟨(nameOf (n + 1)).toArray⟩ := ⟨_, rfl⟩
          obtain ⟨fs, hfsE⟩ : ∃ fs : ByteArray, fs = ⟨(fldsOf (n + 1)).toArray⟩ := ⟨_, rfl⟩
          have hlk1 : (Instr.lookup 58 (.map (some w.heap.size)) (.int .i64 i.op) false).run Tryd.prog (W2.alloc O8) = .ok (.string nm) (W2.alloc O8) := by
            obtain ⟨j, hj⟩ := hnm.find hall hn7
            rw [hni, hnmE]
            exact look_at Tryd.underlying58 Tryd.underlying3 (by simp [MapKept.IsKey]) (by rw [heap_alloc_old _ _ hNwlt]; exact hNw) hj
          have hlk2 : (Instr.lookup 59 (.map (some (W2.heap.size + 1))) (.string nm) false).run Tryd.prog ((W2.alloc O8).alloc (.map opMes 7)) = .ok (.agg #[.int .i64 i.op, .string fs]) ((W2.alloc O8).alloc (.map opMes 7)) := by
            obtain ⟨j, hj⟩ := opMes_find hn7
            rw [hni, hnmE, hfsE]
            refine look_at (clock := 7) Tryd.underlying59 Tryd.underlying9 (by simp [MapKept.IsKey]) ?_ hj
            have := heap_alloc_new (W2.alloc O8) (.map opMes 7)
            simpa using this
          have hfld := fld62 i.op fs ((W2.alloc O8).alloc (.map opMes 7))
          rw [hO8] at hlk1 hlk2 hfld
          obtain ⟨op, hop⟩ : ∃ op, op = i.op := ⟨_, rfl⟩
          obtain ⟨x, hxE⟩ : ∃ x, x = i.x := ⟨_, rfl⟩
          obtain ⟨y, hyE⟩ : ∃ y, y = i.y := ⟨_, rfl⟩
          obtain ⟨z, hzE⟩ : ∃ z, z = i.z := ⟨_, rfl⟩
          rw [← hop] at hlk1 hlk2 hfld hc0' hO8
          rw [← hxE] at hlk1 hlk2 hfld hc1' hO8
          rw [← hyE] at hlk1 hlk2 hfld hc2' hO8
          rw [← hzE] at hlk1 hlk2 hfld hc3' hO8
          clear hnm hall hN
          have X : Aside (i.op = ((n + 1 : Nat) : Int) ∧ nm = ⟨(nameOf (n + 1)).toArray⟩ ∧ fs = ⟨(fldsOf (n + 1)).toArray⟩ ∧ op = i.op ∧ x = i.x ∧ y = i.y ∧ z = i.z ∧ O8 = .cells #[.int .i64 op, .int .i64 x, .int .i64 y, .int .i64 z] 39) := ⟨hni, hnmE, hfsE, hop, hxE, hyE, hzE, hO8⟩
          clear hni hnmE hfsE hop hxE hyE hzE hO8
          go_wp2_with (go_at_call 26; refine (ops_calls _).mono ?_; rintro e w'' ⟨rfl, rfl⟩)
          clear hlk1 hlk2 hfld hc0' hc1' hc2' hc3'
          obtain ⟨W8, hW8⟩ : ∃ W8 : World, W8 = (W2.alloc (.cells #[.int .i64 op, .int .i64 x, .int .i64 y, .int .i64 z] 39)).alloc (.map opMes 7) := ⟨_, rfl⟩
          obtain ⟨I, hI⟩ : ∃ I : Nat, I = W2.heap.size + 1 + 1 := ⟨_, rfl⟩
          have hI8 : I = W8.heap.size := by rw [hI, hW8]; simp
          have hO8 : W8.heap[W2.heap.size]? = some (.cells #[.int .i64 op, .int .i64 x, .int .i64 y, .int .i64 z] 39) := by
            rw [hW8, heap_alloc_old _ _ (by simp)]; exact heap_alloc_new _ _
          have hB8 : Below W2.heap.size W2 W8 := by rw [hW8]; exact ((Below.refl _ W2).alloc (Nat.le_refl _) _).alloc (by simp) _
          rw [← hW8, ← hI]
          clear hW8
          have XI : Aside (I = W2.heap.size + 1 + 1) := hI
          clear hI
          go_loopw [9] (fun tv w' => ∃ m : Nat, m ≤ fs.size ∧ tv = .string ⟨(nm.data.toList ++ (fs.data.toList.take m).flatMap fun f => 32 :: dig (valOf i f).toNat).toArray⟩ ∧ w'.heap[I]? = some (.stringIter fs m) ∧ Below I W8 w') (fun _ w' => fs.size - w'.iterPos I)
          case atStart =>
            refine ⟨0, Nat.zero_le _, by simp, ?_, ?_⟩
            · rw [hI8]; exact heap_alloc_new W8 _
            · rw [hI8]; exact (Below.refl _ W8).alloc (Nat.le_refl _) _
          case round =>
            obtain ⟨m, hm, rfl, hit, hBi⟩ := hrel
            by_cases hlm : m < fs.size
            · obtain ⟨f, hf8⟩ : ∃ f : UInt8, f = fs[m]'hlm := ⟨_, rfl⟩
              have hfl : fs.data.toList[m]? = some f := by rw [hf8]; exact Lib.data_getElem? fs m hlm
              have hmem : f = 88 ∨ f = 89 ∨ f = 90 := by
                have h1 := List.mem_of_getElem? hfl
                rw [X.out.2.2.1] at h1
                exact flds_mem h1
              have hasc : f.toNat < 128 := by rcases hmem with rfl | rfl | rfl <;> decide
              obtain ⟨w5, hnext, hit5, hB5, hI5⟩ := iter_step (W := W8) hI8 hit hBi hlm (by rw [← hf8]; exact hasc)
              rw [← hf8] at hnext
              obtain ⟨fv, hfv⟩ : ∃ fv : Int, fv = (f.toNat : Int) := ⟨_, rfl⟩
              rw [← hfv] at hnext
              have hO5 : w5.heap[W2.heap.size]? = some (.cells #[.int .i64 op, .int .i64 x, .int .i64 y, .int .i64 z] 39) := (hB5.block _ (by have := XI.out; omega)).trans hO8
              have hlt5 : W2.heap.size < w5.heap.size := (Array.getElem?_eq_some_iff.1 hO5).1
              have hx5 : ∀ ob, (w5.alloc ob).cell? ⟨W2.heap.size, 1, none⟩ = some (.int .i64 x) := fun ob => by simp [World.cell?, heap_alloc_old w5 ob hlt5, hO5]
              have hy5 : ∀ ob, (w5.alloc ob).cell? ⟨W2.heap.size, 2, none⟩ = some (.int .i64 y) := fun ob => by simp [World.cell?, heap_alloc_old w5 ob hlt5, hO5]
              have hz5 : ∀ ob, (w5.alloc ob).cell? ⟨W2.heap.size, 3, none⟩ = some (.int .i64 z) := fun ob => by simp [World.cell?, heap_alloc_old w5 ob hlt5, hO5]
              have hmk5 : (Instr.makeMap 65 none).run Tryd.prog w5 = .ok (.map (some w5.heap.size)) (w5.alloc (.map #[] 0)) := rfl
              have hu1 : (Instr.mapUpdate 65 (.map (some w5.heap.size)) (.int .i32 88) (.int .i64 x)).run Tryd.prog (w5.alloc (.map #[] 0)) = .ok () (w5.alloc (.map #[⟨.int .i32 88, .int .i64 x, 0⟩] 1)) := upd_new w5 Tryd.underlying65 Tryd.underlying21 (by simp [MapKept.IsKey]) (by kernel_rfl)
              have hu2 : (Instr.mapUpdate 65 (.map (some w5.heap.size)) (.int .i32 89) (.int .i64 y)).run Tryd.prog (w5.alloc (.map #[⟨.int .i32 88, .int .i64 x, 0⟩] 1)) = .ok () (w5.alloc (.map #[⟨.int .i32 88, .int .i64 x, 0⟩, ⟨.int .i32 89, .int .i64 y, 1⟩] 2)) := upd_new w5 Tryd.underlying65 Tryd.underlying21 (by simp [MapKept.IsKey]) (by kernel_rfl)
              have hu3 : (Instr.mapUpdate 65 (.map (some w5.heap.size)) (.int .i32 90) (.int .i64 z)).run Tryd.prog (w5.alloc (.map #[⟨.int .i32 88, .int .i64 x, 0⟩, ⟨.int .i32 89, .int .i64 y, 1⟩] 2)) = .ok () (w5.alloc (.map #[⟨.int .i32 88, .int .i64 x, 0⟩, ⟨.int .i32 89, .int .i64 y, 1⟩, ⟨.int .i32 90, .int .i64 z, 2⟩] 3)) := upd_new w5 Tryd.underlying65 Tryd.underlying21 (by simp [MapKept.IsKey]) (by kernel_rfl)
              obtain ⟨v, hvE⟩ : ∃ v : Int, v = valOf i f := ⟨_, rfl⟩
              have hlk5 : (Instr.lookup 65 (.map (some w5.heap.size)) (.int .i32 fv) false).run Tryd.prog (w5.alloc (.map #[⟨.int .i32 88, .int .i64 x, 0⟩, ⟨.int .i32 89, .int .i64 y, 1⟩, ⟨.int .i32 90, .int .i64 z, 2⟩] 3)) = .ok (.int .i64 v) (w5.alloc (.map #[⟨.int .i32 88, .int .i64 x, 0⟩, ⟨.int .i32 89, .int .i64 y, 1⟩, ⟨.int .i32 90, .int .i64 z, 2⟩] 3)) := by
                obtain ⟨j, hj⟩ := letMes_find x y z (f := f.toNat) (by rcases hmem with rfl | rfl | rfl <;> decide)
                have hve : v = if f.toNat = 88 then x else if f.toNat = 89 then y else z := by
                  obtain ⟨_, _, _, _, hx', hy', hz', _⟩ := X.out
                  rw [hvE, hx', hy', hz']
                  rcases hmem with rfl | rfl | rfl <;> rfl
                rw [hfv, hve]
                exact look_at Tryd.underlying65 Tryd.underlying21 (by simp [MapKept.IsKey]) (heap_alloc_new w5 _) hj
              have hv0 : 0 ≤ v ∧ v ≤ 255 := by
                rw [hvE]
                unfold valOf
                obtain ⟨_, h1, h2, h3⟩ := hfi
                split
                · omega
                · split
                  · omega
                  · omega
              have hBall : Below w.heap.size w w5 := ((hB.trans (hBw.mono (Nat.le_of_lt hNlt))).trans (hB8.mono (by have := hBw.size; omega))).trans (hB5.mono (by have := hBw.size; have := hB8.size; omega))
              have htab5 := tab_below htab (hBall.alloc hBall.size (.map #[⟨.int .i32 88, .int .i64 x, 0⟩, ⟨.int .i32 89, .int .i64 y, 1⟩, ⟨.int .i32 90, .int .i64 z, 2⟩] 3))
              obtain ⟨tb, htb⟩ : ∃ tb : ByteArray, tb = ⟨(nm.data.toList ++ (fs.data.toList.take m).flatMap fun f => 32 :: dig (valOf i f).toNat).toArray⟩ := ⟨_, rfl⟩
              obtain ⟨ib, hib⟩ : ∃ ib : ByteArray, ib = ⟨(dig v.toNat).toArray⟩ := ⟨_, rfl⟩
              have htbs : tb.size ≤ 1000 := by
                rw [htb]
                have h1 := flat_len i (fs.data.toList.take m)
                have h2 : nm.data.toList.length ≤ 4 := by rw [X.out.2.1]; exact name_len _
                have h3 : fs.data.toList.length ≤ 3 := by rw [X.out.2.2.1]; exact flds_len _
                have h4 : (fs.data.toList.take m).length ≤ 3 := by rw [List.length_take]; omega
                simp only [ByteArray.size, List.size_toArray, List.length_append]
                omega
              have hibs : ib.size ≤ 10 := by
                rw [hib]
                have := dig_len v.toNat
                simp only [ByteArray.size, List.size_toArray]
                omega
              have hitoa := itoa_calls v hv0.1 hv0.2 _ htab5
              rw [← hib] at hitoa
              rw [← htb]
              have Y : Aside (fs.data.toList[m]? = some f ∧ v = valOf i f ∧ w5.heap[I]? = some (.stringIter fs (m + 1)) ∧ Below I W8 w5 ∧ wr.heap[I]? = some (.stringIter fs m) ∧ tb = ⟨(nm.data.toList ++ (fs.data.toList.take m).flatMap fun f => 32 :: dig (valOf i f).toNat).toArray⟩ ∧ ib = ⟨(dig v.toNat).toArray⟩) := ⟨hfl, hvE, hit5, hB5, hit, htb, hib⟩
              clear hI8 hf8 hfl hmem hasc hfv hO5 hvE hBall hit5 hB5 hit hBi hown hO8 htb hib htab5
              go_wp2_with (go_at_call 27; refine hitoa.mono ?_; rintro e w6 ⟨rfl, hB6⟩)
              all_goals try (exfalso; omega)
              obtain ⟨y1, y2, y3, y4, y5, y6, y7⟩ := Y.out
              have hIs : I < w5.heap.size := hI5
              have hit6 : w6.heap[I]? = some (.stringIter fs (m + 1)) := by
                rw [hB6.block I (by simp; omega), heap_alloc_old _ _ hIs]; exact y3
              refine ⟨⟨m + 1, by omega, ?_, hit6, (y4.alloc (Nat.le_of_lt hIs) _).trans (hB6.mono (by simp; omega))⟩, ?_⟩
              · rw [y6, y7, List.take_add_one, y1, y2]
                congr 1
                apply ByteArray.ext
                simp [List.flatMap_append]
              · have e1 : w6.iterPos I = m + 1 := by unfold World.iterPos; rw [hit6]
                have e2 : wr.iterPos I = m := by unfold World.iterPos; rw [y5]
                rw [e1, e2]
                omega
            · obtain rfl : m = fs.size := by omega
              have hnext : ∀ ty, (Instr.next (.pointer (some ⟨I, 0, none⟩)) true ty).run Tryd.prog wr = .ok (.tuple #[.bool false]) wr := fun ty => Lib.run_next_end_at wr I fs fs.size ty hit (by omega)
              have hfin : nm.data.toList ++ (fs.data.toList.take fs.size).flatMap (fun f => 32 :: dig (valOf i f).toNat) = insText i := by
                obtain ⟨h1, h2, h3, _⟩ := X.out
                have h4 : i.op.toNat = n + 1 := by omega
                unfold insText
                rw [h4, h2, h3]
                simp [ByteArray.size]
              rw [hfin]
              have hB4 : Below W1.heap.size W1 wr := (hBw.trans (hB8.mono (by exact hBw.size))).trans (hBi.mono (by have := hBw.size; have := hB8.size; omega))
              have hBW : Below W2.heap.size W2 wr := hB8.trans (hBi.mono (by have := hB8.size; omega))
              have hown4 : (wr.alloc (.cells #[.string ⟨(insText i).toArray⟩] 9)).ownsRow W1.heap.size 9 1 u6 k ((p.take k).map fun i => .string ⟨(insText i).toArray⟩) :=
                own_below hown (hBW.alloc hBW.size _)
              have hsz4 : W1.heap.size ≤ wr.heap.size := hB4.size
              have XI8 : Aside (I = W8.heap.size) := hI8
              clear hI8 hit hBi hO8 hfin hown
              obtain ⟨i0, hi0, hz0, hz1, hz2⟩ := info_parts (show (Tryd.prog.info? 9).map (fun i => (i.zero, i.size, i.bytes)) = some (some (.string ByteArray.empty), 1, 16) by kernel_rfl)
              go_wp2_with (first
                | (at_builtin; refine wpList_append_own _ rfl _ _ 63 rfl W1.heap.size 9 i0 (.string ByteArray.empty) 1 16 Tryd.underlying63 hi0 hz0 hz1 hz2 rfl (by decide) u6 k _ rfl hown4 ⟨wr.heap.size, 0, none⟩ 1 1 [.string ⟨(insText i).toArray⟩] rfl rfl (cell_one_new _ _ _) (fun q hq => by simp at hq; subst hq; rfl) (by unfold maxLen; omega) (by omega) (by simp; omega) ?_; intro v' w3 hown' hgrow3 hnil3)
                | go_in)
              have hB' : Below W1.heap.size W1 w3 := Below.grown (hB4.alloc hsz4 (.cells #[.string ⟨(insText i).toArray⟩] 9)) hgrow3 (by simp; omega) (fun j hj => own_ge hown4 hj)
              refine ⟨⟨k + 1, by omega, by simp, ?_, hB'⟩, by simp [intOf]; omega⟩
              rw [List.take_add_one, hi]
              simpa using hown'
        · obtain rfl : k = p.length := by omega
          have hnz : ¬ ((p.length : Int) < (p.length : Int)) := by omega
          rw [List.take_length] at hown
          obtain ⟨g, cap, hv, hgcap, hgl⟩ : ∃ g cap, u6 = .slice (some ⟨g, 0, none⟩) p.length cap ∧ p.length ≤ cap ∧ g < W2.heap.size := by
            rcases hown.2 with ⟨_, h0⟩ | ⟨g, cap, cur, h1, _, h3, h4, _⟩
            · omega
            · exact ⟨g, cap, h1, h4, (Array.getElem?_eq_some_iff.1 h3).1⟩
          subst hv
          have hxl : (p.map fun i => (⟨(insText i).toArray⟩ : ByteArray)).length = p.length := by simp
          have hjoin := Tryd.strings_Join g 0 cap (p.map fun i => ⟨(insText i).toArray⟩) ⟨#[59, 32]⟩ W2 (fun j x hx => by
            rw [Nat.zero_add, hown.cellAt j (by
              have := (List.getElem?_eq_some_iff.1 hx).1
              rw [hxl] at this; omega)]
            rw [List.getElem?_map] at hx ⊢
            cases hpj : p[j]? with
            | none => rw [hpj] at hx; cases hx
            | some i => rw [hpj] at hx; simp at hx ⊢; exact hx) hgl (by rw [hxl]; omega) (by rw [hxl]; exact hgcap) (by
              have := join_len (L := 16) (s := 2) [59, 32] (by decide) ((p.map fun i => (⟨(insText i).toArray⟩ : ByteArray)).map (·.data.toList)) (fun x hx => by
                simp only [List.map_map, List.mem_map, Function.comp] at hx
                obtain ⟨i, _, rfl⟩ := hx
                exact insText_len i)
              simp only [List.length_map] at this
              have h64 := hpl.2
              refine Nat.le_trans this ?_
              omega)
          rw [hxl] at hjoin
          clear hown
          go_wp2_with (go_at_call 28; refine hjoin.mono ?_; rintro e w'' ⟨rfl, hB''⟩)
          go_wp2
          go_ret
          refine ⟨?_, (hB.trans (hBw.mono (Nat.le_of_lt hNlt))).trans (hB''.mono (by have := hBw.size; omega))⟩
          have : (fun x : ByteArray => x.data.toList) ∘ (fun i => (⟨(insText i).toArray⟩ : ByteArray)) = insText := by funext i; simp
          simp only [printV]
          rw [this]
          rfl
    · intro e w2 hnx
      obtain ⟨hen, hI2, hoth, hsz2, hB2, hem, hes⟩ := rel1_next hI hO hB hnx
      obtain ⟨hb7, hek, hev⟩ := opMes_mem hem
      have hN2 := (hoth w.heap.size (by omega)).trans hN
      have hO2 := (hoth (w.heap.size + 1) (by omega)).trans hO
      obtain ⟨K, hK⟩ : ∃ K : Int, K = ((e.born + 1 : Nat) : Int) := ⟨_, rfl⟩
      rw [← hK] at hev
      obtain ⟨w3, hup, hrel3, hleft3⟩ := rel1_upd (ob := .cells #[.int .i64 K, .string ⟨(fldsOf (e.born + 1)).toArray⟩] 62) hK hb7 hes hI2 hO2 hN2 hnm hB2
      have hsh := left_shrinks opMes seen e hnx.mem
      have hleft0 : leftW wr (w.heap.size + 2) = (leftOf opMes seen).size := by unfold leftW; rw [hI]
      rw [← hleft3, ← hleft0] at hsh
      clear hleft0 hleft3 hnx
      rw [hek, hev] at hen ⊢
      generalize (⟨(nameOf (e.born + 1)).toArray⟩ : ByteArray) = nm at *
      generalize (⟨(fldsOf (e.born + 1)).toArray⟩ : ByteArray) = fs at *
      clear hoth hek hev hK hI2 hO2 hN2 hI hO hN
      go_wp2
      go_roundw
      case rel => exact hrel3
      case measure => exact hsh
end Go.Am.V
