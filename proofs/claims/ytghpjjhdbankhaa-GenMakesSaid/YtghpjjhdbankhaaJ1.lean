/- gen.Text BY THE KIT's WALK. -/
import Derived.Test.YtghpjjhdbankhaaH4
import Derived.Test.YtghpjjhdbankhaaJ0
import Derived.WalkKit
import Derived.BigCall
import Derived.Shelf.Strings.BuilderK
set_option linter.unusedVariables false
set_option linter.unusedSimpArgs false
namespace Go.Am.B
open Go.Proofs Go.RowKit Go.Shelf

theorem machine_calls {f : FuncId} {args : List AV} {vs : Array Value} {r : AV} (h : PC (cfg w0) f args r) (w : World) (hv : RepL (Gh.of w) w args vs.toList) : Calls Try.prog f vs w fun e w' => ∃ G' u, e = .returned u ∧ Below w.heap.size w w' ∧ Rep G' w' r u :=
  ((callF_ok cfgOk0 (fun f args S r S' h => lim_sound cfgOk0 h) (h St.nil) (Gh.of w) w vs (wrel_of w) hv).2).mono fun e w' hq => by
    obtain ⟨G', u, rfl, _, hst, hr⟩ := hq
    exact ⟨G', u, rfl, below_of hst, hr⟩
theorem repL_ints {G : Gh} {w : World} : ∀ {L : List Int} {l : List Value}, RepL G w (L.map (AV.int .u64)) l → l = L.map (Value.int .u64)
  | [], l, h => h.nil_inv
  | x :: xs, l, h => by
    obtain ⟨v, l2, rfl, hr, h2⟩ := h.uncons
    rw [rep_int hr, repL_ints h2]; rfl
theorem repL_strs {G : Gh} {w : World} : ∀ {L : List (List UInt8)} {l : List Value}, RepL G w (L.map AV.str) l → l = L.map fun p => Value.string ⟨p.toArray⟩
  | [], l, h => h.nil_inv
  | x :: xs, l, h => by
    obtain ⟨v, l2, rfl, hr, h2⟩ := h.uncons
    rw [rep_str hr, repL_strs h2]; rfl
theorem first_calls (s : Int) (w : World) : Calls Try.prog 62 #[.int .u64 s] w fun e w' => e = .returned (.agg #[Value.int .u64 (num s 0), Value.int .u64 (num s 1), Value.int .u64 (num s 2), Value.int .u64 (num s 3), Value.int .u64 (num s 4), Value.int .u64 (num s 5), Value.int .u64 (num s 6), Value.int .u64 (num s 7), Value.int .u64 (num s 8), Value.int .u64 (num s 9), Value.int .u64 (num s 10), Value.int .u64 (num s 11), Value.int .u64 (num s 12), Value.int .u64 (num s 13), Value.int .u64 (num s 14), Value.int .u64 (num s 15)]) ∧ Below w.heap.size w w' := by
  refine (machine_calls (vs := #[.int .u64 s]) (first_ok std0 s) w (RepL.cons (.int _ _) (RepL.nil _ _))).mono ?_
  rintro e w' ⟨G', u, rfl, hb, hr⟩
  refine ⟨?_, hb⟩
  obtain ⟨vs, rfl, hl, _⟩ := rep_agg_inv hr
  have hc : cells16 s 16 = [num s 0, num s 1, num s 2, num s 3, num s 4, num s 5, num s 6, num s 7, num s 8, num s 9, num s 10, num s 11, num s 12, num s 13, num s 14, num s 15].map (AV.int .u64) := by
    simp [cells16, List.range_succ]
  rw [hc] at hl
  rw [arr_eq (repL_ints hl)]
  rfl
theorem pieces_calls (w : World) : Calls Try.prog 63 #[] w fun e w' => e = .returned (.agg (pcs.map fun p => Value.string ⟨p.toArray⟩).toArray) ∧ Below w.heap.size w w' := by
  refine (machine_calls (vs := #[]) (pieces_ok std0) w (RepL.nil _ _)).mono ?_
  rintro e w' ⟨G', u, rfl, hb, hr⟩
  refine ⟨?_, hb⟩
  obtain ⟨vs, rfl, hl, _⟩ := rep_agg_inv hr
  rw [arr_eq (repL_strs hl)]
theorem writeString67 (B b : Nat) (bs : List Value) (s : ByteArray) (w : World) (h : Lib.IsBuilderF 80 5 B b bs w) (hlen : bs.length + s.size ≤ 140737488355328) (hBw : B ≤ w.heap.size) :
    Calls Try.prog 67 #[.pointer (some ⟨b, 0, none⟩), .string s] w fun e w' => e = .returned (.tuple #[.int .i64 s.size, .nilIface]) ∧ (Lib.BuilderAtF 80 5 B b (.pointer (some ⟨b, 0, none⟩)) (bs ++ Lib.strCells s) w' ∧ Below B w w' ∧ Lib.OthersKept 5 (some b) w w') :=
  Any.Builder_WriteString_k (ρ := Try.lays156_ren) { Try.lays156 with } Try.Builder_Extra_156 B b bs s w h hlen hBw
theorem string68 (B b : Nat) (l : List UInt8) (w : World) (h : Lib.IsBuilderF 80 5 B b (Lib.byteCells l) w) (hBw : B ≤ w.heap.size) :
    Calls Try.prog 68 #[.pointer (some ⟨b, 0, none⟩)] w fun e w' => e = .returned (.string ⟨l.toArray⟩) ∧ (Lib.IsBuilderF 80 5 B b (Lib.byteCells l) w' ∧ Below B w w' ∧ Lib.OthersKept 5 (some b) w w') :=
  Any.Builder_String_any_k (ρ := Try.lays156_ren) { Try.lays156 with } Try.Builder_Extra_156 B b l w h hBw
theorem keptB {B b : Nat} {p : Value} {bs : List Value} {w w' : World} (k : Below w.heap.size w w') (h : Lib.BuilderAtF 80 5 B b p bs w) : Lib.BuilderAtF 80 5 B b p bs w' :=
  have hl := h.lt
  let ⟨h1, v, h2, h3, h4⟩ := h
  ⟨h1, v, by rw [k.block b hl]; exact h2, World.ownsRowF.kept (row := none) h3 ⟨k.os, k.tape, k.output, k.size, fun i hi _ => k.block i hi⟩ (Classical.em _), h4⟩
theorem keptI {B b : Nat} {bs : List Value} {w w' : World} (k : Below w.heap.size w w') (h : Lib.IsBuilderF 80 5 B b bs w) : Lib.IsBuilderF 80 5 B b bs w' := by
  rcases h with h | h
  · exact .inl (keptB k h)
  · exact .inr (keptB k h)
theorem slice67 (w : World) (b : Nat) (x : Int) (h0 : 0 ≤ x) (h1 : x < 12) : (Instr.sliceAt 67 (.pointer (some ⟨b, 0, none⟩)) (some (.int .i64 2)) (some (.int .u64 (2 + x))) none).run Try.prog w = .ok (.slice (some ⟨b, 2, none⟩) x.toNat 14) w := by
  have hal : Try.prog.arrayLen 67 = 16 := by kernel_rfl
  have hel : Try.prog.elem 67 = 22 := by kernel_rfl
  have hsz : (sizeOf 22).run Try.prog w = .ok 1 w := Try.sizeOf22 w
  rw [run_sliceAt_array_lh (P := Try.prog) w 67 ⟨b, 0, none⟩ (by kernel_rfl) .i64 .u64 2 (2 + x) (by omega) (by omega) (by rw [hal]; omega), hel, hsz, hal]
  have e : (2 + x).toNat - 2 = x.toNat := by omega
  simp [slicedAt, Result.andThen, Addr.add, e]
theorem index69 (w : World) (M : Nat) (h : M < 10) : (Instr.index 69 (.agg (pcs.map fun p => Value.string ⟨p.toArray⟩).toArray) (.int .u64 M)).run Try.prog w = .ok (.string ⟨(pcs.getD M []).toArray⟩) w := by
  obtain rfl | rfl | rfl | rfl | rfl | rfl | rfl | rfl | rfl | rfl : M = 0 ∨ M = 1 ∨ M = 2 ∨ M = 3 ∨ M = 4 ∨ M = 5 ∨ M = 6 ∨ M = 7 ∨ M = 8 ∨ M = 9 := by omega
  all_goals kernel_rfl
theorem txt_congr {Q R : Nat → List UInt8} : ∀ (n : Nat), (∀ k, k < n → Q k = R k) → txt Q n = txt R n
  | 0, _ => rfl
  | n + 1, h => by
    show txt Q n ++ Q n = txt R n ++ R n
    rw [txt_congr n fun k hk => h k (by omega), h n (by omega)]
set_option maxHeartbeats 4000000 in
set_option maxRecDepth 1000000 in
theorem text_walk (s : Int) (hs : 0 ≤ s ∧ s < 18446744073709551616) (w : World) : Calls Try.prog 23 #[.int .u64 s] w fun e w' => e = .returned (.string ⟨(textV s).toArray⟩) ∧ Below w.heap.size w w' := by
  go_enter Try.func23, Try.ntmps23
  go_wp2_with (go_at_call 62; refine (first_calls s _).mono ?_)
  rintro e w1 ⟨rfl, hb1⟩
  have hx1 : 0 ≤ num s 1 := (mix_range _).1
  have hx2 := Int.tmod_nonneg 12 hx1
  have hx3 := Int.tmod_lt_of_pos (num s 1) (b := 12) (by omega)
  generalize hX : num s = X at *
  have hx4 : 0 ≤ X 1 % 12 := Int.emod_nonneg _ (by omega)
  have hx5 : X 1 % 12 < 12 := Int.emod_lt_of_pos _ (by omega)
  go_wp2
  rw [slice67 _ _ _ hx4 hx5]
  go_wp2
  obtain ⟨N, hN⟩ : ∃ N : Nat, X 1 % 12 = (N : Int) := ⟨(X 1 % 12).toNat, by omega⟩
  rw [hN]
  have hmx : max ((N : Nat) : Int) 0 = (N : Int) := by omega
  rw [hmx, Int.toNat_natCast]
  have hN12 : N < 12 := by omega
  obtain ⟨Q, hQ, hfin, hQl⟩ : ∃ Q : Nat → List UInt8, (∀ k, Q k = pcs.getD ((X (k + 2)).tmod 10).toNat []) ∧ textV s = txt Q N ∧ ∀ k, (Q k).length ≤ 100 := by
    refine ⟨fun k => pcs.getD ((X (k + 2)).tmod 10).toNat [], fun k => rfl, ?_, fun k => pcs_len _⟩
    have h12 := (pick_num s 1 12 (by omega) (by omega) (by omega)).1
    rw [hX] at h12
    have hxe : (X 1).tmod 12 = (N : Int) := by rw [Int.tmod_eq_emod_of_nonneg hx1]; exact hN
    rw [hxe] at h12
    unfold textV
    have h12' : pickV mix s 2 12 = (N : Int) := h12
    rw [h12', Int.toNat_natCast]
    refine txt_congr N fun k hk => ?_
    have h10 := (pick_num s (k + 2) 10 (by omega) (by omega) (by omega)).1
    rw [hX] at h10
    show pcs.getD (pickV mix s ((k + 3 : Nat) : Int) 10).toNat [] = _
    rw [h10]
  go_loopw [15] (fun i wr => ∃ k : Nat, k ≤ N ∧ i = .int .i64 k ∧ Lib.IsBuilderF 80 5 (w1.heap.size + 1) (w1.heap.size + 1) (Lib.byteCells (txt Q k)) wr ∧
      wr.heap[w1.heap.size]? = some (.cells #[.int .u64 (X 0), .int .u64 (X 1), .int .u64 (X 2), .int .u64 (X 3), .int .u64 (X 4), .int .u64 (X 5), .int .u64 (X 6), .int .u64 (X 7), .int .u64 (X 8), .int .u64 (X 9), .int .u64 (X 10), .int .u64 (X 11), .int .u64 (X 12), .int .u64 (X 13), .int .u64 (X 14), .int .u64 (X 15)] 67) ∧ Below w.heap.size w wr) (fun i _ => N - (intOf i).toNat)
  case atStart =>
    have hf := Lib.IsBuilderF.of (Lib.fresh_isBuilder 80 5 (w1.alloc (.cells #[.int .u64 (X 0), .int .u64 (X 1), .int .u64 (X 2), .int .u64 (X 3), .int .u64 (X 4), .int .u64 (X 5), .int .u64 (X 6), .int .u64 (X 7), .int .u64 (X 8), .int .u64 (X 9), .int .u64 (X 10), .int .u64 (X 11), .int .u64 (X 12), .int .u64 (X 13), .int .u64 (X 14), .int .u64 (X 15)] 67)))
    have hA0 := heap_alloc_new w1 (.cells #[.int .u64 (X 0), .int .u64 (X 1), .int .u64 (X 2), .int .u64 (X 3), .int .u64 (X 4), .int .u64 (X 5), .int .u64 (X 6), .int .u64 (X 7), .int .u64 (X 8), .int .u64 (X 9), .int .u64 (X 10), .int .u64 (X 11), .int .u64 (X 12), .int .u64 (X 13), .int .u64 (X 14), .int .u64 (X 15)] 67)
    have hsz1 := hb1.size
    refine ⟨0, Nat.zero_le _, rfl, ?_, ?_, (hb1.alloc hb1.size _).alloc (by simp; omega) _⟩
    · have := hf
      simp only [World.alloc, Array.size_push] at this ⊢
      exact this
    · rw [((Below.refl _ _).alloc (Nat.le_refl _) _).block w1.heap.size (by simp)]
      exact hA0
  case round =>
    obtain ⟨k, hk, rfl, hI, hA, hbw⟩ := hrel
    have hsz : w1.heap.size < wr.heap.size := (Array.getElem?_eq_some_iff.1 hA).1
    have hIs : w1.heap.size + 1 ≤ wr.heap.size := hsz
    by_cases hlt : k < N
    · have hlt' : (k : Int) < (N : Int) := by omega
      have hxk : 0 ≤ X (k + 2) := by rw [← hX]; exact (mix_range _).1
      have hcell : wr.cell? ⟨w1.heap.size, 2 + k, none⟩ = some (.int .u64 (X (k + 2))) := by
        have hk12 : k < 12 := by omega
        obtain rfl | rfl | rfl | rfl | rfl | rfl | rfl | rfl | rfl | rfl | rfl | rfl : k = 0 ∨ k = 1 ∨ k = 2 ∨ k = 3 ∨ k = 4 ∨ k = 5 ∨ k = 6 ∨ k = 7 ∨ k = 8 ∨ k = 9 ∨ k = 10 ∨ k = 11 := by omega
        all_goals simp [World.cell?, hA]
      go_wp2_with (go_at_call 63; refine (pieces_calls _).mono ?_)
      rintro e w2 ⟨rfl, hb2⟩
      have hI2 := keptI hb2 hI
      have hA2 := (hb2.block _ hsz).trans hA
      have hx6 : 0 ≤ X (k + 2) % 10 := Int.emod_nonneg _ (by omega)
      have hx7 : X (k + 2) % 10 < 10 := Int.emod_lt_of_pos _ (by omega)
      have hxt : (X (k + 2)).tmod 10 = X (k + 2) % 10 := Int.tmod_eq_emod_of_nonneg hxk
      have hQk := hQ k
      rw [hxt] at hQk
      go_wp2
      obtain ⟨M, hM⟩ : ∃ M : Nat, X (k + 2) % 10 = (M : Int) := ⟨(X (k + 2) % 10).toNat, by omega⟩
      rw [hM] at hQk ⊢
      rw [index69 w2 M (by omega)]
      rw [Int.toNat_natCast] at hQk
      rw [← hQk]
      clear hQk hQ
      have hlen := txt_len hQl k
      have hlQ := hQl k
      have hsz2 := hb2.size
      go_wp2_with (go_at_call 67; refine (writeString67 (w1.heap.size + 1) (w1.heap.size + 1) _ _ _ hI2 (by rw [Lib.byteCells_length]; simp [ByteArray.size]; omega) (by omega)).mono ?_)
      rintro e w3 ⟨rfl, h3, b3, k3⟩
      go_wp2
      go_roundw
      case rel =>
        refine ⟨k + 1, by omega, by simp, ?_, ?_, (hbw.trans (hb2.mono (by have := hbw.size; omega))).trans (b3.mono (by have := hb1.size; omega))⟩
        · have : Lib.byteCells (txt Q (k + 1)) = Lib.byteCells (txt Q k) ++ Lib.strCells ⟨(Q k).toArray⟩ := by simp [txt, Lib.strCells, Lib.byteCells]
          rw [this]; exact Or.inr h3
        · exact k3 _ _ hA2 (by simp) (by intro c fz hc; cases hc)
      case measure =>
        simp [intOf]
        omega
    · have hke : k = N := by omega
      subst hke
      go_wp2_with (go_at_call 68; refine (string68 (w1.heap.size + 1) (w1.heap.size + 1) _ _ hI hIs).mono ?_)
      rintro e W1 ⟨rfl, _, b1, _⟩
      go_wp2
      go_ret
      rw [hfin]
      exact ⟨rfl, hbw.trans (b1.mono (by have := hb1.size; omega))⟩
end Go.Am.B
