/- strings.IndexAny of any bytes, in " ;". -/
import Derived.Test.YtjdhcjhalkjamaaDoorQ3
import Derived.Lib.OthersKept
namespace Go.Proofs
open Go.Shelf Go.RowKit Go.Lib
variable {P : Program} {ρ : Ren}

theorem get_data (s : ByteArray) (k : Nat) (h : k < s.size) : s.data.toList[k]? = some (s.get! k) := by
  have : s.get! k = s[k]'h := by simp [ByteArray.get!, getElem!_pos, h]; rfl
  rw [this]
  exact Lib.data_getElem? s k h

/-- The bytes of a rune that begins with a byte of 128 and more. -/
theorem decode_bytes (s : ByteArray) (pos : Nat) (h : pos < s.size) (ha : 128 ≤ (s.get! pos).toNat) : ∀ j, pos ≤ j → j < pos + (Utf8.decode s pos).2 → ∀ b, s.data.toList[j]? = some b → 128 ≤ b.toNat := by
  have c0 : ∀ j b, j = pos → s.data.toList[j]? = some b → 128 ≤ b.toNat := fun j b hj hb => by
    subst hj; rw [get_data s j h] at hb; cases hb; exact ha
  have ck : ∀ k j b, j = pos + k → (decide (pos + k < s.size) && ((s.get! (pos + k)).toNat / 64 == 2)) = true → s.data.toList[j]? = some b → 128 ≤ b.toNat := fun k j b hj hc hb => by
    subst hj
    simp only [Bool.and_eq_true, decide_eq_true_eq, beq_iff_eq] at hc
    rw [get_data s _ hc.1] at hb; cases hb
    omega
  intro j hj1 hj2 b hb
  have hn : ¬ (s.get! (pos + 0)).toNat < 128 := by show ¬ (s.get! pos).toNat < 128; omega
  simp only [Utf8.decode, hn, if_false] at hj2
  split at hj2
  · rename_i hc
    simp only [Bool.and_eq_true] at hc
    have hcc := hc.2
    split at hj2
    · rcases (show j = pos ∨ j = pos + 1 by simp only at hj2; omega) with e | e
      · exact c0 j b e hb
      · exact ck 1 j b e (by simpa using hcc) hb
    · exact c0 j b (by simp only at hj2; omega) hb
  · split at hj2
    · rename_i hc
      simp only [Bool.and_eq_true] at hc
      split at hj2
      · rcases (show j = pos ∨ j = pos + 1 ∨ j = pos + 2 by simp only at hj2; omega) with e | e | e
        · exact c0 j b e hb
        · exact ck 1 j b e (by simpa using hc.1.2) hb
        · exact ck 2 j b e (by simpa using hc.2) hb
      · exact c0 j b (by simp only at hj2; omega) hb
    · split at hj2
      · rename_i hc
        simp only [Bool.and_eq_true] at hc
        split at hj2
        · rcases (show j = pos ∨ j = pos + 1 ∨ j = pos + 2 ∨ j = pos + 3 by simp only at hj2; omega) with e | e | e | e
          · exact c0 j b e hb
          · exact ck 1 j b e (by simpa using hc.1.1.2) hb
          · exact ck 2 j b e (by simpa using hc.1.2) hb
          · exact ck 3 j b e (by simpa using hc.2) hb
        · exact c0 j b (by simp only at hj2; omega) hb
      · exact c0 j b (by simp only at hj2; omega) hb

theorem rune_max (s : ByteArray) (pos : Nat) : (Utf8.decode s pos).1 ≤ 1114111 := by
  have hb : ∀ k, (s.get! (pos + k)).toNat < 256 := fun k => (s.get! (pos + k)).toNat_lt
  have h0 := hb 0; have h1 := hb 1; have h2 := hb 2; have h3 := hb 3
  simp only [Utf8.decode]
  repeat' split
  all_goals simp_all [Utf8.runeError, Utf8.valid]
  all_goals omega

set_option maxHeartbeats 8000000 in
set_option maxRecDepth 1000000 in
/-- s of at most 8 bytes, whatever they are. -/
theorem Any.strings_IndexAny_shortAny (L : Lays.n153 P ρ) (s : ByteArray) (w : World) (h8 : s.size ≤ 8) :
    Calls P (ρ.f 153) #[.string s, .string ⟨#[32, 59]⟩] w fun e w' => e = .returned (.int .i64 (Lib.indexAny s.data.toList [32, 59])) ∧ Below w.heap.size w w' := by
  have h8z : decide ((8 : Int) < (s.size : Int)) = false := decide_eq_false (by omega)
  have t3 := L.t3; have a3 := L.a3; have z3 := L.z3; have v3 := L.v3
  have t4 := L.t4; have a4 := L.a4; have z4 := L.z4; have v4 := L.v4
  have t5 := L.t5; have a5 := L.a5; have z5 := L.z5; have v5 := L.v5
  have t9 := L.t9; have a9 := L.a9; have z9 := L.z9; have v9 := L.v9
  have t21 := L.t21; have a21 := L.a21; have z21 := L.z21; have v21 := L.v21
  have e152 : ∀ args w, (callFunc (ρ.f 152) args).run P w = .ok (.enter (ρ.f 152) args) w := enters_of L.f152 (by kernel_rfl) rfl
  have e226 : ∀ args w, (callFunc (ρ.f 226) args).run P w = .ok (.enter (ρ.f 226) args) w := enters_of L.f226 (by kernel_rfl) rfl
  go_enter L.f153, Body.n153_ntmps ρ
  go_wp2_with (go_at_fn (ρ.f 226); refine (Any.strings_shouldUseASCIISet { L with } _ _).mono ?_; rintro e w' ⟨rfl, hw⟩; rw [hw, h8z])
  go_loopg [9, 10] s.size (fun g _ _ wx => ∃ i : Nat, s.size ≤ i + g ∧ wx.heap[w.heap.size]? = some (.stringIter s i) ∧ Below w.heap.size w wx ∧ Aside (Lib.NoAny s.data.toList [32, 59] i))
  case atStart => exact ⟨0, by omega, World.iter_heap _ _ _, (Below.refl _ _).alloc (Nat.le_refl _) _, Lib.NoAny.zero _ _⟩
  case round =>
    obtain ⟨i, hig, hit, hbel, HN⟩ := hrel
    by_cases hi : i < s.size
    case neg =>
      have hnx := fun ty => Lib.run_next_end_at (P := P) wr w.heap.size s i ty hit hi
      have HB : Aside (Below w.heap.size w wr) := hbel
      clear hbel hit
      go_wp2
      go_ret
      refine ⟨?_, HB.out⟩
      rw [Lib.indexAny_none (fun j b hj hb => HN.out j b (by
        have := (List.getElem?_eq_some_iff.1 hb).1
        rw [← Lib.size_eq] at this; omega) hb)]
      rfl
    obtain ⟨g, rfl⟩ : ∃ g, gk = g + 1 := ⟨gk - 1, by omega⟩
    obtain ⟨x, hx⟩ : ∃ x : UInt8, s[i]'hi = x := ⟨_, rfl⟩
    have hxl : s.data.toList[i]? = some x := by rw [← hx]; exact Lib.data_getElem? s i hi
    by_cases hx128 : x.toNat < 128
    · have hnx := fun ty => Lib.run_next_ascii_at (P := P) wr w.heap.size s i ty hit hi (by rw [hx]; exact hx128)
      rw [hx] at hnx
      have Hx : Aside (s.data.toList[i]? = some x) := hxl
      have HW : Aside ((wr.iterAt w.heap.size s (i + 1)).heap[w.heap.size]? = some (.stringIter s (i + 1)) ∧ Below w.heap.size w (wr.iterAt w.heap.size s (i + 1))) := ⟨Lib.iterAt_heap _ _ _ _ _ hit, Lib.below_iterAt hbel (Nat.le_refl _) _ _⟩
      clear hxl hx hit hbel
      generalize wr.iterAt w.heap.size s (i + 1) = wn at *
      have hcon := Lib.contains_iff_indexByte [32, 59] x
      have hback : ((x.toNat : Int)).toNat.toUInt8 = x := by simp
      cases hin : ([32, 59] : List UInt8).contains x
      · rw [hin] at hcon
        have hlt : ¬ ((0 : Int) ≤ Lib.indexByte [32, 59] x) := of_decide_eq_false hcon.symm
        clear hcon
        go_wp2_with (go_at_fn (ρ.f 152); refine (Any.strings_IndexRune_ascii { L with } _ _ _ (by omega) (by omega)).mono ?_; rintro e w' ⟨rfl, hw⟩; rw [hw, hback])
        go_roundg g
        case measure => omega
        case rel => exact ⟨i + 1, by omega, HW.out.1, HW.out.2, HN.out.succ Hx.out hin⟩
      · rw [hin] at hcon
        have hge : (0 : Int) ≤ Lib.indexByte [32, 59] x := of_decide_eq_true hcon.symm
        clear hcon
        go_wp2_with (go_at_fn (ρ.f 152); refine (Any.strings_IndexRune_ascii { L with } _ _ _ (by omega) (by omega)).mono ?_; rintro e w' ⟨rfl, hw⟩; rw [hw, hback])
        go_ret
        exact ⟨by rw [Lib.indexAny_hit HN.out Hx.out hin]; rfl, HW.out.2⟩
    · have hnx := fun ty => Lib.run_next_any_at (P := P) wr w.heap.size s i ty hit hi
      have hhi : 128 ≤ (s[i]'hi).toNat := by rw [hx]; omega
      have hd := decode_high s i hi hhi
      have hmx := rune_max s i
      have hgx : s.get! i = x := by
        have := get_data s i hi
        rw [hxl] at this; exact (Option.some.inj this).symm
      have hby := decode_bytes s i hi (by rw [hgx]; omega)
      generalize (Utf8.decode s i).1 = r at *
      generalize (Utf8.decode s i).2 = d at *
      have HNd : Aside (Lib.NoAny s.data.toList [32, 59] (i + d)) := by
        show Lib.NoAny _ _ _
        intro j b hj hb
        by_cases hji : j < i
        · exact HN.out j b hji hb
        · have := hby j (by omega) hj b hb
          simp only [List.contains_cons, List.contains_nil, Bool.or_false, Bool.or_eq_false_iff, beq_eq_false_iff_ne]
          constructor
          · rintro rfl; revert this; decide
          · rintro rfl; revert this; decide
      have HW : Aside ((wr.iterAt w.heap.size s (i + d)).heap[w.heap.size]? = some (.stringIter s (i + d)) ∧ Below w.heap.size w (wr.iterAt w.heap.size s (i + d))) := ⟨Lib.iterAt_heap _ _ _ _ _ hit, Lib.below_iterAt hbel (Nat.le_refl _) _ _⟩
      have hrr : (128 : Int) ≤ (r : Int) := by omega
      have hrm : (r : Int) ≤ 1114111 := by omega
      have HD : Aside (1 ≤ d) := hd.2
      clear hxl hx hit hbel hby hd hmx hgx hhi
      generalize wr.iterAt w.heap.size s (i + d) = wn at *
      go_wp2_with (go_at_fn (ρ.f 152); refine (Any.strings_IndexRune_high { L with } _ _ hrr hrm).mono ?_; rintro e w' ⟨rfl, hbn⟩)
      have hd1 : 1 ≤ d := HD.out
      go_roundg g
      case measure => omega
      case rel =>
        have h1 := HW.out.1
        have h2 := HW.out.2
        have hlt : w.heap.size < wn.heap.size := (Array.getElem?_eq_some_iff.1 h1).1
        refine ⟨i + d, by omega, ?_, ?_, HNd⟩
        · rw [hbn.block _ hlt]; exact h1
        · exact h2.trans (hbn.mono (by omega))

/-- s of any bytes. -/
theorem Any.strings_IndexAny_sp (L : Lays.n153 P ρ) (h116 : (P.info? (ρ.t 116)).map (fun i => (i.zero, i.size)) = some (some (.agg (Array.replicate 256 (.bool false))), 256)) (s : ByteArray) (w : World) (hs : s.size < 4294967281) :
    Calls P (ρ.f 153) #[.string s, .string ⟨#[32, 59]⟩] w fun e w' => e = .returned (.int .i64 (Lib.indexAny s.data.toList [32, 59])) ∧ Below w.heap.size w w' := by
  by_cases h8 : s.size ≤ 8
  · exact Any.strings_IndexAny_shortAny L s w h8
  · refine (Any.strings_IndexAny_long L (zero_of_info h116).1 (zero_of_info h116).2 s ⟨#[32, 59]⟩ w (by decide) (by omega) hs (by decide) (fun j b hb => ?_)).mono fun e w' ⟨h1, h2⟩ => ⟨h1, ?_⟩
    · have : b ∈ [32, 59] := List.mem_of_getElem? hb
      simp at this
      rcases this with rfl | rfl <;> decide
    · rw [h2]
      exact ((Below.refl _ _).alloc (Nat.le_refl _) _).alloc (by simp) _
end Go.Proofs
