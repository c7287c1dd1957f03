/- strings.IndexRune at a rune of 128 and more, in " ;". -/
import Derived.Shelf.Strings.IndexAny
import Derived.Shelf.Strings.IndexAnyAll
import Derived.Shelf.Small.Utf8
import Derived.Laws.RangeAny
import Derived.Lib.Builder
import Derived.Shelf.RegionOpenPlain
namespace Go.Proofs
open Go.Shelf Go.RowKit Go.Lib
variable {P : Program} {ρ : Ren}

theorem below_drewN {B : Nat} {a w : World} (h : Below B a w) (n : Nat) : Below B a (w.drewN n) := ⟨h.os, h.tape, h.output, by simpa [World.drewN] using h.size, fun k hk => by simpa [World.drewN] using h.block k hk⟩
theorem encode_high (r : Int) (h0 : 128 ≤ r) : ((Utf8.encode r).size = 2 ∧ ∃ h : 1 < (Utf8.encode r).size, 128 ≤ ((Utf8.encode r)[1]'h).toNat) ∨ (3 ≤ (Utf8.encode r).size ∧ (Utf8.encode r).size ≤ 4) := by
  have key : ∀ (bs : ByteArray), ((bs.size = 2 ∧ ∀ b, bs.data.toList[1]? = some b → 128 ≤ b.toNat) ∨ (3 ≤ bs.size ∧ bs.size ≤ 4)) → ((bs.size = 2 ∧ ∃ h : 1 < bs.size, 128 ≤ (bs[1]'h).toNat) ∨ (3 ≤ bs.size ∧ bs.size ≤ 4)) := fun bs h => by
    rcases h with ⟨h1, h2⟩ | h
    · exact .inl ⟨h1, by omega, h2 _ (Lib.data_getElem? bs 1 (by omega))⟩
    · exact .inr h
  refine key _ ?_
  unfold Utf8.encode
  simp only
  have hc : ¬ (if Utf8.valid r = true then r.toNat else Utf8.runeError) < 128 := by
    split
    · omega
    · simp [Utf8.runeError]
  generalize (if Utf8.valid r = true then r.toNat else Utf8.runeError) = c at *
  rw [if_neg hc]
  split
  · refine .inl ⟨rfl, fun b hb => ?_⟩
    simp only [List.getElem?_cons_succ, List.getElem?_cons_zero, Option.some.injEq] at hb
    subst hb
    rw [UInt8.toNat_ofNat']
    omega
  · split
    · exact .inr ⟨by simp [ByteArray.size], by simp [ByteArray.size]⟩
    · exact .inr ⟨by simp [ByteArray.size], by simp [ByteArray.size]⟩

set_option maxHeartbeats 4000000 in
set_option maxRecDepth 1000000 in
theorem Any.strings_IndexRune_high (L : Lays.n152 P ρ) (r : Int) (w : World) (h0 : 128 ≤ r) (h1 : r ≤ 1114111) :
    Calls P (ρ.f 152) #[.string ⟨#[32, 59]⟩, .int .i32 r] w fun e w' => e = .returned (.int .i64 (-1)) ∧ Below w.heap.size w w' := by
  have t3 := L.t3; have a3 := L.a3; have z3 := L.z3; have v3 := L.v3
  have t4 := L.t4; have a4 := L.a4; have z4 := L.z4; have v4 := L.v4
  have t5 := L.t5; have a5 := L.a5; have z5 := L.z5; have v5 := L.v5
  have t9 := L.t9; have a9 := L.a9; have z9 := L.z9; have v9 := L.v9
  have t21 := L.t21; have a21 := L.a21; have z21 := L.z21; have v21 := L.v21
  have e137 : ∀ args w, (callFunc (ρ.f 137) args).run P w = .ok (.enter (ρ.f 137) args) w := enters_of L.f137 (by kernel_rfl) rfl
  have e119 : ∀ args w, (callFunc (ρ.f 119) args).run P w = .ok (.enter (ρ.f 119) args) w := enters_of L.f119 (by kernel_rfl) rfl
  have g0 : (0 : Int) ≤ r := by omega
  have g1 : ¬ (r < 128) := by omega
  by_cases hE : r = 65533
  · subst hE
    go_enter L.f152, Body.n152_ntmps ρ
    go_wp2
    go_loopg [5, 6] 2 (fun g _ _ wx => ∃ i : Nat, i + g = 2 ∧ wx = w.iter ⟨#[32, 59]⟩ i)
    case atStart => exact ⟨0, rfl, rfl⟩
    case round =>
      obtain ⟨i, hig, rfl⟩ := hrel
      cases gk with
      | zero =>
        obtain rfl : i = 2 := by omega
        have hnx := run_next_end (P := P) w ⟨#[32, 59]⟩ 2
        go_wp2
        go_ret
        exact ⟨rfl, (Below.refl _ _).alloc (Nat.le_refl _) _⟩
      | succ g =>
        have hsz : (⟨#[32, 59]⟩ : ByteArray).size = 2 := rfl
        have hi : i < (⟨#[32, 59]⟩ : ByteArray).size := by rw [hsz]; omega
        obtain ⟨x, hx⟩ : ∃ x : UInt8, (⟨#[32, 59]⟩ : ByteArray)[i]'hi = x := ⟨_, rfl⟩
        have hx128 : x.toNat < 128 := by
          rcases (show i = 0 ∨ i = 1 by rw [hsz] at hi; omega) with rfl | rfl
          · have : x = 32 := by rw [← hx]; rfl
            subst this; decide
          · have : x = 59 := by rw [← hx]; rfl
            subst this; decide
        have hnx := fun ty => run_next_ascii (P := P) w ⟨#[32, 59]⟩ i ty hi (by rw [hx]; exact hx128)
        rw [hx] at hnx
        have hne : ((x.toNat : Int) == 65533) = false := beq_eq_false_iff_ne.2 (by omega)
        clear hx hi hsz
        go_wp2
        go_roundg g
        case measure => omega
        case rel => exact ⟨i + 1, by omega, rfl⟩
  · have hEb : ((r : Int) == 65533) = false := beq_eq_false_iff_ne.2 hE
    cases hV : Lib.validRune r
    · go_enter L.f152, Body.n152_ntmps ρ
      go_wp2_with (go_at_fn (ρ.f 119); refine (Any.utf8_ValidRune { L with } _ _).mono ?_; rintro e w' ⟨rfl, hw⟩; rw [hw, hV])
      go_ret
      exact ⟨rfl, Below.refl _ _⟩
    · obtain ⟨rs, hrs⟩ : ∃ rs, Utf8.encode r = rs := ⟨_, rfl⟩
      have h2 := encode_high r h0
      rw [hrs] at h2
      have h2s : rs.size ≤ 4 ∧ 2 ≤ rs.size := by rcases h2 with ⟨h, -⟩ | ⟨h, h'⟩ <;> omega
      go_enter L.f152, Body.n152_ntmps ρ
      go_wp2_with (go_at_fn (ρ.f 119); refine (Any.utf8_ValidRune { L with } _ _).mono ?_; rintro e w' ⟨rfl, hw⟩; rw [hw, hV])
      go_step3
      go_wp2
      go_loopg [9, 10] 1 (fun g s9 s10 wx => s9 = .int .i64 (rs.size - 1) ∧ s10 = .int .i64 0 ∧ wx = w)
      case atStart => exact ⟨rfl, rfl, rfl⟩
      case round =>
        obtain ⟨rfl, rfl, rfl⟩ := hrel
        rcases h2 with ⟨h2, h3, h4⟩ | ⟨h2, h3⟩
        · obtain ⟨b, hb⟩ : ∃ b, rs[1]'h3 = b := ⟨_, rfl⟩
          rw [hb] at h4
          have hlt : ((rs.size : Int) - 1 < 2) := by omega
          have hne : ((59 : Int) != (b.toNat : Int)) = true := by simp; omega
          have hone : ((rs.size : Int) - 1) = 1 := by omega
          have hb1 : Lib.indexByte [] b = -1 := rfl
          have mixed := L.mixed
          have h59 : ((⟨#[32, 59]⟩ : ByteArray)[1]'(by decide)) = 59 := rfl
          have w2 : IntKind.i64.wrap 2 = 2 := by decide
          have w1 : IntKind.i64.wrap 1 = 1 := by decide
          go_wp2
          go_step3
          simp only [hone]
          go_wp2_with fail
          go_quiet_o (fail)
          go_wp2_with fail
          have hbel : Below wr.heap.size wr (wr.drewN nq) := below_drewN (Below.refl _ _) nq
          generalize wr.drewN nq = wq at *
          go_quiet_o (first | (go_at_fn (ρ.f 137); refine Calls.quiet_of_same (Any.strings_IndexByte { L with } _ _ _)))
          have hbel2 : Below wr.heap.size wr (wq.drewN nq) := below_drewN hbel nq
          go_wp2
          (try simp only [Exit.noGoto, Exit.inBlock, Exit.then])
          all_goals go_step
          go_wp2
          go_ret
          exact ⟨rfl, hbel2⟩
        · have hlt : ¬ ((rs.size : Int) - 1 < 2) := by omega
          go_wp2
          go_ret
          exact ⟨rfl, Below.refl _ _⟩
end Go.Proofs
