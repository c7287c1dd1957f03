/- keyOf BY THE KIT's WALK: its parts. -/
import Derived.Test.YtbmfnoaogebjfaaDoorK0
import Derived.Test.YtbmfnoaogebjfaaDoorT1
import Derived.WalkKit
import Derived.BigCall
import Derived.Deep.RegionHeld3
import Derived.Lib.SmallJoins
set_option linter.unusedVariables false
set_option linter.unusedSimpArgs false
namespace Go.Am.R
open Go.Proofs Go.RowKit Go.Shelf

theorem writeString65 (B b : Nat) (bs : List Value) (s : ByteArray) (w : World) (h : Lib.IsBuilderF 93 5 B b bs w) (hlen : bs.length + s.size ≤ 140737488355328) (hBw : B ≤ w.heap.size) :
    Calls Tryd.prog 65 #[.pointer (some ⟨b, 0, none⟩), .string s] w fun e w' => e = .returned (.tuple #[.int .i64 s.size, .nilIface]) ∧ (Lib.BuilderAtF 93 5 B b (.pointer (some ⟨b, 0, none⟩)) (bs ++ Lib.strCells s) w' ∧ Below B w w' ∧ Lib.OthersKept 5 (some b) w w') :=
  Any.Builder_WriteString_k (ρ := Tryd.lays166_ren) Tryd.lays166 Tryd.Builder_Extra_166 B b bs s w h hlen hBw
theorem string67 (B b : Nat) (l : List UInt8) (w : World) (h : Lib.IsBuilderF 93 5 B b (Lib.byteCells l) w) (hBw : B ≤ w.heap.size) :
    Calls Tryd.prog 67 #[.pointer (some ⟨b, 0, none⟩)] w fun e w' => e = .returned (.string ⟨l.toArray⟩) ∧ (Lib.IsBuilderF 93 5 B b (Lib.byteCells l) w' ∧ Below B w w' ∧ Lib.OthersKept 5 (some b) w w') :=
  Tryd.Builder_String_any_k B b l w h hBw
theorem keptB {B b : Nat} {p : Value} {bs : List Value} {w w' : World} (k : Below w.heap.size w w') (h : Lib.BuilderAtF 93 5 B b p bs w) : Lib.BuilderAtF 93 5 B b p bs w' :=
  have hl := h.lt
  let ⟨h1, v, h2, h3, h4⟩ := h
  ⟨h1, v, by rw [k.block b hl]; exact h2, World.ownsRowF.kept (row := none) h3 ⟨k.os, k.tape, k.output, k.size, fun i hi _ => k.block i hi⟩ (Classical.em _), h4⟩
theorem keptI {B b : Nat} {bs : List Value} {w w' : World} (k : Below w.heap.size w w') (h : Lib.IsBuilderF 93 5 B b bs w) : Lib.IsBuilderF 93 5 B b bs w' := by
  rcases h with h | h
  · exact .inl (keptB k h)
  · exact .inr (keptB k h)
theorem dec_len : ∀ (n k : Nat), k < 10 ^ n → (Lib.decDigits k).length ≤ n + 1
  | 0, k, h => by
    have : k = 0 := by simpa using h
    subst this
    rw [Lib.decDigits]; simp
  | n + 1, k, h => by
    rw [Lib.decDigits]
    split
    · simp
    · have := dec_len n (k / 10) (by rw [Nat.pow_succ] at h; omega)
      simp only [List.length_append, List.length_cons, List.length_nil]
      omega
theorem ktxt_snoc : ∀ (l : List Nat) (k : Nat), ktxt (l ++ [k]) = ktxt l ++ (Lib.decDigits k ++ [32])
  | [], k => by simp [ktxt]
  | a :: l, k => by simp [ktxt, ktxt_snoc l k]
theorem ktxt_len : ∀ (l : List Nat), (∀ k ∈ l, k < 1000000000000) → (ktxt l).length ≤ 14 * l.length
  | [], _ => by simp [ktxt]
  | a :: l, h => by
    have h1 := dec_len 12 a (by have := h a (by simp); simpa using this)
    have h2 := ktxt_len l fun k hk => h k (by simp [hk])
    simp only [ktxt, List.length_append, List.length_cons]
    omega
theorem itoa66 (n : Nat) (h1 : n < 1000000000000) (w : World) (htab : Lib.TabIs Tryd.prog w "internal/strconv.uint64pow10" .u64 Lib.pow10Tab) :
    Calls Tryd.prog 66 #[.int .i64 n] w fun e w' => e = .returned (.string ⟨(Lib.decDigits n).toArray⟩) ∧ Below w.heap.size w w' := by
  refine (Tryd.strconv_Itoa n (by omega) (by omega) w htab).mono fun e w' ⟨he, k, os, hw⟩ => ?_
  subst he hw
  have : Lib.itoa (n : Int) = Lib.decDigits n := by
    unfold Lib.itoa
    rw [if_neg (by omega)]
    simp
  rw [this]
  exact ⟨rfl, rfl, rfl, rfl, by simp [Go.Sort.grow, World.drewN], fun j hj => by simp only [Go.Sort.grow]; exact Array.getElem?_append_left hj⟩
theorem tab_below {w w' : World} (h : Lib.TabIs Tryd.prog w "internal/strconv.uint64pow10" .u64 Lib.pow10Tab) (hb : Below w.heap.size w w') : Lib.TabIs Tryd.prog w' "internal/strconv.uint64pow10" .u64 Lib.pow10Tab := by
  have hg : Tryd.prog.globalNamed "internal/strconv.uint64pow10" = some 0 := by kernel_rfl
  unfold Lib.TabIs World.var? at h ⊢
  rw [hg] at h ⊢
  simp only [Option.bind_some] at h ⊢
  have hlt : 0 < w.heap.size := by
    rcases Nat.lt_or_ge 0 w.heap.size with h3 | h3
    · exact h3
    · rw [Array.getElem?_eq_none h3] at h; cases h
  rw [hb.block 0 hlt]
  exact h
end Go.Am.R
