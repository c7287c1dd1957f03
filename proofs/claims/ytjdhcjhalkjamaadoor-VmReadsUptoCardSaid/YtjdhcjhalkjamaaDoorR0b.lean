/- LOOKS INTO MAPS; A STEP OVER A TEXT; strconv.Itoa IN ONE LINE. -/
import Derived.Test.YtjdhcjhalkjamaaDoorR0
import Derived.Lib.OthersKept
set_option linter.unusedVariables false
set_option linter.unusedSimpArgs false
namespace Go.Am.V
open Go.Proofs Go.RowKit Go.MapKept Go.ChangeMaps

theorem look_at {P : Program} {w : World} {mty kt et : TypeId} {d : TypeDesc} {r clock j : Nat} {key v : Value} {es : Array MapEntry} (hm : P.underlying mty = some (.map kt et)) (hd : P.underlying kt = some d) (hk : MapKept.IsKey d key) (hb : w.heap[r]? = some (.map es clock))
    (hf : Instr.findNow d key es.toList 0 = some (some (j, v))) : (Instr.lookup mty (.map (some r)) key false).run P w = .ok v w := by
  have hc : ∀ b, (Instr.checkKey b 10000 kt key).run P w = .ok () w := fun b => MapKept.run_checkKey (k := key) hd hk b 9999
  simp [Instr.lookup, run_underlying hm, MapKept.run_getObj_map hb, hc, MapKept.run_findKey hd hf, Result.andThen]

theorem itoa_calls (n : Int) (h0 : 0 ≤ n) (h1 : n ≤ 255) (w : World) (htab : Lib.TabIs Tryd.prog w "internal/strconv.uint64pow10" .u64 Lib.pow10Tab) :
    Calls Tryd.prog 27 #[.int .i64 n] w fun e w' => e = .returned (.string ⟨(dig n.toNat).toArray⟩) ∧ Below w.heap.size w w' := by
  refine (Tryd.strconv_Itoa n (by omega) (by omega) w htab).mono fun e w' ⟨he, k, os, hw⟩ => ?_
  subst he hw
  have : Lib.itoa n = dig n.toNat := by
    unfold Lib.itoa
    rw [if_neg (by omega), dig_eq (by omega)]
  rw [this]
  exact ⟨rfl, rfl, rfl, rfl, by simp [Go.Sort.grow, World.drewN], fun j hj => by simp only [Go.Sort.grow]; exact Array.getElem?_append_left hj⟩

theorem opMes_find {k : Nat} (hk : k < 7) : ∃ j, Instr.findNow .string (.string ⟨(nameOf (k + 1)).toArray⟩) opMes.toList 0 = some (some (j, .agg #[.int .i64 (k + 1 : Nat), .string ⟨(fldsOf (k + 1)).toArray⟩])) := by
  obtain rfl | rfl | rfl | rfl | rfl | rfl | rfl : k = 0 ∨ k = 1 ∨ k = 2 ∨ k = 3 ∨ k = 4 ∨ k = 5 ∨ k = 6 := by omega
  · exact ⟨0, by kernel_rfl⟩
  · exact ⟨1, by kernel_rfl⟩
  · exact ⟨2, by kernel_rfl⟩
  · exact ⟨3, by kernel_rfl⟩
  · exact ⟨4, by kernel_rfl⟩
  · exact ⟨5, by kernel_rfl⟩
  · exact ⟨6, by kernel_rfl⟩

/-- The three numbers by their letters. -/
def letMes (x y z : Int) : Array MapEntry := #[⟨.int .i32 88, .int .i64 x, 0⟩, ⟨.int .i32 89, .int .i64 y, 1⟩, ⟨.int .i32 90, .int .i64 z, 2⟩]
theorem letMes_find (x y z : Int) {f : Nat} (h : f = 88 ∨ f = 89 ∨ f = 90) : ∃ j, Instr.findNow (.int .i32) (.int .i32 (f : Int)) (letMes x y z).toList 0 = some (some (j, .int .i64 (if f = 88 then x else if f = 89 then y else z))) := by
  rcases h with rfl | rfl | rfl
  · exact ⟨0, rfl⟩
  · exact ⟨1, rfl⟩
  · exact ⟨2, rfl⟩

theorem flds_mem {n : Nat} {f : UInt8} (h : f ∈ fldsOf n) : f = 88 ∨ f = 89 ∨ f = 90 := by
  unfold fldsOf at h
  split at h <;> simp at h
  · exact h
  · rcases h with h | h
    · exact .inl h
    · exact .inr (.inr h)
  · exact .inl h
  · exact .inl h
  · exact .inr (.inr h)
end Go.Am.V
