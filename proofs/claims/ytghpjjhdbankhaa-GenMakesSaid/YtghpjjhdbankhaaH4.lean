/- THE LAW GenMakes, gen.Text given. -/
import Derived.Test.YtghpjjhdbankhaaH3
import Derived.Test.YtghpjjhdbankhaaS3
import Derived.Test.YtghpjjhdbankhaaD0
set_option linter.unusedSimpArgs false
set_option linter.unusedVariables false
set_option maxRecDepth 20000
namespace Go.Am.B
open Go.Proofs Go.IntWalk
variable {w : Ways}
theorem pick_eq (z : Int) (k : Nat) (m : Int) (h : k + 1 < 1000000) : IntKind.i64.wrap ((num z k).tmod m) = pickV mix z ((k + 1 : Nat) : Int) m := by
  have e : IntKind.u64.wrap ((k : Int) + 1) = ((k + 1 : Nat) : Int) := by rw [wrap_u64]; omega
  unfold pickV num
  rw [e]
theorem opCells_eq (s : Int) (i : Nat) : opCells s i = [.int .i64 (IntKind.i64.wrap (pickV mix (mix (IntKind.u64.wrap (s + IntKind.u64.wrap i))) 1 8 + 1)),
      .int .i64 (pickV mix (mix (IntKind.u64.wrap (s + IntKind.u64.wrap i))) 2 12), .int .i64 (pickV mix (mix (IntKind.u64.wrap (s + IntKind.u64.wrap i))) 3 3), .str (pcs.getD (pickV mix (mix (IntKind.u64.wrap (s + IntKind.u64.wrap i))) 4 10).toNat []),
      .int .i64 (pickV mix (mix (IntKind.u64.wrap (s + IntKind.u64.wrap i))) 5 4), .int .i64 (pickV mix (mix (IntKind.u64.wrap (s + IntKind.u64.wrap i))) 6 6), .int .i64 12] := by
  unfold opCells
  generalize mix (IntKind.u64.wrap (s + IntKind.u64.wrap i)) = z
  have h4 := (pick_num z 3 10 (by omega) (by omega) (by omega)).1
  simp only [pick_eq z 0 8 (by omega), pick_eq z 1 12 (by omega), pick_eq z 2 3 (by omega), pick_eq z 4 4 (by omega), pick_eq z 5 6 (by omega), ← h4]
  rfl
theorem opsR_ok (hw : Std w) (s n : Int) : PC (cfg w) 25 [.int .u64 s, .int .i64 n] (.vec (opsRows s (clip60 n))) := by
  have hpick : ∀ s k m, ¬ m = 0 → PC (cfg w) 66 [.int .u64 s, .int .u64 k, .int .u64 m] (.int .i64 (pickV mix s k m)) := fun s k m hm => pick66_ok hw (mixR_ok hw) s k m hm
  refine ops25_gen hw (P := fun x => pcs.getD x.toNat []) (rows := opsRows s) (mixR_ok hw) (pieces69_ok hw) hpick (fun x => ?_) rfl (opsRows_len s) (fun i => ?_) (fun i => ?_) ?_ (opsRows_nrm s _)
  · have h := pick_range x 4 10 (by omega) (by omega)
    exact ⟨h.1, pcs_row _ h.1 h.2⟩
  · cases i with
    | zero => rfl
    | succ i =>
      unfold opsRows
      rw [List.range_succ_eq_map]
      rfl
  · rw [opsRows_succ, opCells_eq]
  · unfold clip60; split <;> (try split) <;> omega
theorem opsRows_mem (s : Int) (n i : Nat) (x : List AV) (h : (opsRows s n)[i]? = some x) : ∃ j, x = opCells s j := by
  unfold opsRows at h
  simp only [List.getElem?_map, Option.map_eq_some_iff] at h
  obtain ⟨j, _, rfl⟩ := h
  exact ⟨j, rfl⟩
theorem opsSame_ok (hw : Std w) (s : Int) (n : Nat) (hn : n ≤ 1000) : PC (cfg w) 16 [.vec (opsRows s n), .vec (opsRows s n)] (.bool true) :=
  same_ok hw _ (by rw [opsRows_len]; omega) (fun i x hx => by obtain ⟨j, rfl⟩ := opsRows_mem s n i x hx; rfl) (fun i x hx => by obtain ⟨j, rfl⟩ := opsRows_mem s n i x hx; simp [opCells, leavesEq, leafEq]) (fun i x hx => by obtain ⟨j, rfl⟩ := opsRows_mem s n i x hx; rfl) (opsRows_nrm s n)

def tbl : List (List UInt8) := [[103, 114, 97, 109, 109, 97, 114, 32, 100, 111, 99, 10, 116, 111, 107, 101, 110, 32, 119, 32, 91, 97, 45, 122, 93, 43, 10, 116, 111, 107, 101, 110, 32, 99, 111, 100, 101, 32, 91, 48, 45, 57, 43, 93, 43, 10, 115, 107, 105, 112, 32, 115, 112, 32, 92, 115, 43, 10, 114, 117, 108, 101, 32, 100, 111, 99, 32, 40, 119, 32, 124, 32, 34, 60, 34, 32, 99, 111, 100, 101, 32, 34, 62, 34, 41, 42, 10], [103, 114, 97, 109, 109, 97, 114, 32, 115, 117, 109, 10, 116, 111, 107, 101, 110, 32, 110, 32, 91, 48, 45, 57, 93, 43, 10, 115, 107, 105, 112, 32, 115, 112, 32, 92, 115, 43, 10, 114, 117, 108, 101, 32, 115, 117, 109, 32, 108, 101, 102, 116, 58, 110, 32, 40, 34, 43, 34, 32, 110, 41, 42, 10], [103, 114, 97, 109, 109, 97, 114, 32, 112, 97, 114, 10, 116, 111, 107, 101, 110, 32, 120, 32, 91, 97, 45, 122, 93, 10, 115, 107, 105, 112, 32, 115, 112, 32, 92, 115, 43, 10, 114, 117, 108, 101, 32, 112, 97, 114, 32, 105, 116, 101, 109, 42, 10, 114, 117, 108, 101, 32, 105, 116, 101, 109, 32, 120, 32, 124, 32, 34, 40, 34, 32, 98, 111, 100, 121, 32, 34, 41, 34, 10, 114, 117, 108, 101, 32, 98, 111, 100, 121, 32, 105, 116, 101, 109, 42, 10], [103, 114, 97, 109, 109, 97, 114, 32, 116, 119, 111, 10, 116, 111, 107, 101, 110, 32, 116, 32, 91, 97, 45, 122, 93, 43, 10, 116, 111, 107, 101, 110, 32, 110, 32, 91, 48, 45, 57, 93, 43, 10, 115, 107, 105, 112, 32, 115, 112, 32, 92, 115, 43, 10, 114, 117, 108, 101, 32, 116, 119, 111, 32, 37, 49, 32, 108, 58, 116, 119, 111, 32, 34, 43, 34, 32, 114, 58, 116, 119, 111, 32, 124, 32, 110, 32, 124, 32, 116, 32, 124, 32, 34, 40, 34, 32, 116, 119, 111, 32, 34, 41, 34, 10]]
def textE (args : List AV) : Option AV := match args with | [.int .u64 s] => if 0 ≤ s ∧ s < 18446744073709551616 then some (.str (textV s)) else none | _ => none
def ext4 (f : FuncId) : Option XT := if f = 23 then some (.val textE) else none
def w4 : Ways := ⟨modeOf, ext4, fun _ _ => false, fun t => t == 29⟩
theorem std4 : Std w4 := by constructor <;> first | rfl | (exact fun _ _ _ _ => rfl) | (constructor <;> rfl)
theorem tb64 : ((run (cfg w4) 10).call 64 [] St.nil).bind (fun r => (frz r.2 r.1).map Prod.fst) = some (.agg (tbl.map .str)) := by kernel_rfl
theorem tb65 : ((run (cfg w4) 10).call 65 [] St.nil).bind (fun r => (frz r.2 r.1).map Prod.fst) = some (.vec (tbl.map fun s => [.str s])) := by kernel_rfl
theorem PC_run {f : Nat} {v : AV} (he : (cfg w4).ext f = none) (hm : (cfg w4).mode f = .pure) (h : ((run (cfg w4) 10).call f [] St.nil).bind (fun r => (frz r.2 r.1).map Prod.fst) = some v) : PC (cfg w4) f [] v := by
  simp only [Option.bind_eq_some_iff, Option.map_eq_some_iff] at h
  obtain ⟨⟨r, S⟩, h1, ⟨v', l⟩, h2, rfl⟩ := h
  exact PC_of (args' := []) he hm rfl ⟨r, S, lim_of_run h1, l, h2⟩
theorem genMakes_ok (s n : Int) (hs : 0 ≤ s ∧ s < 18446744073709551616) : PC (cfg w4) 4 [.int .u64 s, .int .i64 n] (.bool true) := by
  have h64 := PC_run (f := 64) std4.e64 std4.m64 tb64
  have h65 := PC_run (f := 65) std4.e65 std4.m65 tb65
  obtain ⟨A, h21, h22⟩ := sources_ok std4 (tbl := tbl) rfl h64 h65 s
  have h23 : PC (cfg w4) 23 [.int .u64 s] (.str (textV s)) := fun S => by
    have he : (cfg w4).ext 23 = some (.val textE) := by rw [cfgP_ext]; rfl
    simp [callF, he, XT.run, textE, hs]
  have hc : clip60 n ≤ 60 := by unfold clip60; omega
  exact genMakes_gen std4 (mix_ok std4 s) (mixR_ok std4 s) h21 h22 h23 (text_ok std4 s) (ops_ok std4 s n) (opsR_ok std4 s n) (opsRows_nrm s _) (opsSame_ok std4 s _ (by omega)) (awake28_ok std4)
end Go.Am.B
