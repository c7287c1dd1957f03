/- THE TABLE OF OPERATIONS. -/
import Derived.Test.YtjdhcjhalkjamaaDoorQ1
set_option linter.unusedVariables false
set_option linter.unusedSimpArgs false
namespace Go.Am.V
open Go.Proofs Go.RowKit

/-- The table: name, kind, which numbers, in the order of the text. -/
def opTab : List (List UInt8 × Int × List UInt8) :=
  [([99, 104, 97, 114], 1, [88, 89, 90]), ([105, 115], 2, [88, 90]), ([115, 101, 116], 3, [88]), ([97, 100, 100], 4, [88]), ([103, 111, 116, 111], 5, [90]), ([121, 101, 115], 6, []), ([110, 111], 7, [])]
def opMes : Array MapEntry :=
  #[⟨.string ⟨#[99, 104, 97, 114]⟩, .agg #[.int .i64 1, .string ⟨#[88, 89, 90]⟩], 0⟩, ⟨.string ⟨#[105, 115]⟩, .agg #[.int .i64 2, .string ⟨#[88, 90]⟩], 1⟩,
    ⟨.string ⟨#[115, 101, 116]⟩, .agg #[.int .i64 3, .string ⟨#[88]⟩], 2⟩, ⟨.string ⟨#[97, 100, 100]⟩, .agg #[.int .i64 4, .string ⟨#[88]⟩], 3⟩,
    ⟨.string ⟨#[103, 111, 116, 111]⟩, .agg #[.int .i64 5, .string ⟨#[90]⟩], 4⟩, ⟨.string ⟨#[121, 101, 115]⟩, .agg #[.int .i64 6, .string ⟨#[]⟩], 5⟩,
    ⟨.string ⟨#[110, 111]⟩, .agg #[.int .i64 7, .string ⟨#[]⟩], 6⟩]

theorem upd_at {P : Program} {w : World} {mty kt et : TypeId} {d : TypeDesc} {r clock : Nat} {key val : Value} {es : Array MapEntry} (hm : P.underlying mty = some (.map kt et)) (hd : P.underlying kt = some d) (hk : MapKept.IsKey d key) (hb : w.heap[r]? = some (.map es clock))
    (hf : Instr.findNow d key es.toList 0 = some none) : (Instr.mapUpdate mty (.map (some r)) key val).run P w = .ok () { w with heap := w.heap.setIfInBounds r (.map (es.push { key := key, val := val, born := clock }) (clock + 1)) } := by
  have hc : (Instr.checkKey false 10000 kt key).run P w = .ok () w := MapKept.run_checkKey (k := key) hd hk false 9999
  simp [Instr.mapUpdate, run_underlying hm, MapKept.run_getObj_map hb, hc, MapKept.run_findKey hd hf, MapKept.run_setObj_map _ hb, Result.andThen]
theorem set_last (w : World) (o o' : Obj) : ({ w.alloc o with heap := (w.alloc o).heap.setIfInBounds w.heap.size o' } : World) = w.alloc o' := by
  have hp : (w.heap.push o).setIfInBounds w.heap.size o' = w.heap.push o' := by
    apply Array.toList_inj.1
    simp
  show ({ w with heap := (w.heap.push o).setIfInBounds w.heap.size o' } : World) = { w with heap := w.heap.push o' }
  rw [hp]
theorem upd_new {P : Program} (w : World) {mty kt et : TypeId} {d : TypeDesc} {clock : Nat} {key val : Value} {es : Array MapEntry} (hm : P.underlying mty = some (.map kt et)) (hd : P.underlying kt = some d) (hk : MapKept.IsKey d key)
    (hf : Instr.findNow d key es.toList 0 = some none) : (Instr.mapUpdate mty (.map (some w.heap.size)) key val).run P (w.alloc (.map es clock)) = .ok () (w.alloc (.map (es.push { key := key, val := val, born := clock }) (clock + 1))) := by
  rw [upd_at hm hd hk (heap_alloc_new w _) hf, set_last]

set_option maxHeartbeats 4000000 in
set_option maxRecDepth 1000000 in
theorem ops_calls (w : World) : Calls Tryd.prog 26 #[] w fun e w' => e = .returned (.map (some w.heap.size)) ∧ w' = w.alloc (.map opMes 7) := by
  have hmk : (Instr.makeMap 59 none).run Tryd.prog w = .ok (.map (some w.heap.size)) (w.alloc (.map #[] 0)) := rfl
  have h0 : (Instr.mapUpdate 59 (.map (some w.heap.size)) (.string ⟨#[99, 104, 97, 114]⟩) (.agg #[.int .i64 1, .string ⟨#[88, 89, 90]⟩])).run Tryd.prog (w.alloc (.map #[] 0)) = .ok () (w.alloc (.map #[⟨.string ⟨#[99, 104, 97, 114]⟩, .agg #[.int .i64 1, .string ⟨#[88, 89, 90]⟩], 0⟩] 1)) := upd_new w Tryd.underlying59 Tryd.underlying9 (by simp [MapKept.IsKey]) (by kernel_rfl)
  have h1 : (Instr.mapUpdate 59 (.map (some w.heap.size)) (.string ⟨#[105, 115]⟩) (.agg #[.int .i64 2, .string ⟨#[88, 90]⟩])).run Tryd.prog (w.alloc (.map #[⟨.string ⟨#[99, 104, 97, 114]⟩, .agg #[.int .i64 1, .string ⟨#[88, 89, 90]⟩], 0⟩] 1)) = .ok () (w.alloc (.map #[⟨.string ⟨#[99, 104, 97, 114]⟩, .agg #[.int .i64 1, .string ⟨#[88, 89, 90]⟩], 0⟩, ⟨.string ⟨#[105, 115]⟩, .agg #[.int .i64 2, .string ⟨#[88, 90]⟩], 1⟩] 2)) := upd_new w Tryd.underlying59 Tryd.underlying9 (by simp [MapKept.IsKey]) (by kernel_rfl)
  have h2 : (Instr.mapUpdate 59 (.map (some w.heap.size)) (.string ⟨#[115, 101, 116]⟩) (.agg #[.int .i64 3, .string ⟨#[88]⟩])).run Tryd.prog (w.alloc (.map #[⟨.string ⟨#[99, 104, 97, 114]⟩, .agg #[.int .i64 1, .string ⟨#[88, 89, 90]⟩], 0⟩, ⟨.string ⟨#[105, 115]⟩, .agg #[.int .i64 2, .string ⟨#[88, 90]⟩], 1⟩] 2)) = .ok () (w.alloc (.map #[⟨.string ⟨#[99, 104, 97, 114]⟩, .agg #[.int .i64 1, .string ⟨#[88, 89, 90]⟩], 0⟩, ⟨.string ⟨#[105, 115]⟩, .agg #[.int .i64 2, .string ⟨#[88, 90]⟩], 1⟩, ⟨.string ⟨#[115, 101, 116]⟩, .agg #[.int .i64 3, .string ⟨#[88]⟩], 2⟩] 3)) := upd_new w Tryd.underlying59 Tryd.underlying9 (by simp [MapKept.IsKey]) (by kernel_rfl)
  have h3 : (Instr.mapUpdate 59 (.map (some w.heap.size)) (.string ⟨#[97, 100, 100]⟩) (.agg #[.int .i64 4, .string ⟨#[88]⟩])).run Tryd.prog (w.alloc (.map #[⟨.string ⟨#[99, 104, 97, 114]⟩, .agg #[.int .i64 1, .string ⟨#[88, 89, 90]⟩], 0⟩, ⟨.string ⟨#[105, 115]⟩, .agg #[.int .i64 2, .string ⟨#[88, 90]⟩], 1⟩, ⟨.string ⟨#[115, 101, 116]⟩, .agg #[.int .i64 3, .string ⟨#[88]⟩], 2⟩] 3)) = .ok () (w.alloc (.map #[⟨.string ⟨#[99, 104, 97, 114]⟩, .agg #[.int .i64 1, .string ⟨#[88, 89, 90]⟩], 0⟩, ⟨.string ⟨#[105, 115]⟩, .agg #[.int .i64 2, .string ⟨#[88, 90]⟩], 1⟩, ⟨.string ⟨#[115, 101, 116]⟩, .agg #[.int .i64 3, .string ⟨#[88]⟩], 2⟩, ⟨.string ⟨#[97, 100, 100]⟩, .agg #[.int .i64 4, .string ⟨#[88]⟩], 3⟩] 4)) := upd_new w Tryd.underlying59 Tryd.underlying9 (by simp [MapKept.IsKey]) (by kernel_rfl)
  have h4 : (Instr.mapUpdate 59 (.map (some w.heap.size)) (.string ⟨#[103, 111, 116, 111]⟩) (.agg #[.int .i64 5, .string ⟨#[90]⟩])).run Tryd.prog (w.alloc (.map #[⟨.string ⟨#[99, 104, 97, 114]⟩, .agg #[.int .i64 1, .string ⟨#[88, 89, 90]⟩], 0⟩, ⟨.string ⟨#[105, 115]⟩, .agg #[.int .i64 2, .string ⟨#[88, 90]⟩], 1⟩, ⟨.string ⟨#[115, 101, 116]⟩, .agg #[.int .i64 3, .string ⟨#[88]⟩], 2⟩, ⟨.string ⟨#[97, 100, 100]⟩, .agg #[.int .i64 4, .string ⟨#[88]⟩], 3⟩] 4)) = .ok () (w.alloc (.map #[⟨.string ⟨#[99, 104, 97, 114]⟩, .agg #[.int .i64 1, .string ⟨#[88, 89, 90]⟩], 0⟩, ⟨.string ⟨#[105, 115]⟩, .agg #[.int .i64 2, .string ⟨#[88, 90]⟩], 1⟩, ⟨.string ⟨#[115, 101, 116]⟩, .agg #[.int .i64 3, .string ⟨#[88]⟩], 2⟩, ⟨.string ⟨#[97, 100, 100]⟩, .agg #[.int .i64 4, .string ⟨#[88]⟩], 3⟩, ⟨.string ⟨#[103, 111, 116, 111]⟩, .agg #[.int .i64 5, .string ⟨#[90]⟩], 4⟩] 5)) := upd_new w Tryd.underlying59 Tryd.underlying9 (by simp [MapKept.IsKey]) (by kernel_rfl)
  have h5 : (Instr.mapUpdate 59 (.map (some w.heap.size)) (.string ⟨#[121, 101, 115]⟩) (.agg #[.int .i64 6, .string ⟨#[]⟩])).run Tryd.prog (w.alloc (.map #[⟨.string ⟨#[99, 104, 97, 114]⟩, .agg #[.int .i64 1, .string ⟨#[88, 89, 90]⟩], 0⟩, ⟨.string ⟨#[105, 115]⟩, .agg #[.int .i64 2, .string ⟨#[88, 90]⟩], 1⟩, ⟨.string ⟨#[115, 101, 116]⟩, .agg #[.int .i64 3, .string ⟨#[88]⟩], 2⟩, ⟨.string ⟨#[97, 100, 100]⟩, .agg #[.int .i64 4, .string ⟨#[88]⟩], 3⟩, ⟨.string ⟨#[103, 111, 116, 111]⟩, .agg #[.int .i64 5, .string ⟨#[90]⟩], 4⟩] 5)) = .ok () (w.alloc (.map #[⟨.string ⟨#[99, 104, 97, 114]⟩, .agg #[.int .i64 1, .string ⟨#[88, 89, 90]⟩], 0⟩, ⟨.string ⟨#[105, 115]⟩, .agg #[.int .i64 2, .string ⟨#[88, 90]⟩], 1⟩, ⟨.string ⟨#[115, 101, 116]⟩, .agg #[.int .i64 3, .string ⟨#[88]⟩], 2⟩, ⟨.string ⟨#[97, 100, 100]⟩, .agg #[.int .i64 4, .string ⟨#[88]⟩], 3⟩, ⟨.string ⟨#[103, 111, 116, 111]⟩, .agg #[.int .i64 5, .string ⟨#[90]⟩], 4⟩, ⟨.string ⟨#[121, 101, 115]⟩, .agg #[.int .i64 6, .string ⟨#[]⟩], 5⟩] 6)) := upd_new w Tryd.underlying59 Tryd.underlying9 (by simp [MapKept.IsKey]) (by kernel_rfl)
  have h6 : (Instr.mapUpdate 59 (.map (some w.heap.size)) (.string ⟨#[110, 111]⟩) (.agg #[.int .i64 7, .string ⟨#[]⟩])).run Tryd.prog (w.alloc (.map #[⟨.string ⟨#[99, 104, 97, 114]⟩, .agg #[.int .i64 1, .string ⟨#[88, 89, 90]⟩], 0⟩, ⟨.string ⟨#[105, 115]⟩, .agg #[.int .i64 2, .string ⟨#[88, 90]⟩], 1⟩, ⟨.string ⟨#[115, 101, 116]⟩, .agg #[.int .i64 3, .string ⟨#[88]⟩], 2⟩, ⟨.string ⟨#[97, 100, 100]⟩, .agg #[.int .i64 4, .string ⟨#[88]⟩], 3⟩, ⟨.string ⟨#[103, 111, 116, 111]⟩, .agg #[.int .i64 5, .string ⟨#[90]⟩], 4⟩, ⟨.string ⟨#[121, 101, 115]⟩, .agg #[.int .i64 6, .string ⟨#[]⟩], 5⟩] 6)) = .ok () (w.alloc (.map #[⟨.string ⟨#[99, 104, 97, 114]⟩, .agg #[.int .i64 1, .string ⟨#[88, 89, 90]⟩], 0⟩, ⟨.string ⟨#[105, 115]⟩, .agg #[.int .i64 2, .string ⟨#[88, 90]⟩], 1⟩, ⟨.string ⟨#[115, 101, 116]⟩, .agg #[.int .i64 3, .string ⟨#[88]⟩], 2⟩, ⟨.string ⟨#[97, 100, 100]⟩, .agg #[.int .i64 4, .string ⟨#[88]⟩], 3⟩, ⟨.string ⟨#[103, 111, 116, 111]⟩, .agg #[.int .i64 5, .string ⟨#[90]⟩], 4⟩, ⟨.string ⟨#[121, 101, 115]⟩, .agg #[.int .i64 6, .string ⟨#[]⟩], 5⟩, ⟨.string ⟨#[110, 111]⟩, .agg #[.int .i64 7, .string ⟨#[]⟩], 6⟩] 7)) := upd_new w Tryd.underlying59 Tryd.underlying9 (by simp [MapKept.IsKey]) (by kernel_rfl)
  go_enter Tryd.func26, Tryd.ntmps26
  go_wp2
  go_ret
  exact ⟨rfl, rfl⟩

def opsEs : List (AV × AV × Nat) := [(.str [99, 104, 97, 114], .agg [.int .i64 1, .str [88, 89, 90]], 0), (.str [105, 115], .agg [.int .i64 2, .str [88, 90]], 1), (.str [115, 101, 116], .agg [.int .i64 3, .str [88]], 2), (.str [97, 100, 100], .agg [.int .i64 4, .str [88]], 3), (.str [103, 111, 116, 111], .agg [.int .i64 5, .str [90]], 4), (.str [121, 101, 115], .agg [.int .i64 6, .str []], 5), (.str [110, 111], .agg [.int .i64 7, .str []], 6)]
def opsF (args : List AV) (n : Nat) : Option (AV × AObj) := match args with | [] => some (.map n, .map opsEs 7) | _ => none

theorem rep_op {G : Gh} {w : World} {n : Int} {l : List UInt8} : Rep G w (.agg [.int .i64 n, .str l]) (.agg #[.int .i64 n, .string ⟨l.toArray⟩]) :=
  rep_agg.2 ⟨.cons (.int _ _) (.cons (.str _) (.nil _ _)), fun j x hx => by
    rcases j with _ | _ | j
    · simp at hx; subst hx; rfl
    · simp at hx; subst hx; rfl
    · simp at hx⟩

theorem ext_ops [Pin] : ExtOk Tryd.prog 26 (.push opsF) := by
  intro G S S' W args vs r hr hW hv
  simp only [XT.run, Option.map_eq_some_iff, Prod.mk.injEq] at hr
  obtain ⟨⟨v, o⟩, hF, rfl, rfl⟩ := hr
  unfold opsF at hF
  split at hF
  · simp only [Option.some.injEq, Prod.mk.injEq] at hF
    obtain ⟨rfl, rfl⟩ := hF
    have h0 := hv.nil_inv
    have hvs := arr_eq h0
    subst hvs
    refine ⟨enters_of Tryd.func26 (by kernel_rfl) rfl _ _, (ops_calls W).mono ?_⟩
    rintro e w' ⟨rfl, rfl⟩
    obtain ⟨g1, g2⟩ := push_blk (a := .map opsEs 7) (ob := .map opMes 7) hW (fun b hb => hb) ⟨W.heap.size, G.addBlk_new _ _, ⟨opMes, heap_alloc_new _ _, rfl, fun i e he => by
      rcases i with _ | _ | _ | _ | _ | _ | _ | i
      all_goals first
        | (simp only [opsEs, List.getElem?_cons_zero, List.getElem?_cons_succ, Option.some.injEq] at he; subst he; exact ⟨_, rfl, .str _, rep_op, rfl⟩)
        | (simp [opsEs] at he)⟩⟩
    exact ⟨_, _, rfl, g1, g2, .map _ _ (G.addBlk_new _ _)⟩
  · cases hF
end Go.Am.V
