/- OTHER WAYS: strings.Join taken as given; slices.Clone of nodes, its row one's own. -/
import Derived.Test.YtghpjjhdbankhaaD0
import Derived.Test.YtghpjjhdbankhaaJ0
set_option linter.unusedSimpArgs false
set_option linter.unusedVariables false
set_option maxRecDepth 20000
namespace Go.Am.B
open Go.Proofs Go.IntWalk Go.RowKit

/-! ### strings.Join -/
def strsOf : Rows → Option (List (List UInt8))
  | [] => some []
  | [.str s] :: r => (strsOf r).map fun l => s :: l
  | _ => none
def rowsV : AV → Option Rows
  | .nils => some []
  | .emp => some []
  | .vec r => some r
  | .lit r => some r
  | .own r _ _ => some r
  | _ => none
def joinE (args : List AV) : Option AV :=
  match args with
  | [x, .str sep] => (rowsV x).bind fun rows => (strsOf rows).bind fun ls =>
      if ls.length ≤ 140737488355328 ∧ (Lib.join ls sep).length ≤ 140737488355328 then some (.str (Lib.join ls sep)) else none
  | _ => none
theorem strsOf_some : ∀ {rows : Rows} {ls : List (List UInt8)}, strsOf rows = some ls → rows = ls.map fun s => [.str s]
  | [], ls, h => by simp [strsOf] at h; subst h; rfl
  | r :: rs, ls, h => by
    unfold strsOf at h
    split at h
    · rename_i h'; cases h'
    · rename_i s r' h'
      simp only [List.cons.injEq] at h'
      obtain ⟨rfl, rfl⟩ := h'
      simp only [Option.map_eq_some_iff] at h
      obtain ⟨l, hl, rfl⟩ := h
      rw [strsOf_some hl]; rfl
    · cases h
theorem strsOf_map (ls : List (List UInt8)) : strsOf (ls.map fun s => [.str s]) = some ls := by
  induction ls with
  | nil => rfl
  | cons x xs ih => simp [strsOf, ih]

theorem ext_join : ExtOk Try.prog 87 (.val joinE) := by
  intro G S S' W args vs r hr hW hv
  have hargs : ∃ x sep rows ls, args = [x, .str sep] ∧ rowsV x = some rows ∧ strsOf rows = some ls ∧ ls.length ≤ 140737488355328 ∧ (Lib.join ls sep).length ≤ 140737488355328 ∧ r = .str (Lib.join ls sep) ∧ S = S' := by
    simp only [XT.run, Option.map_eq_some_iff, Prod.mk.injEq] at hr
    obtain ⟨v, hc, rfl, rfl⟩ := hr
    unfold joinE at hc
    split at hc
    · rename_i x sep
      simp only [Option.bind_eq_some_iff] at hc
      obtain ⟨rows, h1, ls, h2, hc⟩ := hc
      split at hc
      · rename_i hq
        simp only [Option.some.injEq] at hc
        exact ⟨x, sep, rows, ls, rfl, h1, h2, hq.1, hq.2, hc.symm, rfl⟩
      · simp at hc
    · simp at hc
  obtain ⟨x, sep, rows, ls, rfl, h1, h2, h3, h4, rfl, rfl⟩ := hargs
  obtain ⟨v, l, hvl, hrv, hl1⟩ := hv.uncons
  obtain ⟨u, l2, rfl, hru, hl2⟩ := hl1.uncons
  obtain rfl := hl2.nil_inv
  have hu := rep_str hru
  subst hu
  have hvs := arr_eq hvl
  subst hvs
  have hx : (∃ r, x = .vec r ∧ rows = r) ∨ (∃ r, x = .lit r ∧ rows = r) ∨ (∃ r o g, x = .own r o g ∧ rows = r) ∨ (x = .nils ∧ rows = []) ∨ (x = .emp ∧ rows = []) := by
    unfold rowsV at h1
    split at h1 <;> simp at h1 <;> subst h1
    · exact .inr (.inr (.inr (.inl ⟨rfl, rfl⟩)))
    · exact .inr (.inr (.inr (.inr ⟨rfl, rfl⟩)))
    · exact .inl ⟨_, rfl, rfl⟩
    · exact .inr (.inl ⟨_, rfl, rfl⟩)
    · exact .inr (.inr (.inl ⟨_, _, _, rfl, rfl⟩))
  obtain ⟨a, cap, rfl, hcap, _, hrows⟩ := rep_rows_inv hrv hx
  have hrl := strsOf_some h2
  have hlen : rows.length = ls.length := by rw [hrl]; simp
  refine ⟨enters_of Try.func87 (by kernel_rfl) rfl _ _, ?_⟩
  have fin : ∀ w', Below W.heap.size W w' → ∃ G' u, (Ending.returned (.string ⟨(Lib.join ls sep).toArray⟩)) = .returned u ∧ Wrel G' S w' ∧ Step G S W G' S w' ∧ Rep G' w' (.str (Lib.join ls sep)) u := fun w' hb => by
    have hlaid : Laid W w' := ⟨hb.size, hb.os, hb.tape, hb.output, fun k hk => hb.block k hk⟩
    obtain ⟨g1, g2⟩ := im_step hW hlaid (fun _ _ => False) (fun _ _ h => h.elim)
    exact ⟨_, _, rfl, g1, g2, .str _⟩
  rcases hrows with he | ⟨b, p, es, rfl, hes, hat⟩
  · have hls : ls = [] := by rw [he] at hlen; exact List.eq_nil_of_length_eq_zero hlen.symm
    subst hls
    rw [he, List.length_nil]
    refine (Try.strings_Join_none a cap _ W).mono ?_
    rintro e w' ⟨rfl, rfl⟩
    exact fin w' (Below.refl _ _)
  · have key : ∀ (j : Nat) (s : List UInt8), ls[j]? = some s → G.cell W b (p + j) (.string ⟨s.toArray⟩) := fun j s hj => by
      have hr : rows[j]? = some [.str s] := by rw [hrl]; simp [hj]
      have h1 : es = 1 := by have := hes _ _ hr; simpa using this.symm
      obtain ⟨_, u, hc, hu⟩ := hat j [.str s] 0 (.str s) hr rfl
      subst h1
      rw [rep_str hu] at hc
      simpa using hc
    rcases Nat.eq_zero_or_pos ls.length with h0 | h0
    · have hls : ls = [] := List.eq_nil_of_length_eq_zero h0
      subst hls
      rw [hlen, List.length_nil]
      refine (Try.strings_Join_none _ cap _ W).mono ?_
      rintro e w' ⟨rfl, rfl⟩
      exact fin w' (Below.refl _ _)
    · obtain ⟨s0, hs0⟩ := get_of_lt (l := ls) (i := 0) h0
      have hbk : b < W.heap.size := hW.im_lt (key 0 s0 hs0).1
      have hmap : (ls.map fun s => (⟨s.toArray⟩ : ByteArray)).map (·.data.toList) = ls := by simp [Function.comp_def]
      have hj := Try.strings_Join b p cap (ls.map fun s => ⟨s.toArray⟩) ⟨sep.toArray⟩ W (fun j x hx => by
        simp only [List.getElem?_map, Option.map_eq_some_iff] at hx
        obtain ⟨s, hs, rfl⟩ := hx
        exact (key j s hs).2) hbk (by simpa using h3) (by rw [hlen] at hcap; simpa using hcap) (by rw [hmap]; simpa using h4)
      rw [hmap, List.length_map] at hj
      rw [hlen]
      refine hj.mono ?_
      rintro e w' ⟨rfl, hb⟩
      exact fin w' hb

/-! ### slices.Clone of nodes -/
def cloneM (args : List AV) (n : Nat) : Option (AV × AObj) :=
  match args with
  | [.vec []] => some (.lit [], .dead)
  | [.lit []] => some (.lit [], .dead)
  | [.vec rows] => if headOk 7 rows = true ∧ rows.length ≤ 1600000000000 then some (.sref n 0 0 rows.length, .seq 0 7 rows 0) else none
  | _ => none
def w3a : Ways := ⟨fun f => if f = 86 then .raw else modeOf f, fun _ => none, fun f r => f == 86 && r == 3, fun t => t == 29⟩
theorem cfgOk3a : CfgOk Try.prog (cfg w3a) where
  ty := fun t i h => by rw [cfgP_ty] at h; exact h
  fn := fun f g h => cfgP_fn h
  mixed := by kernel_rfl
  eqt := fun t xs h hf => by
    have : t = 29 := by simpa [cfgP_eqt, w3a] using h
    subst this
    exact eq29 hf
  ext := fun f F h => by simp [cfgP_ext, w3a] at h
theorem clM_cons {w : Ways} (hm : w.muts 86 3 = true) (r0 : List AV) (rs : Rows) (h0 : (r0.length == 7) = true) (S : St) (hl : rs.length ≤ 1600000000000) : (lim (cfg w)).call 86 [.vec (r0 :: rs)] S = some (.sref S.n 0 0 (rs.length + 1), S.push (.seq 0 7 (r0 :: rs) 0)) := by
  have hl2 : (rs.length + 1 + (rs.length + 1) / 4 + 1000) * 88 ≤ 281474976710656 := by omega
  refine call_eq_of ?_
  refine call_of_W (fn86 w) rfl ?_
  simp only [Try.f86, List.length_cons, List.length_nil, ↓reduceIte, Int.reduceLT, Int.reduceLE, Int.reduceAdd, Int.reduceSub, Int.reduceNeg, Int.reduceMul, Int.reduceToNat, Int.reduceEq, Int.reduceNe, Int.reduceGT, Int.reduceGE, Nat.reducePow, IntKind.bits, Nat.reduceAdd, Nat.reduceSub, List.cons_append, List.nil_append]
  repeat with_reducible (first | refine E0 ?_ | refine E1 ?_ | refine E2 ?_ | refine E3 ?_ | refine E4 ?_ | refine E5 (by decide) ?_ | refine E6 ?_ | refine E7 ?_ | refine E8 ?_ | refine E9 ?_ | refine Ea ?_ | refine Eb ?_ | refine Ec ?_ | refine Ed ?_)
  refine W_region fun K hK => ?_
  simp only [KA, KB, KP, KQ, reduceCtorEq, ↓reduceIte, Int.reduceLT, Int.reduceLE, Int.reduceAdd, Int.reduceSub, Int.reduceNeg, Int.reduceMul, Int.reduceToNat, Int.reduceEq, Int.reduceNe, Int.reduceGT, Int.reduceGE, Nat.reducePow, Nat.reduceAdd, Nat.reduceSub, Nat.reduceLT, Nat.reduceMul, Nat.reduceDiv, Nat.reduceEqDiff, Nat.reduceLeDiff, KT w]
  refine hK _ _ ?_
  clear hK
  clear K
  repeat with_reducible (first | refine E0 ?_ | refine E1 ?_ | refine E2 ?_ | refine E3 ?_ | refine E4 ?_ | refine E5 (by decide) ?_ | refine E6 ?_ | refine E7 ?_ | refine E8 ?_ | refine E9 ?_ | refine Ea ?_ | refine Eb ?_ | refine Ec ?_ | refine Ed ?_)
  refine W_region fun K hK => ?_
  simp only [KA, KB, KP, KQ, reduceCtorEq, ↓reduceIte, Int.reduceLT, Int.reduceLE, Int.reduceAdd, Int.reduceSub, Int.reduceNeg, Int.reduceMul, Int.reduceToNat, Int.reduceEq, Int.reduceNe, Int.reduceGT, Int.reduceGE, Nat.reducePow, Nat.reduceAdd, Nat.reduceSub, Nat.reduceLT, Nat.reduceMul, Nat.reduceDiv, Nat.reduceEqDiff, Nat.reduceLeDiff, KT w]
  refine hK _ _ ?_
  clear hK
  clear K
  repeat with_reducible (first | refine E0 ?_ | refine E1 ?_ | refine E2 ?_ | refine E3 ?_ | refine E4 ?_ | refine E5 (by decide) ?_ | refine E6 ?_ | refine E7 ?_ | refine E8 ?_ | refine E9 ?_ | refine Ea ?_ | refine Eb ?_ | refine Ec ?_ | refine Ed ?_)
  refine W_condF (by simp only [KA, KP, KQ, reduceCtorEq, ↓reduceIte, Int.reduceLT, Int.reduceLE, Int.reduceAdd, Int.reduceSub, Int.reduceNeg, Int.reduceMul, Int.reduceToNat, Int.reduceEq, Int.reduceNe, Int.reduceGT, Int.reduceGE, Nat.reducePow, Nat.reduceAdd, Nat.reduceSub, Nat.reduceLT, Nat.reduceMul, Nat.reduceDiv, Nat.reduceEqDiff, Nat.reduceLeDiff, KT w]) ?_
  repeat with_reducible (first | refine E0 ?_ | refine E1 ?_ | refine E2 ?_ | refine E3 ?_ | refine E4 ?_ | refine E5 (by decide) ?_ | refine E6 ?_ | refine E7 ?_ | refine E8 ?_ | refine E9 ?_ | refine Ea ?_ | refine Eb ?_ | refine Ec ?_ | refine Ed ?_)
  refine W_region fun K hK => ?_
  simp only [KA, KB, KP, KQ, reduceCtorEq, ↓reduceIte, Int.reduceLT, Int.reduceLE, Int.reduceAdd, Int.reduceSub, Int.reduceNeg, Int.reduceMul, Int.reduceToNat, Int.reduceEq, Int.reduceNe, Int.reduceGT, Int.reduceGE, Nat.reducePow, Nat.reduceAdd, Nat.reduceSub, Nat.reduceLT, Nat.reduceMul, Nat.reduceDiv, Nat.reduceEqDiff, Nat.reduceLeDiff, KT w, h0, hl2, hm]
  refine hK _ _ ?_
  clear hK
  clear K
  repeat with_reducible (first | refine E0 ?_ | refine E1 ?_ | refine E2 ?_ | refine E3 ?_ | refine E4 ?_ | refine E5 (by decide) ?_ | refine E6 ?_ | refine E7 ?_ | refine E8 ?_ | refine E9 ?_ | refine Ea ?_ | refine Eb ?_ | refine Ec ?_ | refine Ed ?_)
  refine AtEnd_of rfl ?_
  simp only [KA, KP, KQ, reduceCtorEq, ↓reduceIte, Int.reduceLT, Int.reduceLE, Int.reduceAdd, Int.reduceSub, Int.reduceNeg, Int.reduceMul, Int.reduceToNat, Int.reduceEq, Int.reduceNe, Int.reduceGT, Int.reduceGE, Nat.reducePow, Nat.reduceAdd, Nat.reduceSub, Nat.reduceLT, Nat.reduceMul, Nat.reduceDiv, Nat.reduceEqDiff, Nat.reduceLeDiff, KT w, RS_some, aresults_nil, aresults_tmp, aresults_cell, one]
theorem ext_cloneM : ExtOk Try.prog 86 (.push cloneM) := by
  intro G S S' W args vs r hr hW hv
  have hE := ext_clone (f := 86) clone86_nils clone86_emp
  simp only [XT.run, Option.map_eq_some_iff, Prod.mk.injEq] at hr
  obtain ⟨⟨r', o⟩, hc, rfl, rfl⟩ := hr
  unfold cloneM at hc
  split at hc
  · simp only [Option.some.injEq, Prod.mk.injEq] at hc
    obtain ⟨rfl, rfl⟩ := hc
    exact hE G S _ W _ vs _ rfl hW hv
  · simp only [Option.some.injEq, Prod.mk.injEq] at hc
    obtain ⟨rfl, rfl⟩ := hc
    exact hE G S _ W _ vs _ rfl hW hv
  · rename_i rows hne
    split at hc
    · rename_i hq
      simp only [Option.some.injEq, Prod.mk.injEq] at hc
      obtain ⟨rfl, rfl⟩ := hc
      cases rows with
      | nil => exact absurd rfl hne
      | cons r0 rs =>
        have hcall := clM_cons (w := w3a) rfl r0 rs (by simpa [headOk] using hq.1) S (by have := hq.2; simp at this; omega)
        exact lim_sound cfgOk3a hcall G W vs hW hv
    · simp at hc
  · simp at hc

def ext3 (f : FuncId) : Option XT := if f = 86 then some (.push cloneM) else if f = 87 then some (.val joinE) else if f = 77 then some (.push cloneE) else none
def w3 : Ways := ⟨mode1, ext3, fun f r => f == 86 || f == 50, fun t => t == 29⟩
theorem std3 : Std w3 := by constructor <;> first | rfl | (exact fun f r h h' => by simp [w3, h, h']) | (constructor <;> rfl)
theorem cfgOk3 : CfgOk Try.prog (cfg w3) where
  ty := fun t i h => by rw [cfgP_ty] at h; exact h
  fn := fun f g h => cfgP_fn h
  mixed := by kernel_rfl
  eqt := fun t xs h hf => by
    have : t = 29 := by simpa [cfgP_eqt, w3] using h
    subst this
    exact eq29 hf
  ext := fun f F h => by
    rw [cfgP_ext] at h
    have h' : ext3 f = some F := h
    unfold ext3 at h'
    split at h'
    · rename_i hf
      simp only [Option.some.injEq] at h'
      subst h' hf
      exact ext_cloneM
    · split at h'
      · rename_i hf
        simp only [Option.some.injEq] at h'
        subst h' hf
        exact ext_join
      · split at h'
        · rename_i hf
          simp only [Option.some.injEq] at h'
          subst h' hf
          exact ext_clone clone77_nils clone77_emp
        · simp at h'

theorem aw49 : ((run (cfg w3) 60).call 49 [] St.nil).map Prod.fst = some (.bool true) := by kernel_rfl
theorem awake14_ok : PC (cfg w3) 49 [] (.bool true) := by
  have h := aw49
  simp only [Option.map_eq_some_iff] at h
  obtain ⟨⟨r, S⟩, h1, h2⟩ := h
  refine PC_of (args' := []) std3.e49 std3.m49 rfl ⟨r, S, lim_of_run h1, ?_⟩
  simp only at h2
  subst h2
  exact FZ_bool
end Go.Am.B
