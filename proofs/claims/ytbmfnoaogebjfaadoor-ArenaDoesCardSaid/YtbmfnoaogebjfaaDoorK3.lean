/- keyOf TAKEN AS GIVEN. -/
import Derived.Test.YtbmfnoaogebjfaaDoorK2
import Derived.Test.YtbmfnoaogebjfaaDoorT4
import Derived.ProofKit
set_option linter.unusedVariables false
set_option linter.unusedSimpArgs false
namespace Go.Am.R
open Go.Proofs Go.RowKit

/-- The pinned blocks are in w. -/
def PinW [Pin] (w : World) : Prop := ∀ b x, Pin.pin b x → w.heap[b]? = some x

/-- What the package variable holds. -/
structure VarsOk [Pin] : Prop where
  tab : ∀ w, PinW w → Lib.TabIs Tryd.prog w "internal/strconv.uint64pow10" .u64 Lib.pow10Tab

theorem ext_of [Pin] {P : Program} {f : FuncId} {F : List AV → Option AV} (he : ∀ args w, (callFunc f args).run P w = .ok (.enter f args) w)
    (h : ∀ args r, F args = some r → ∀ (G : Gh) (w : World) (vs : Array Value), PinW w → RepL G w args vs.toList → Calls P f vs w fun e w' => Below w.heap.size w w' ∧ ∃ u, e = .returned u ∧ ∀ (G : Gh) (w : World), Rep G w r u) : ExtOk P f (.val F) := by
  intro G S S' W args vs r hr hW hv
  simp only [XT.run, Option.map_eq_some_iff, Prod.mk.injEq] at hr
  obtain ⟨v, hF, rfl, rfl⟩ := hr
  refine ⟨he _ _, (h args v hF G W vs (fun b x hx => (hW.pin b x hx).1) hv).mono fun e w' ⟨hb, u, hu, hrep⟩ => ?_⟩
  have hlaid : Laid W w' := ⟨hb.size, hb.os, hb.tape, hb.output, fun k hk => hb.block k hk⟩
  obtain ⟨g1, g2⟩ := im_step hW hlaid (fun _ _ => False) (fun _ _ h => h.elim)
  exact ⟨_, u, hu, g1, g2, hrep _ _⟩

theorem kidsT_some : ∀ {rows : Rows} {t : List UInt8}, kidsT rows = some t → ∃ l : List Nat, rows = ks l ∧ t = ktxt l ∧ ∀ k ∈ l, k < 1000000000000
  | [], t, h => by simp [kidsT] at h; subst h; exact ⟨[], rfl, rfl, by simp⟩
  | r :: rs, t, h => by
    unfold kidsT at h
    split at h
    · rename_i h1; cases h1
    · rename_i k rs' h1
      obtain ⟨rfl, rfl⟩ := List.cons.inj h1
      split at h
      · rename_i hk
        simp only [Option.map_eq_some_iff] at h
        obtain ⟨t', h2, rfl⟩ := h
        obtain ⟨l, rfl, rfl, h3⟩ := kidsT_some h2
        refine ⟨k.toNat :: l, ?_, rfl, fun x hx => ?_⟩
        · have : ((k.toNat : Nat) : Int) = k := by omega
          simp [ks, this]
        · rcases List.mem_cons.1 hx with rfl | hx
          · omega
          · exact h3 x hx
      · cases h
    · cases h

theorem ext_key [Pin] (hv : VarsOk) : ExtOk Tryd.prog 46 (.val keyF) := by
  refine ext_of (enters_of Tryd.func46 (by kernel_rfl) rfl) fun args r hr G w vs hp hvs => ?_
  unfold keyF at hr
  split at hr
  · rename_i x
    split at hr
    · rename_i k nm f a b d rows q1 q2 hn
      split at hr
      · rename_i hlen
        simp only [Option.map_eq_some_iff] at hr
        obtain ⟨t, ht, rfl⟩ := hr
        obtain ⟨l, rfl, rfl, hl⟩ := kidsT_some ht
        rw [ks_len] at hlen
        obtain ⟨v, l0, hvl, hrv, hl0⟩ := hvs.uncons
        obtain rfl := hl0.nil_inv
        have hvs' := arr_eq hvl
        subst hvs'
        have hrn := rep_nrm hrv hn (G' := G) (w' := w) (fun _ _ _ h => h)
        obtain ⟨cs, rfl, hcs, _⟩ := rep_agg_inv hrn
        obtain ⟨v0, l1, e0, g0, hcs⟩ := hcs.uncons
        obtain ⟨v1, l2, rfl, g1, hcs⟩ := hcs.uncons
        obtain ⟨v2, l3, rfl, g2, hcs⟩ := hcs.uncons
        obtain ⟨v3, l4, rfl, g3, hcs⟩ := hcs.uncons
        obtain ⟨v4, l5, rfl, g4, hcs⟩ := hcs.uncons
        obtain ⟨v5, l6, rfl, g5, hcs⟩ := hcs.uncons
        obtain ⟨v6, l7, rfl, g6, hcs⟩ := hcs.uncons
        obtain ⟨v7, l8, rfl, g7, hcs⟩ := hcs.uncons
        obtain ⟨v8, l9, rfl, g8, hcs⟩ := hcs.uncons
        obtain ⟨v9, l10, rfl, g9, hcs⟩ := hcs.uncons
        obtain rfl := hcs.nil_inv
        have e0 := arr_eq e0
        subst e0
        obtain rfl := rep_str g0
        obtain rfl := rep_bool g1
        obtain rfl := rep_str g2
        obtain rfl := rep_int g3
        obtain rfl := rep_int g4
        obtain rfl := rep_int g5
        obtain rfl := rep_int g8
        obtain rfl := rep_int g9
        obtain ⟨a6, c6, rfl, _, _, _⟩ := rep_rows_inv g6 (.inl ⟨_, rfl, rfl⟩)
        obtain ⟨a7, c7, rfl, _, _, h7⟩ := rep_rows_inv g7 (.inl ⟨_, rfl, rfl⟩)
        rw [ks_len]
        refine (key_walk w (hv.tab w hp) ⟨k.toArray⟩ ⟨f.toArray⟩ nm a b d q1 q2 a6 c6 l hlen hl a7 c7 ?_).mono fun e w' ⟨he, hb⟩ => ?_
        · intro i n hi
          rcases h7 with h7 | ⟨bb, o, es, rfl, hes, hat⟩
          · have : l.length = 0 := by rw [← ks_len, h7]; rfl
            rw [List.getElem?_eq_none (by omega)] at hi
            cases hi
          · refine ⟨bb, o, rfl, ?_⟩
            have hr0 : (ks l)[i]? = some [.int .i64 (n : Int)] := by simp [ks, hi]
            have h1 := hes i _ hr0
            obtain rfl : es = 1 := h1.symm
            obtain ⟨_, u, ⟨_, hu⟩, hr⟩ := hat i _ 0 _ hr0 rfl
            rw [rep_int hr] at hu
            simpa using hu
        · subst he
          exact ⟨hb, _, rfl, fun G w => rep_agg.2 ⟨.cons (.str _) (.cons (.str _) (.cons (.bool _) (.cons (.int _ _) (.cons (.int _ _) (.cons (.int _ _) (.cons (.str _) (.nil _ _))))))), fun j x hx => by
            have hj : j < 7 := (List.getElem?_eq_some_iff.1 hx).1
            obtain rfl | rfl | rfl | rfl | rfl | rfl | rfl : j = 0 ∨ j = 1 ∨ j = 2 ∨ j = 3 ∨ j = 4 ∨ j = 5 ∨ j = 6 := by omega
            all_goals (simp at hx; subst hx; rfl)⟩⟩
      · cases hr
    · cases hr
  · cases hr
end Go.Am.R
