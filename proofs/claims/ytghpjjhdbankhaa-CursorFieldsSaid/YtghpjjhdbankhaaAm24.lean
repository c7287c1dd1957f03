/- THE ABSTRACT MACHINE, TWENTY-FIFTH FILE: operations that turn memory do the same in every memory that is the same where they look. -/
import Derived.Test.YtghpjjhdbankhaaAm23
set_option linter.unusedSimpArgs false
set_option linter.unusedVariables false
namespace Go.Am
open Go.RowKit
variable {P : Program} {c : Cfg}

/-- C is S as far as a footprint goes. -/
structure Near (ft : Foot) (S C : St) : Prop where
  lenS : S.h.length = S.n
  len : C.h.length = C.n
  base : C.base = S.base
  F : ∀ o, ft.F.has o → C.get o = S.get o
  T : ∀ o, ft.T.has o → C.get o = S.get o
  N : ft.N = true → C.n = S.n

theorem Near.big {S C : St} (h : Near .big S C) : C = S := St.ext_get h.lenS h.len (h.N rfl) h.base fun o => h.F o trivial

def Does (c : Cfg) (R : Rec) (fid rid : Nat) (tm : List AV) (o : Oper) (S S1 C : St) (v : AV) : Prop :=
  ∃ C1, aeff c R fid rid tm o C = some (v, C1) ∧ wfoot c tm o C = wfoot c tm o S ∧ Alike (wfoot c tm o S) S S1 C C1

theorem does_refl {R : Rec} {fid rid : Nat} {tm : List AV} {o : Oper} {S S1 C : St} {v : AV} (h : aeff c R fid rid tm o S = some (v, S1)) (hw : wfoot c tm o S = .big) (hn : Near (wfoot c tm o S) S C) (hl : S1.h.length = S1.n) (hb : S1.base = S.base) : Does c R fid rid tm o S S1 C v := by
  rw [hw] at hn
  obtain rfl := hn.big
  exact ⟨S1, h, rfl, by rw [hw]; exact ⟨hl, hl, hb, hb, fun _ _ => rfl, fun o ho => absurd trivial ho, fun _ => rfl, fun e => by simp [Foot.big] at e⟩⟩

theorem store_local {S C S1 : St} {i : Ty} {p v : AV} (h : S.store i p v = some S1) (hS : S.h.length = S.n) (hC : C.h.length = C.n) (hb : C.base = S.base) (hat : SameAt C S (refs p)) :
    ∃ C1, C.store i p v = some C1 ∧ Alike ⟨.ids (refs p), .ids (refs p), false⟩ S S1 C C1 := by
  unfold St.store at h ⊢
  split at h
  · rename_i hq
    rw [if_pos hq]
    split at h
    · rename_i o off
      have ho : C.get o = S.get o := hat o (by simp [refs])
      simp only [ho]
      split at h
      · rename_i cs hg
        split at h
        · rename_i hle
          obtain ⟨hbase, rfl⟩ := St.putO_some h
          rw [if_pos hle]
          refine ⟨C.set o (.row (splice cs off v.cells) false), by simp [St.putO, hb, hbase], ?_⟩
          exact alike_set hS hC hg (ho.trans hg) _
        · simp at h
      · simp at h
    · rename_i o g r off
      have ho : C.get o = S.get o := hat o (by simp [refs])
      simp only [ho]
      split at h
      · rename_i g' es rows exp hg
        simp only [Option.bind_eq_some_iff] at h
        obtain ⟨cs, hcs, h⟩ := h
        simp only [hcs, Option.bind_some]
        split at h
        · rename_i hle
          obtain ⟨hbase, rfl⟩ := St.putO_some h
          rw [if_pos hle]
          refine ⟨C.set o (.seq g es (rows.set r (splice cs off v.cells)) exp), by simp [St.putO, hb, hbase], ?_⟩
          exact alike_set hS hC hg (ho.trans hg) _
        · simp at h
      · simp at h
    · simp at h
  · simp at h


theorem fresh_local {es : Nat} {mutb : Bool} {rows : Rows} {S C S1 : St} {v : AV} (h : aappend.fresh es mutb rows S = some (v, S1)) (hS : S.h.length = S.n) (hC : C.h.length = C.n) (hn : C.n = S.n) (F : Ft) :
    ∃ C1, aappend.fresh es mutb rows C = some (v, C1) ∧ Alike ⟨F, .ids [S.n], true⟩ S S1 C C1 := by
  unfold aappend.fresh at h ⊢
  split at h
  · rename_i hm
    simp only [Option.some.injEq, Prod.mk.injEq] at h
    obtain ⟨rfl, rfl⟩ := h
    exact ⟨_, by rw [if_pos hm, hn], alike_push hS hC hn F⟩
  · rename_i hm
    simp only [Option.some.injEq, Prod.mk.injEq] at h
    obtain ⟨rfl, rfl⟩ := h
    exact ⟨_, by rw [if_neg hm, hn], alike_push hS hC hn F⟩

theorem aeff_local {R : Rec} {fid rid : Nat} {tm : List AV} {o : Oper} {S S1 C : St} {v : AV} (h : aeff c R fid rid tm o S = some (v, S1)) (hn : Near (wfoot c tm o S) S C) (hl : S1.h.length = S1.n) (hb : S1.base = S.base) : Does c R fid rid tm o S S1 C v := by
  by_cases hw : wfoot c tm o S = .big
  · exact does_refl h hw hn hl hb
  obtain ⟨dst, op, type, pos, after, guard⟩ := o
  cases op with
  | alloc e =>
    have hC := hn.N rfl
    simp only [aeff, Option.bind_eq_some_iff, Option.map_eq_some_iff, Prod.mk.injEq] at h
    obtain ⟨i, hi, z, hz, rfl, rfl⟩ := h
    exact ⟨C.push (.row z false), by simp only [aeff, hi, hz, Option.bind_some, Option.map_some, hC], by simp only [wfoot, hC], alike_push hn.lenS hn.len hC _⟩
  | box t x =>
    have hC := hn.N rfl
    simp only [aeff, Option.bind_eq_some_iff] at h
    obtain ⟨u, hu, h⟩ := h
    split at h
    · rename_i hlf
      simp only [Option.some.injEq, Prod.mk.injEq] at h
      obtain ⟨rfl, rfl⟩ := h
      exact ⟨C.push (.row u.cells false), by simp only [aeff, hu, Option.bind_some, hC]; rw [if_pos hlf], by simp only [wfoot, hC], alike_push hn.lenS hn.len hC _⟩
    · simp at h
  | store t a x =>
    simp only [aeff, Option.bind_eq_some_iff, Option.map_eq_some_iff, Prod.mk.injEq] at h
    obtain ⟨i, hi, p, hp, u, hu, S2, hS, rfl, rfl⟩ := h
    have hr : refsO tm a = refs p := by simp only [refsO, hp]
    have hat : SameAt C S (refs p) := fun o ho => hn.F o (by simp only [wfoot, hr]; exact ho)
    obtain ⟨C1, h1, h2⟩ := store_local hS hn.lenS hn.len hn.base hat
    exact ⟨C1, by simp only [aeff, hi, hp, hu, h1, Option.bind_some, Option.map_some], rfl, by simp only [wfoot, hr]; exact h2⟩
  | makeSlice t l cp =>
    have hC := hn.N rfl
    simp only [aeff] at h
    split at h
    · rename_i e hk
      simp only [Option.bind_eq_some_iff] at h
      obtain ⟨ei, he, z, hz, lv, hlv, cv, hcv, h⟩ := h
      split at h
      · rename_i k n k' m
        split at h
        · rename_i hq
          simp only [Option.some.injEq, Prod.mk.injEq] at h
          obtain ⟨rfl, rfl⟩ := h
          exact ⟨C.push (.seq 0 ei.size (List.replicate n.toNat z) 0), by simp only [aeff, hk, he, hz, hlv, hcv, Option.bind_some, hC]; rw [if_pos hq], by simp only [wfoot, hC], alike_push hn.lenS hn.len hC _⟩
        · simp at h
      · simp at h
    · simp at h
  | slice t x lo hi mx =>
    cases mx with
    | some m => simp [aeff] at h
    | none =>
      simp only [aeff] at h
      split at h
      · rename_i n e hk
        simp only [Option.bind_eq_some_iff] at h
        obtain ⟨ei, he, u, hu, l, hlo, hh, hhi, h⟩ := h
        split at h
        · rename_i ob off
          have ho : C.get ob = S.get ob := hn.F ob (by simp [wfoot, refsO, hu, refs, Ft.has])
          split at h
          · rename_i cs lk hget
            simp only [Option.bind_eq_some_iff] at h
            obtain ⟨h', hb1, l', hb2, h⟩ := h
            split at h
            · rename_i hle
              simp only [Option.map_eq_some_iff, Prod.mk.injEq] at h
              obtain ⟨S2, hp, rfl, rfl⟩ := h
              obtain ⟨hbase, rfl⟩ := St.putO_some hp
              refine ⟨C.set ob (.row cs true), ?_, rfl, ?_⟩
              · simp only [aeff, hk, he, hu, hlo, hhi, Option.bind_some, ho, hget, hb1, hb2]
                rw [if_pos hle]
                simp only [St.putO, hn.base, if_pos hbase, Option.map_some]
              · simp only [wfoot, refsO, hu, refs]
                exact alike_set hn.lenS hn.len hget (ho.trans hget) _
            · simp at h
          · simp at h
        · simp at h
      · simp at h
  | call cl =>
    obtain ⟨callee, args, argTypes⟩ := cl
    cases callee with
    | value f => exact absurd rfl hw
    | builtin b =>
      cases b with
      | append =>
        simp only [aeff] at h
        split at h
        · rename_i x y t u h1 h2
          split at h
          · simp at h
          · simp at h
          · rename_i e hk hn1 hn2
            simp only [Option.bind_eq_some_iff] at h
            obtain ⟨ei, he, xa, hxa, ya, hya, ys, hys, h⟩ := h
            split at h
            · rename_i hq
              have hry : refsO tm y = refs ya := by simp only [refsO, hya]
              -- what is put together from the parts
              have put : ∀ (F : List Nat) (T : List Nat) (N : Bool), (∀ D : St, D.n = S.n ∨ N = false → wfoot c tm ⟨dst, .call ⟨.builtin .append, args, argTypes⟩, type, pos, after, guard⟩ D = ⟨.ids F, .ids T, N⟩) → (∀ o, o ∈ refs ya → o ∈ F) →
                  (∃ C1, aappend ei.size ei.bytes (c.muts fid rid) xa ys C = some (v, C1) ∧ Alike ⟨.ids F, .ids T, N⟩ S S1 C C1) → Does c R fid rid tm ⟨dst, .call ⟨.builtin .append, args, argTypes⟩, type, pos, after, guard⟩ S S1 C v := fun F T N hft hF ⟨C1, q1, q2⟩ => by
                have hfS := hft S (.inl rfl)
                rw [hfS] at hn
                have hrow : appRows C ya = some ys := by
                  rw [← hys]
                  unfold appRows
                  split
                  · rfl
                  · exact rowsOf_same fun o ho => hn.F o (hF o ho)
                refine ⟨C1, ?_, ?_, by rw [hfS]; exact q2⟩
                · simp only [aeff, h1, h2, hk, he, hxa, hya, hrow, Option.bind_some]
                  rw [if_pos hq]
                  exact q1
                · rw [hfS]
                  refine hft C ?_
                  cases hN : N with
                  | false => exact .inr rfl
                  | true => exact .inl (hn.N hN)
              have hw' : ∀ (D : St), wfoot c tm ⟨dst, .call ⟨.builtin .append, args, argTypes⟩, type, pos, after, guard⟩ D = (match xa with
                  | .own _ o _ => ⟨.ids (o :: refsO tm y), .ids [o], false⟩
                  | .sref o _ _ _ => ⟨.ids (o :: refsO tm y), .ids [o], false⟩
                  | .nils => ⟨.ids (D.n :: refsO tm y), .ids [D.n], true⟩
                  | .lit _ => ⟨.ids (D.n :: refsO tm y), .ids [D.n], true⟩
                  | _ => .big) := fun D => by
                simp only [wfoot, h1, hxa]
                cases xa <;> rfl
              cases xa with
              | own rows o g =>
                have hft := hw' S
                simp only at hft
                refine put (o :: refsO tm y) [o] false (fun D _ => hw' D) (fun o' ho => by rw [hry]; exact List.mem_cons_of_mem _ ho) ?_
                rw [hft] at hn
                have ho : C.get o = S.get o := hn.F o (List.mem_cons_self ..)
                unfold aappend at h ⊢
                split at h
                · simp at h
                · rename_i hh
                  rw [if_neg hh]
                  split at h
                  · simp only [Option.some.injEq, Prod.mk.injEq] at h
                    obtain ⟨rfl, rfl⟩ := h
                    exact ⟨C, rfl, Alike.same hn.lenS hn.len hn.T hn.N⟩
                  · simp only at h ⊢
                    split at h
                    · rename_i g' hget
                      split at h
                      · rename_i hq2
                        simp only [Option.some.injEq, Prod.mk.injEq] at h
                        obtain ⟨rfl, rfl⟩ := h
                        refine ⟨C.set o (.tail (g + 1)), ?_, alike_set hn.lenS hn.len hget (ho.trans hget) _⟩
                        simp only [ho, hget, hn.base]
                        rw [if_pos hq2]
                      · simp at h
                    · simp at h
              | sref o g off len =>
                have hft := hw' S
                simp only at hft
                refine put (o :: refsO tm y) [o] false (fun D _ => hw' D) (fun o' ho => by rw [hry]; exact List.mem_cons_of_mem _ ho) ?_
                rw [hft] at hn
                have ho : C.get o = S.get o := hn.F o (List.mem_cons_self ..)
                unfold aappend at h ⊢
                split at h
                · simp at h
                · rename_i hh
                  rw [if_neg hh]
                  split at h
                  · simp only [Option.some.injEq, Prod.mk.injEq] at h
                    obtain ⟨rfl, rfl⟩ := h
                    exact ⟨C, rfl, Alike.same hn.lenS hn.len hn.T hn.N⟩
                  · simp only at h ⊢
                    split at h
                    · rename_i g' es' rows exp hget
                      split at h
                      · rename_i hq2
                        simp only [Option.some.injEq, Prod.mk.injEq] at h
                        obtain ⟨rfl, rfl⟩ := h
                        refine ⟨C.set o (.seq (g + 1) ei.size (rows.drop off ++ ys) (exp - off)), ?_, alike_set hn.lenS hn.len hget (ho.trans hget) _⟩
                        simp only [ho, hget, hn.base]
                        rw [if_pos hq2]
                      · simp at h
                    · simp at h
              | nils =>
                have hft := hw' S
                simp only at hft
                refine put (S.n :: refsO tm y) [S.n] true (fun D hD => by rw [hw' D]; simp only [Bool.true_eq_false, or_false] at hD; simp only [hD]) (fun o' ho => by rw [hry]; exact List.mem_cons_of_mem _ ho) ?_
                rw [hft] at hn
                have hC := hn.N rfl
                unfold aappend at h ⊢
                split at h
                · simp at h
                · rename_i hh
                  rw [if_neg hh]
                  split at h
                  · simp only [Option.some.injEq, Prod.mk.injEq] at h
                    obtain ⟨rfl, rfl⟩ := h
                    exact ⟨C, rfl, Alike.same hn.lenS hn.len hn.T hn.N⟩
                  · simp only at h ⊢
                    split at h
                    · rename_i hq2
                      rw [if_pos hq2]
                      exact fresh_local h hn.lenS hn.len hC _
                    · simp at h
              | lit rows =>
                have hft := hw' S
                simp only at hft
                refine put (S.n :: refsO tm y) [S.n] true (fun D hD => by rw [hw' D]; simp only [Bool.true_eq_false, or_false] at hD; simp only [hD]) (fun o' ho => by rw [hry]; exact List.mem_cons_of_mem _ ho) ?_
                rw [hft] at hn
                have hC := hn.N rfl
                unfold aappend at h ⊢
                split at h
                · simp at h
                · rename_i hh
                  rw [if_neg hh]
                  split at h
                  · simp only [Option.some.injEq, Prod.mk.injEq] at h
                    obtain ⟨rfl, rfl⟩ := h
                    exact ⟨C, rfl, Alike.same hn.lenS hn.len hn.T hn.N⟩
                  · simp only at h ⊢
                    split at h
                    · rename_i hq2
                      rw [if_pos hq2]
                      exact fresh_local h hn.lenS hn.len hC _
                    · simp at h
              | _ => exact absurd (hw' S) hw
            · simp at h
          · simp at h
        · simp at h
      | _ => simp [aeff] at h
    | invoke r m => simp [aeff] at h
  | _ => simp [aeff] at h

end Go.Am
