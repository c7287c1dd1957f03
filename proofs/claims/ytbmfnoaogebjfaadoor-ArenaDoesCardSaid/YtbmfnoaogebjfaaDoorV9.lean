/- A FIT ARENA, AS THE ARENAS THAT ARE MADE. -/
import Derived.Test.YtbmfnoaogebjfaaDoorV8
set_option linter.unusedSimpArgs false
set_option linter.unusedVariables false
namespace Go.Am.R
open Classical

theorem RChain.end_ok {S : List RSl} {o : Int} {l : List Nat} (h : RChain S o l) : o = -1 ∨ 0 ≤ o := by
  cases h with
  | nil => exact .inl rfl
  | cons _ _ _ => exact .inr (by omega)
theorem RChain.next_ok {S : List RSl} {o : Int} {l : List Nat} (h : RChain S o l) : ∀ i ∈ l, ∃ s, S[i]? = some s ∧ ¬ s.refs > 0 ∧ (s.next = -1 ∨ 0 ≤ s.next) := by
  induction h with
  | nil => simp
  | @cons i s l h h0 hc ih =>
    intro j hj
    rcases List.mem_cons.1 hj with rfl | hj
    · exact ⟨s, h, h0, hc.end_ok⟩
    · exact ih j hj
def optN (o : Int) : Option Nat := if o = -1 then none else some o.toNat
theorem optI_optN {o : Int} (h : o = -1 ∨ 0 ≤ o) : optI (optN o) = o := by
  rcases h with rfl | h
  · rfl
  · rw [optN, if_neg (by omega)]
    show ((o.toNat : Nat) : Int) = o
    omega
theorem RChain.chain {A : RAr} {o : Int} {l : List Nat} (h : RChain A.slots o l) : Chain A.sl (optN o) l := by
  induction h with
  | nil => exact .nil
  | @cons i s l h h0 hc ih =>
    have : optN (i : Int) = some i := by rw [optN, if_neg (by omega), Int.toNat_natCast]
    rw [this]
    exact .cons (get_sl h) ih
theorem rzc_ge {S : List RSl} {l : List Nat} (hnd : l.Nodup) (hm : ∀ i ∈ l, ∃ s, S[i]? = some s ∧ s.refs = 0) : l.length ≤ rzc S := by
  have e : ∀ (S : List RSl) (o : Nat), S.countP (fun s => decide (s.refs = 0)) = ((List.range' o S.length).filter fun i => match S[i - o]? with | some s => decide (s.refs = 0) | none => false).length := by
    intro S
    induction S with
    | nil => intro o; rfl
    | cons s S ih =>
      intro o
      rw [List.countP_cons, ih (o + 1), List.length_cons, List.range'_succ, List.filter_cons]
      have hc : ((List.range' (o + 1) S.length).filter fun i => match S[i - (o + 1)]? with | some s => decide (s.refs = 0) | none => false) = ((List.range' (o + 1) S.length).filter fun i => match (s :: S)[i - o]? with | some s => decide (s.refs = 0) | none => false) := by
        refine List.filter_congr fun i hi => ?_
        rw [List.mem_range'_1] at hi
        have : i - o = (i - (o + 1)) + 1 := by omega
        rw [this, List.getElem?_cons_succ]
      rw [hc]
      simp only [Nat.sub_self, List.getElem?_cons_zero]
      by_cases h : s.refs = 0
      · simp [h]
      · simp [h]
  rw [rzc, e S 0]
  refine nodup_len _ _ hnd fun i hi => ?_
  obtain ⟨s, h1, h2⟩ := hm i hi
  rw [List.mem_filter]
  refine ⟨?_, by rw [Nat.sub_zero, h1]; simpa using h2⟩
  rw [List.mem_range'_1]
  have := (List.getElem?_eq_some_iff.1 h1).1
  omega
def RAr.ar (A : RAr) : Ar := ⟨A.sl, optN A.free, A.ro⟩
theorem nk_inj : ∀ {l m : List Int}, (∀ q ∈ l, 0 ≤ q) → (∀ q ∈ m, 0 ≤ q) → l.map Int.toNat = m.map Int.toNat → l = m
  | [], [], _, _, _ => rfl
  | [], _ :: _, _, _, h => by simp at h
  | _ :: _, [], _, _, h => by simp at h
  | a :: l, b :: m, hl, hm, h => by
    simp only [List.map_cons, List.cons.injEq] at h
    have h1 := hl a (by simp)
    have h2 := hm b (by simp)
    rw [show a = b by omega, nk_inj (fun q hq => hl q (by simp [hq])) (fun q hq => hm q (by simp [hq])) h.2]
theorem FitP.row {A : RAr} (h : FitP A) {i : Nat} {s : RSl} (hs : A.slots[i]? = some s) : slCan s.sl = s.row := by
  obtain ⟨h1, h2, h3⟩ := h.plain.slot i s hs
  have hn : s.next = -1 ∨ 0 ≤ s.next := by
    by_cases h0 : s.refs = 0
    · obtain ⟨l, c1, c2, c3⟩ := h.free
      have hi : i ∈ l := by
        refine Decidable.byContradiction fun hni => ?_
        have := rzc_ge (S := A.slots) (l := i :: l) (List.nodup_cons.2 ⟨hni, c2⟩) fun j hj => by
          rcases List.mem_cons.1 hj with rfl | hj
          · exact ⟨s, hs, h0⟩
          · obtain ⟨t, a1, a2, _⟩ := c1.next_ok j hj
            have := (h.plain.slot j t a1).1.refs
            exact ⟨t, a1, by omega⟩
        rw [c3, List.length_cons] at this
        omega
      obtain ⟨t, a1, _, a3⟩ := c1.next_ok i hi
      rw [hs] at a1; cases a1; exact a3
    · have := h1.refs
      exact .inl (h1.next (by omega))
  have hk : ints s.kids = ks (s.kids.map Int.toNat) := ints_nk fun q hq => (h2 q hq).1
  have hr := h1.refs
  have hmx : max s.refs 0 = s.refs := by omega
  have ho : optI (if s.next = -1 then none else some s.next.toNat) = s.next := optI_optN hn
  have hc : s.node.cells = [.str s.node.kind, .bool s.node.named, .str s.node.field, .int .i64 s.node.frm, .int .i64 s.node.to, .int .i64 s.node.bad, .vec []] := by
    rw [Node.cells_eq, h1.leaf]; rfl
  rw [RSl.row, hc, hk]
  simp only [slCan, slC, RSl.sl, fsOf, hmx, ho, List.cons_append, List.nil_append]
theorem FitP.av {A : RAr} (h : FitP A) : arV A.ar = A.av := by
  have h1 : A.sl.map slCan = A.slots.map RSl.row := by
    rw [RAr.sl, List.map_map]
    refine List.map_congr_left fun s hs => ?_
    obtain ⟨i, hi⟩ := List.mem_iff_getElem?.1 hs
    exact h.row hi
  have h2 : optI (optN A.free) = A.free := by
    obtain ⟨l, c1, _⟩ := h.free
    exact optI_optN c1.end_ok
  have h3 : ints A.roots = rs A.ro := ints_ro fun r hr => by
    rcases h.plain.root r hr with h | h
    · exact .inl h
    · exact .inr h.1
  rw [arV, arC, RAr.av, RAr.cells, h3]
  simp only [RAr.ar, h1, h2]
theorem FitP.inv {A : RAr} (h : FitP A) : Inv A.ar [] [] where
  apart := fun i j t t' ht ht' h0 h0' hk => by
    obtain ⟨s, hs, rfl⟩ := sl_get ht
    obtain ⟨s', hs', rfl⟩ := sl_get ht'
    obtain ⟨p1, p2, p3⟩ := h.plain.slot i s hs
    obtain ⟨q1, q2, q3⟩ := h.plain.slot j s' hs'
    simp only [RSl.sl, Sl.key, Prod.mk.injEq] at hk h0 h0'
    have hn : s.node = s'.node := (fsOf_inj p1.leaf q1.leaf).1 hk.1
    have hq : s.kids = s'.kids := nk_inj (fun q hq => (p2 q hq).1) (fun q hq => (q2 q hq).1) hk.2
    have r1 := p1.refs
    have r2 := q1.refs
    rcases Nat.lt_trichotomy i j with e | e | e
    · exact absurd ⟨hn.symm, hq.symm⟩ (q3 i s e hs (by omega) (by omega))
    · exact e
    · exact absurd ⟨hn, hq⟩ (p3 j s' e hs' (by omega) (by omega))
  tree := fun i t ht h0 => by
    obtain ⟨s, hs, rfl⟩ := sl_get ht
    have := (h.plain.slot i s hs).1.refs
    have h00 : s.refs ≠ 0 := h0
    have hz := h.size i s.sl ht (show s.refs > 0 by omega)
    exact szG_tree ht h0 (Nat.pos_of_ne_zero hz)
  refs := fun i t ht h0 => by
    obtain ⟨s, hs, rfl⟩ := sl_get ht
    have h1 := (h.plain.slot i s hs).1.refs
    have h2 := h.refs i s.sl ht
    have h3 : s.sl.refs = s.refs := rfl
    show max s.sl.refs 0 = ((cnt A.sl i + rcnt A.ro i + ([] : List Nat).count i : Nat) : Int)
    simp only [List.count_nil, Nat.add_zero]
    omega
  neg := fun i t ht h0 => by
    obtain ⟨s, hs, rfl⟩ := sl_get ht
    have h1 := (h.plain.slot i s hs).1.refs
    have h3 : s.sl.refs = s.refs := rfl
    omega
  zero := fun i t ht h0 => by
    obtain ⟨s, hs, rfl⟩ := sl_get ht
    obtain ⟨h1, h2⟩ := (h.plain.slot i s hs).1.zero h0
    have h3 : s.sl.refs = 0 := h0
    have h4 : s.refs = 0 := h0
    simp only [RSl.sl, zs, h1, h2, h4]
    rfl
  next := fun i t ht h0 => by
    obtain ⟨s, hs, rfl⟩ := sl_get ht
    have h1 := (h.plain.slot i s hs).1
    have h2 := h1.refs
    have h3 : s.refs ≠ 0 := h0
    simp only [RSl.sl, h1.next (by omega), if_true]
  free := by
    obtain ⟨l, c1, c2, c3⟩ := h.free
    refine ⟨l, c1.chain, c2, fun i => ⟨fun hi => ?_, fun ⟨t, ht, h0⟩ => ?_⟩⟩
    · obtain ⟨s, a1, a2, _⟩ := c1.next_ok i hi
      have := (h.plain.slot i s a1).1.refs
      exact ⟨s.sl, get_sl a1, by show s.refs = 0; omega⟩
    · obtain ⟨s, hs, rfl⟩ := sl_get ht
      refine Decidable.byContradiction fun hni => ?_
      have := rzc_ge (S := A.slots) (l := i :: l) (List.nodup_cons.2 ⟨hni, c2⟩) fun j hj => by
        rcases List.mem_cons.1 hj with rfl | hj
        · exact ⟨s, hs, h0⟩
        · obtain ⟨t, a1, a2, _⟩ := c1.next_ok j hj
          have := (h.plain.slot j t a1).1.refs
          exact ⟨t, a1, by omega⟩
      rw [c3, List.length_cons] at this
      omega
  root := fun i hi => by
    simp only [RAr.ar, RAr.ro, List.mem_map] at hi
    obtain ⟨x, hx, hxr⟩ := hi
    rcases h.plain.root x hx with rfl | ⟨h1, s', h2, h3⟩
    · simp at hxr
    · split at hxr
      · cases hxr
      · cases hxr
        exact ⟨s'.sl, get_sl h2, h3⟩
  more := fun i hi => by cases hi
  len := by
    show A.sl.length ≤ 4096
    rw [RAr.sl, List.length_map]
    exact h.plain.sl
/-- .. of few parts. -/
theorem FitP.few {A : RAr} (h : FitP A) (hl : 0 ≤ lightL A.slots (4000 - A.roots.length)) : A.slots.length ≤ 4000 ∧ A.roots.length ≤ 4000 ∧ RB 20000000 A.ar.slots ∧ KL' A.ar.slots := by
  obtain ⟨h1, h2⟩ := lightL_ok _ _ hl
  have hr : A.roots.length ≤ 4000 := by omega
  have hk : ∀ t ∈ A.sl, t.kids.length ≤ 4000 := fun t ht => by
    simp only [RAr.sl, List.mem_map] at ht
    obtain ⟨s, hs, rfl⟩ := ht
    have := (h2 s hs).1
    simp only [RSl.sl, List.length_map]
    omega
  refine ⟨by omega, hr, fun i t ht => ?_, fun i t ht => ?_⟩
  · have h3 := h.refs i t ht
    have h4 := cnt_le hk i
    have h5 : A.sl.length * 4000 ≤ 4000 * 4000 := Nat.mul_le_mul_right _ (by rw [RAr.sl, List.length_map]; omega)
    have h6 : rcnt A.ro i ≤ A.ro.length := List.count_le_length
    have h7 : A.ro.length = A.roots.length := List.length_map _
    omega
  · have := hk t (List.mem_of_getElem? ht)
    omega
end Go.Am.R
