/- THE ABSTRACT MACHINE, NINTH FILE: addresses, parts, slices of slices, maps read; all operations that yield a value. -/
import Derived.Test.YtghpjjhdbankhaaAm7
set_option linter.unusedSimpArgs false
set_option linter.unusedVariables false
namespace Go.Am
open Go.RowKit
variable {P : Program} {c : Cfg}

theorem kindOf_inv (hc : CfgOk P c) {t : TypeId} {k : TK} (h : kindOf c t = k) (hk : k ≠ .other) : ∃ (d : TypeDesc), P.underlying t = some d ∧ tkOf d = k := by
  unfold kindOf at h
  split at h
  · rename_i i hi
    obtain ⟨_, d, _, h2, h3, _⟩ := ty_inv (hc.ty t i hi)
    exact ⟨d, h2, by rw [← h3]; exact h⟩
  · exact absurd h.symm hk

theorem ty_size (hc : CfgOk P c) {t : TypeId} {i : Ty} (h : c.ty t = some i) (w : World) : (sizeOf t).run P w = .ok i.size w := by
  obtain ⟨info, _, k1, _, _, k4, _⟩ := ty_inv (hc.ty t i h)
  rw [run_size_ty k1, k4]

theorem kind_struct (hc : CfgOk P c) {t : TypeId} {fs : List (TypeId × Nat)} (h : kindOf c t = .struct fs) : ∃ fields : Array Field, P.underlying t = some (.struct fields) ∧ fs = fields.toList.map fun f => (f.type, f.offset) := by
  obtain ⟨d, h2, hk⟩ := kindOf_inv hc h (by simp)
  cases d <;> simp [tkOf] at hk
  exact ⟨_, h2, hk.symm⟩
theorem kind_slice (hc : CfgOk P c) {t e : TypeId} (h : kindOf c t = .slice e) : P.underlying t = some (.slice e) := by
  obtain ⟨d, h2, hk⟩ := kindOf_inv hc h (by simp)
  cases d <;> simp [tkOf] at hk
  rw [h2, hk]
theorem kind_array (hc : CfgOk P c) {t e : TypeId} {n : Nat} (h : kindOf c t = .array n e) : P.underlying t = some (.array n e) := by
  obtain ⟨d, h2, hk⟩ := kindOf_inv hc h (by simp)
  cases d <;> simp [tkOf] at hk
  rw [h2, hk.1, hk.2]
theorem kind_str (hc : CfgOk P c) {t : TypeId} (h : kindOf c t = .str) : P.underlying t = some .string := by
  obtain ⟨d, h2, hk⟩ := kindOf_inv hc h (by simp)
  cases d <;> simp [tkOf] at hk
  rw [h2]
theorem kind_map (hc : CfgOk P c) {t k e : TypeId} (h : kindOf c t = .map k e) : P.underlying t = some (.map k e) := by
  obtain ⟨d, h2, hk⟩ := kindOf_inv hc h (by simp)
  cases d <;> simp [tkOf] at hk
  rw [h2, hk.1, hk.2]
theorem kind_int (hc : CfgOk P c) {t : TypeId} {k : IntKind} (h : kindOf c t = .int k) : P.underlying t = some (.int k) := by
  obtain ⟨d, h2, hk⟩ := kindOf_inv hc h (by simp)
  cases d <;> simp [tkOf] at hk
  rw [h2, hk]
theorem kind_bool (hc : CfgOk P c) {t : TypeId} (h : kindOf c t = .bool) : P.underlying t = some .bool := by
  obtain ⟨d, h2, hk⟩ := kindOf_inv hc h (by simp)
  cases d <;> simp [tkOf] at hk
  rw [h2]

theorem addOff_rep {G : Gh} {w : World} {a r : AV} {k : Nat} {u : Value} (h : addOff a k = some r) (ha : Rep G w a u) : ∃ ad : Addr, u = .pointer (some ad) ∧ Rep G w r (.pointer (some (ad.add k))) := by
  unfold addOff at h
  split at h <;> simp at h <;> subst h
  · cases ha with
    | ptr _ _ b hb => exact ⟨_, rfl, by rw [Addr.add_mid]; exact .ptr _ _ _ hb⟩
  · cases ha with
    | eptr _ _ _ _ s hs => exact ⟨_, rfl, by rw [Addr.add_mid, Nat.add_assoc]; exact .eptr _ _ _ _ s hs⟩
  · cases ha with
    | iptr _ _ b p us hl hcl hr => exact ⟨_, rfl, by rw [Addr.add_mid, Nat.add_assoc]; exact .iptr _ _ b p us hl hcl hr⟩

theorem run_fieldAddr (hc : CfgOk P c) {G : Gh} {w : World} {s : TypeId} {f : Nat} {fs : List (TypeId × Nat)} {q : TypeId × Nat} {fi : Ty} {a r : AV} {u : Value} (hk : kindOf c s = .struct fs) (hq : fs[f]? = some q)
    (hf : c.ty q.1 = some fi) (h0 : fi.size ≠ 0) (h : addOff a q.2 = some r) (ha : Rep G w a u) : ∃ v, (Instr.fieldAt s u f).run P w = .ok v w ∧ Rep G w r v := by
  obtain ⟨fields, h2, rfl⟩ := kind_struct hc hk
  obtain ⟨ad, rfl, hr⟩ := addOff_rep h ha
  rw [List.getElem?_map, Option.map_eq_some_iff] at hq
  obtain ⟨fld, hfld, rfl⟩ := hq
  have hfld' : fields[f]? = some fld := by simpa using hfld
  refine ⟨_, ?_, hr⟩
  simp [Instr.fieldAt, Sem.run_bind, run_underlying h2, hfld', Instr.sureAddr, fieldPlace, ty_size hc hf, h0]

theorem run_field (hc : CfgOk P c) {G : Gh} {w : World} {s : TypeId} {f : Nat} {fs : List (TypeId × Nat)} {q : TypeId × Nat} {fi : Ty} {cs : List AV} {r : AV} {u : Value} (hk : kindOf c s = .struct fs) (hq : fs[f]? = some q)
    (hf : c.ty q.1 = some fi) (h : apart fi cs q.2 = some r) (ha : Rep G w (.agg cs) u) : ∃ v, (Instr.field s u f).run P w = .ok v w ∧ Rep G w r v := by
  obtain ⟨fields, h2, rfl⟩ := kind_struct hc hk
  obtain ⟨vs, rfl, h3, h4⟩ := rep_agg_inv ha
  rw [List.getElem?_map, Option.map_eq_some_iff] at hq
  obtain ⟨fld, hfld, rfl⟩ := hq
  have hfld' : fields[f]? = some fld := by simpa using hfld
  obtain ⟨v, hv, hr⟩ := run_part (hc.ty _ _ hf) h h3 h4
  exact ⟨v, by simp [Instr.field, Sem.run_bind, run_underlying h2, hfld', asAgg, hv], hr⟩

theorem asIdx_rep {G : Gh} {w : World} {i : AV} {n : Int} {u : Value} (h : asIdx i = some n) (hi : Rep G w i u) : ∃ k, u = .int k n := by
  unfold asIdx at h
  split at h
  · simp at h; subst h; cases hi; exact ⟨_, rfl⟩
  · simp at h

theorem rowsOf_cases {S : St} {x : AV} {rows : Rows} (h : S.rowsOf x = some rows) (hs : ∀ o g off len, x ≠ .sref o g off len) :
    (∃ r, x = .vec r ∧ rows = r) ∨ (∃ r, x = .lit r ∧ rows = r) ∨ (∃ r o g, x = .own r o g ∧ rows = r) ∨ (x = .nils ∧ rows = []) ∨ (x = .emp ∧ rows = []) := by
  unfold St.rowsOf at h
  split at h <;> try simp at h
  all_goals try subst h
  · exact .inr (.inr (.inr (.inl ⟨rfl, rfl⟩)))
  · exact .inr (.inr (.inr (.inr ⟨rfl, rfl⟩)))
  · exact .inl ⟨_, rfl, rfl⟩
  · exact .inr (.inl ⟨_, rfl, rfl⟩)
  · exact .inr (.inr (.inl ⟨_, _, _, rfl, rfl⟩))
  · exact absurd rfl (hs _ _ _ _)

theorem run_indexAddr (hc : CfgOk P c) {G : Gh} {S : St} {w : World} {t : TypeId} {x i r : AV} {u v : Value} (hW : Wrel G S w) (h : aindexAddr c S t x i = some r) (hx : Rep G w x u) (hi : Rep G w i v) :
    ∃ q, (Instr.indexAt t u v).run P w = .ok q w ∧ Rep G w r q := by
  unfold aindexAddr at h
  simp only [Option.bind_eq_some_iff] at h
  obtain ⟨n, hn, h⟩ := h
  obtain ⟨k, rfl⟩ := asIdx_rep hn hi
  split at h
  · rename_i len e hk
    have h2 := kind_array hc hk
    simp only [Option.bind_eq_some_iff] at h
    obtain ⟨ei, hei, h⟩ := h
    split at h
    · rename_i hlt
      obtain ⟨ad, rfl, hr⟩ := addOff_rep h hx
      refine ⟨_, ?_, hr⟩
      simp [Instr.indexAt, Sem.run_bind, asIntOf, run_underlying h2, Instr.sureAddr, hlt, ty_size hc hei]
    · simp at h
  · rename_i e hk
    have h2 := kind_slice hc hk
    simp only [Option.bind_eq_some_iff] at h
    obtain ⟨ei, hei, h⟩ := h
    split at h
    · rename_i h0
      split at h
      · rename_i o g off len
        split at h
        · rename_i g' es rows exp hg
          split at h
          · rename_i hq
            obtain ⟨hlt, hes, rfl⟩ := hq
            simp at h
            subst h
            cases hx with
            | sref _ _ _ _ s hs hoff hle =>
              refine ⟨.pointer (some ((⟨s.b, s.st + off * s.es, none⟩ : Addr).add (n.toNat * ei.size))), ?_, ?_⟩
              · simp [Instr.indexAt, Sem.run_bind, asIntOf, run_underlying h2, h0, hlt, ty_size hc hei]
              · have hse : s.es = es := by
                  obtain ⟨s', hs', he, _⟩ := hW.obj o _ hg
                  rw [hW.fseg o _ _ _ hs hs']; exact he
                rw [Addr.add_mid, ← hes, ← hse, show s.st + off * s.es + n.toNat * s.es = s.st + (off + n.toNat) * s.es + 0 by rw [Nat.add_mul]; omega]
                exact .eptr _ _ _ _ s hs
            | sref0 => omega
          · simp at h
        · simp at h
      · rename_i hns
        simp only [Option.bind_eq_some_iff] at h
        obtain ⟨rows, hrows, row, hrow, h⟩ := h
        split at h
        · rename_i hsz
          simp at h
          subst h
          obtain ⟨a, cap, rfl, hcap, _, hr⟩ := rep_rows_inv hx (rowsOf_cases hrows (fun o g off len e => hns o g off len e))
          have hlt : n.toNat < rows.length := (List.getElem?_eq_some_iff.1 hrow).1
          rcases hr with hr | ⟨b, p, es, rfl, hat⟩
          · rw [hr] at hlt; simp at hlt
          · refine ⟨.pointer (some ((⟨b, p, none⟩ : Addr).add (n.toNat * ei.size))), ?_, ?_⟩
            · have hlt' : n < (rows.length : Int) := by omega
              simp [Instr.indexAt, Sem.run_bind, asIntOf, run_underlying h2, h0, hlt', ty_size hc hei]
            · have hes : ei.size = es := by rw [← hsz]; exact hat.len _ _ hrow
              rw [hes]
              obtain ⟨us, k1, k2⟩ := rowsAt_us hat
              rw [Addr.add_mid]
              exact .iptr row 0 b (p + n.toNat * es) (us n.toNat) (fun j x hj => (hat.cell _ _ _ _ hrow hj).1) (fun j x hj => k1 _ _ _ _ hrow hj) (fun j x hj => k2 _ _ _ _ hrow hj)
        · simp at h
    · simp at h
  · simp at h


theorem bnd_none {dflt top h : Nat} (hb : bnd none dflt top = some h) : h = dflt := by simp [bnd] at hb; exact hb.symm
theorem bnd_some {G : Gh} {w : World} {x : AV} {u : Value} {dflt top h : Nat} (hb : bnd (some x) dflt top = some h) (hx : Rep G w x u) : h ≤ top ∧ ∀ code, (Instr.sliceBound u top code).run P w = .ok h w := by
  unfold bnd at hb
  split at hb
  · simp at *
  · rename_i e
    cases e
    split at hb
    · rename_i hr
      simp at hb
      subst hb
      cases hx
      exact ⟨by omega, fun code => by simp [Instr.sliceBound, Sem.run_bind, asIntOf, hr]⟩
    · simp at hb
  · simp at hb

/-- The optional operands of a slice expression. -/
def RepO (G : Gh) (w : World) : Option AV → Option Value → Prop
  | none, none => True
  | some x, some v => Rep G w x v
  | _, _ => False

theorem evalO_rep {G : Gh} {w : World} {tm : List AV} {a : Act} {x : Option Operand} {v : Option AV} (ht : RepL G w tm a.tmps.toList) (h : evalO tm x = some v) : RepO G w v (x.map a.eval) := by
  cases x with
  | none => simp [evalO] at h; subst h; trivial
  | some y =>
    simp only [evalO, Option.map_eq_some_iff] at h
    obtain ⟨z, hz, rfl⟩ := h
    exact evalT_rep ht hz

theorem run_bounds {G : Gh} {w : World} {lo hi : Option AV} {vlo vhi : Option Value} {isS : Bool} {len cap : Nat} {h l : Nat} (hle : len ≤ cap) (h1 : bnd hi len len = some h) (h2 : bnd lo 0 h = some l) (rl : RepO G w lo vlo) (rh : RepO G w hi vhi) :
    (∀ {α : Type} (f : Nat × Nat × Nat → Sem α), (Instr.sliceBounds isS len cap vlo vhi none >>= f).run P w = (f (l, h, cap)).run P w) ∧ l ≤ h ∧ h ≤ len := by
  have hh : h ≤ len ∧ (match vhi with | some v => ∀ code, (Instr.sliceBound v cap code).run P w = .ok h w | none => h = len) := by
    cases hi with
    | none =>
      cases vhi with
      | none => have := bnd_none h1; exact ⟨by omega, this⟩
      | some v => exact rh.elim
    | some x =>
      cases vhi with
      | none => exact rh.elim
      | some v =>
        obtain ⟨hle', _⟩ := bnd_some (P := P) h1 rh
        refine ⟨hle', ?_⟩
        have h1' : bnd (some x) len cap = some h := by
          unfold bnd at h1 ⊢
          cases x <;> simp at h1 ⊢
          obtain ⟨k1, k2⟩ := h1
          exact ⟨by omega, k2⟩
        exact (bnd_some (P := P) h1' rh).2
  have hl : l ≤ h ∧ (match vlo with | some v => ∀ code, (Instr.sliceBound v h code).run P w = .ok l w | none => l = 0) := by
    cases lo with
    | none =>
      cases vlo with
      | none => have := bnd_none h2; exact ⟨by omega, this⟩
      | some v => exact rl.elim
    | some x =>
      cases vlo with
      | none => exact rl.elim
      | some v => exact bnd_some (P := P) h2 rl
  refine ⟨fun f => ?_, hl.1, hh.1⟩
  obtain ⟨_, hh⟩ := hh
  obtain ⟨_, hl⟩ := hl
  cases vhi with
  | none =>
    simp only at hh
    subst hh
    cases vlo with
    | none => simp only at hl; subst hl; simp [Instr.sliceBounds, Sem.run_bind]
    | some v => simp [Instr.sliceBounds, Sem.run_bind, hl]
  | some v =>
    cases vlo with
    | none => simp only at hl; subst hl; simp [Instr.sliceBounds, Sem.run_bind, hh]
    | some v' => simp [Instr.sliceBounds, Sem.run_bind, hh, hl]

theorem headOk_len {es es' : Nat} {rows : Rows} (h : headOk es rows = true) (hl : ∀ (i : Nat) (r : List AV), rows[i]? = some r → r.length = es') : rows = [] ∨ es = es' := by
  cases rows with
  | nil => exact .inl rfl
  | cons r rs =>
    simp [headOk] at h
    exact .inr (by rw [← h]; exact hl 0 r rfl)

theorem RowsAt.cut {G : Gh} {w : World} {b p es : Nat} {rows : Rows} (h : RowsAt G w b p es rows) (l n : Nat) : RowsAt G w b (p + l * es) es ((rows.drop l).take n) := by
  have key : ∀ (i : Nat) (r : List AV), ((rows.drop l).take n)[i]? = some r → rows[l + i]? = some r := fun i r hi => by
    rw [List.getElem?_take] at hi
    split at hi
    · rw [List.getElem?_drop] at hi; exact hi
    · simp at hi
  refine ⟨fun i r hi => h.len _ _ (key i r hi), fun i r j x hi hj => ?_⟩
  obtain ⟨h1, u, h2, h3⟩ := h.cell _ r j x (key i r hi) hj
  exact ⟨h1, u, by rw [show p + l * es + i * es + j = p + (l + i) * es + j by rw [Nat.add_mul]; omega]; exact h2, h3⟩

theorem run_slice (hc : CfgOk P c) {G : Gh} {S : St} {w : World} {t e : TypeId} {ei : Ty} {x r : AV} {lo hi : Option AV} {u : Value} {vlo vhi : Option Value} (hW : Wrel G S w) (hk : kindOf c t = .slice e) (he : c.ty e = some ei)
    (h : asliceV S ei.size x lo hi = some r) (hx : Rep G w x u) (rl : RepO G w lo vlo) (rh : RepO G w hi vhi) : ∃ q, (Instr.sliceAt t u vlo vhi none).run P w = .ok q w ∧ Rep G w r q := by
  have h2 := kind_slice hc hk
  have cut : ∀ {rows : Rows} {r : AV}, acut ei.size rows lo hi = some r → (∃ a cap, u = .slice a rows.length cap ∧ rows.length ≤ cap ∧ (a = none → cap = 0) ∧ (rows = [] ∨ ∃ b p es, a = some ⟨b, p, none⟩ ∧ RowsAt G w b p es rows)) →
      ∃ q, (Instr.sliceAt t u vlo vhi none).run P w = .ok q w ∧ Rep G w r q := by
    rintro rows r h ⟨a, cap, rfl, hcap, hnone, hr⟩
    unfold acut at h
    split at h
    case isFalse => simp at h
    rename_i hhead
    simp only [Option.bind_eq_some_iff, Option.map_eq_some_iff] at h
    obtain ⟨hh, h1, l, h3, rfl⟩ := h
    obtain ⟨hb, hlh, hhl⟩ := run_bounds (P := P) (isS := true) hcap h1 h3 rl rh
    refine ⟨.slice (if cap = l then a else a.map (·.add (l * ei.size))) (hh - l) (cap - l), ?_, ?_⟩
    · simp [Instr.sliceAt, Instr.slice, Sem.run_bind, run_underlying h2]
      have := hb (fun q => do let size ← sizeOf e; pure (Value.slice (if q.2.2 = q.1 then a else Option.map (fun x => x.add (q.1 * size)) a) (q.2.1 - q.1) (q.2.2 - q.1)))
      simpa [Sem.run_bind, ty_size hc he] using this
    · rcases Nat.eq_zero_or_pos (hh - l) with h0 | hpos
      · rw [h0, List.take_zero]
        refine .vec0 _ _ (fun hn => ?_)
        split at hn
        · rw [hnone hn]; simp
        · rw [Option.map_eq_none_iff] at hn
          rw [hnone hn]; simp
      · have hlen : ((rows.drop l).take (hh - l)).length = hh - l := by simp; omega
        rcases hr with rfl | ⟨b, p, es, rfl, hat⟩
        · simp at hhl; omega
        · rcases headOk_len hhead hat.len with h' | h'
          · rw [h'] at hhl; simp at hhl; omega
          · rw [h', if_neg (by omega)]
            have := rep_vec (hat.cut l (hh - l)) (cap := cap - l) (by rw [hlen]; omega)
            rw [hlen] at this
            simpa [Addr.add_mid] using this
  unfold asliceV at h
  split at h
  · simp only [Option.bind_eq_some_iff, Option.map_eq_some_iff] at h
    obtain ⟨hh, h1, l, h3, rfl⟩ := h
    cases hx
    obtain ⟨hb, hlh, hhl⟩ := run_bounds (P := P) (isS := true) (Nat.le_refl 0) h1 h3 rl rh
    have : hh = 0 := by omega
    have : l = 0 := by omega
    subst hh l
    refine ⟨.slice none 0 0, ?_, .nils⟩
    simp [Instr.sliceAt, Instr.slice, Sem.run_bind, run_underlying h2]
    have := hb (fun q => do let size ← sizeOf e; pure (Value.slice (if q.2.2 = q.1 then none else none) (q.2.1 - q.1) (q.2.2 - q.1)))
    simpa [Sem.run_bind, ty_size hc he] using this
  · exact cut h (rep_rows_inv hx (.inl ⟨_, rfl, rfl⟩))
  · exact cut h (rep_rows_inv hx (.inr (.inl ⟨_, rfl, rfl⟩)))
  · exact cut h (rep_rows_inv hx (.inr (.inr (.inl ⟨_, _, _, rfl, rfl⟩))))
  · rename_i o g off len
    split at h
    · rename_i g' es' rows exp hg
      split at h
      · rename_i hq
        obtain ⟨hes, rfl⟩ := hq
        simp only [Option.bind_eq_some_iff, Option.map_eq_some_iff] at h
        obtain ⟨hh, h1, l, h3, rfl⟩ := h
        cases hx with
        | sref _ _ _ _ s hs hoff hle =>
          obtain ⟨hb, hlh, hhl⟩ := run_bounds (P := P) (isS := true) (cap := s.cp - off) (by omega) h1 h3 rl rh
          obtain ⟨hse, _⟩ := hW.seq hg hs
          refine ⟨.slice (if s.cp - off = l then some ⟨s.b, s.st + off * s.es, none⟩ else some (Addr.add ⟨s.b, s.st + off * s.es, none⟩ (l * ei.size))) (hh - l) (s.cp - off - l), ?_, ?_⟩
          · simp [Instr.sliceAt, Instr.slice, Sem.run_bind, run_underlying h2]
            have := hb (fun q => do let size ← sizeOf e; pure (Value.slice (if q.2.2 = q.1 then (some ⟨s.b, s.st + off * s.es, none⟩ : Option Addr) else (some ⟨s.b, s.st + off * s.es, none⟩ : Option Addr).map (fun x => x.add (q.1 * size))) (q.2.1 - q.1) (q.2.2 - q.1)))
            simpa [Sem.run_bind, ty_size hc he] using this
          · rw [Addr.add_mid, hes, ← hse]
            split
            · rename_i heq
              have e1 : hh - l = 0 := by omega
              have e2 : s.cp - off - l = 0 := by omega
              rw [e1, e2]
              exact .sref0 _ _ _ s hs (by omega) _
            · rename_i hne
              have e2 : s.cp - off - l = s.cp - (off + l) := by omega
              rw [e2, show s.st + off * s.es + l * s.es = s.st + (off + l) * s.es by rw [Nat.add_mul]; omega]
              exact .sref _ _ _ _ s hs (by omega) (by omega)
        | sref0 _ _ _ s hs hoff a =>
          obtain ⟨hb, hlh, hhl⟩ := run_bounds (P := P) (isS := true) (Nat.le_refl 0) h1 h3 rl rh
          have : hh = 0 := by omega
          have : l = 0 := by omega
          subst hh l
          refine ⟨.slice (some a) 0 0, ?_, .sref0 _ _ _ s hs (by omega) _⟩
          simp [Instr.sliceAt, Instr.slice, Sem.run_bind, run_underlying h2]
          have := hb (fun q => do let size ← sizeOf e; pure (Value.slice (if q.2.2 = q.1 then (some a : Option Addr) else (some a : Option Addr).map (fun x => x.add (q.1 * size))) (q.2.1 - q.1) (q.2.2 - q.1)))
          simpa [Sem.run_bind, ty_size hc he] using this
      · simp at h
    · simp at h
  · simp at h

theorem run_sliceS (hc : CfgOk P c) {G : Gh} {w : World} {t : TypeId} {s : List UInt8} {r : AV} {lo hi : Option AV} {vlo vhi : Option Value} (hk : kindOf c t = .str)
    (h : asliceS s lo hi = some r) (rl : RepO G w lo vlo) (rh : RepO G w hi vhi) : ∃ q, (Instr.sliceAt t (.string ⟨s.toArray⟩) vlo vhi none).run P w = .ok q w ∧ Rep G w r q := by
  have h2 := kind_str hc hk
  unfold asliceS at h
  simp only [Option.bind_eq_some_iff, Option.map_eq_some_iff] at h
  obtain ⟨hh, h1, l, h3, rfl⟩ := h
  obtain ⟨hb, hlh, hhl⟩ := run_bounds (P := P) (isS := false) (Nat.le_refl s.length) h1 h3 rl rh
  refine ⟨.string (ByteArray.extract ⟨s.toArray⟩ l hh), ?_, ?_⟩
  · simp [Instr.sliceAt, Instr.slice, Sem.run_bind, run_underlying h2, mk_size]
    have := hb (fun q => pure (Value.string (ByteArray.extract ⟨s.toArray⟩ q.1 q.2.1)))
    simpa [Sem.run_bind] using this
  · rw [ByteArray.extract_mk]
    exact .str _

theorem run_index (hc : CfgOk P c) {G : Gh} {w : World} {t : TypeId} {x i r : AV} {u v : Value} (h : aindex c t x i = some r) (hx : Rep G w x u) (hi : Rep G w i v) : ∃ q, (Instr.index t u v).run P w = .ok q w ∧ Rep G w r q := by
  unfold aindex at h
  simp only [Option.bind_eq_some_iff] at h
  obtain ⟨n, hn, h⟩ := h
  obtain ⟨k, rfl⟩ := asIdx_rep hn hi
  split at h
  · rename_i len e cs hk
    have h2 := kind_array hc hk
    simp only [Option.bind_eq_some_iff] at h
    obtain ⟨ei, hei, h⟩ := h
    split at h
    · rename_i hlt
      obtain ⟨vs, rfl, h3, h4⟩ := rep_agg_inv hx
      obtain ⟨q, hq, hr⟩ := run_part (hc.ty _ _ hei) h h3 h4
      exact ⟨q, by simp [Instr.index, Sem.run_bind, asIntOf, run_underlying h2, hlt, ty_size hc hei, hq], hr⟩
    · simp at h
  · rename_i s hk
    have h2 := kind_str hc hk
    split at h
    · rename_i h0
      simp only [Option.map_eq_some_iff] at h
      obtain ⟨b, hb, rfl⟩ := h
      cases hx
      refine ⟨_, ?_, .int _ _⟩
      simp [Instr.index, Sem.run_bind, asIntOf, run_underlying h2, h0, mk_get, hb]
    · simp at h
  · simp at h

theorem run_len (hc : CfgOk P c) {G : Gh} {S : St} {w : World} {t ty : TypeId} {x r : AV} {u : Value} (hW : Wrel G S w) (h : alen c S t x = some r) (hx : Rep G w x u) : ∃ q, (Builtin.len_ #[t] ty #[u]).run P w = .ok q w ∧ Rep G w r q := by
  unfold alen at h
  have rows : ∀ {rows : Rows}, P.underlying t = some (.slice (match kindOf c t with | .slice e => e | _ => 0)) → (∃ a cap, u = .slice a rows.length cap) → ∃ q, (Builtin.len_ #[t] ty #[u]).run P w = .ok q w ∧ Rep G w (.int .i64 rows.length) q := by
    rintro rows h2 ⟨a, cap, rfl⟩
    exact ⟨_, by simp [Builtin.len_, Sem.run_bind, run_underlying h2]; rfl, .int _ _⟩
  split at h
  · rename_i s hk
    have h2 := kind_str hc hk
    simp at h; subst h; cases hx
    exact ⟨_, by simp [Builtin.len_, Sem.run_bind, run_underlying h2, goInt, mk_size], .int _ _⟩
  · rename_i n e hk
    have h2 := kind_array hc hk
    simp at h; subst h
    exact ⟨_, by simp [Builtin.len_, Sem.run_bind, run_underlying h2, goInt], .int _ _⟩
  · rename_i e hk
    have h2 := kind_slice hc hk
    simp at h; subst h
    cases hx
    exact ⟨_, by simp [Builtin.len_, Sem.run_bind, run_underlying h2, goInt], .int _ _⟩
  · rename_i e hk
    have h2 := kind_slice hc hk
    simp at h; subst h
    cases hx
    exact ⟨_, by simp [Builtin.len_, Sem.run_bind, run_underlying h2, goInt], .int _ _⟩
  · rename_i e r' hk
    have h2 := kind_slice hc hk
    simp at h; subst h
    obtain ⟨a, cap, rfl, _⟩ := rep_rows_inv hx (.inl ⟨_, rfl, rfl⟩)
    exact ⟨_, by simp [Builtin.len_, Sem.run_bind, run_underlying h2, goInt], .int _ _⟩
  · rename_i e r' hk
    have h2 := kind_slice hc hk
    simp at h; subst h
    obtain ⟨a, cap, rfl, _⟩ := rep_rows_inv hx (.inr (.inl ⟨_, rfl, rfl⟩))
    exact ⟨_, by simp [Builtin.len_, Sem.run_bind, run_underlying h2, goInt], .int _ _⟩
  · rename_i e r' o g hk
    have h2 := kind_slice hc hk
    simp at h; subst h
    obtain ⟨a, cap, rfl, _⟩ := rep_rows_inv hx (.inr (.inr (.inl ⟨_, _, _, rfl, rfl⟩)))
    exact ⟨_, by simp [Builtin.len_, Sem.run_bind, run_underlying h2, goInt], .int _ _⟩
  · rename_i e o g off n hk
    have h2 := kind_slice hc hk
    simp at h; subst h
    cases hx <;> exact ⟨_, by simp [Builtin.len_, Sem.run_bind, run_underlying h2, goInt], .int _ _⟩
  · rename_i k e hk
    have h2 := kind_map hc hk
    simp at h; subst h; cases hx
    exact ⟨_, by simp [Builtin.len_, Sem.run_bind, run_underlying h2, goInt], .int _ _⟩
  · rename_i k e o hk
    have h2 := kind_map hc hk
    split at h
    · rename_i es clock hg
      simp at h; subst h
      cases hx with
      | map _ b hb =>
        obtain ⟨b', hb', mes, h3, h4, h5⟩ := hW.obj o _ hg
        obtain rfl := hW.fblk o _ _ hb hb'
        refine ⟨_, ?_, .int _ _⟩
        simp [Builtin.len_, Sem.run_bind, run_underlying h2, goInt, getObj, Sem.run, h3, h4]
    · simp at h
  · simp at h

end Go.Am
