/- THE ABSTRACT MACHINE, A PART OF IT. -/
import Derived.Test.YtbmfnoaogebjfaaDoorMa
import Derived.IntWalk
import Derived.Laws.AppendOwn
/- THE ABSTRACT MACHINE, NINTH FILE: addresses, parts, slices of slices, maps read; all operations that yield a value. -/
set_option linter.unusedSimpArgs false
set_option linter.unusedVariables false
namespace Go.Am
open Go.RowKit
variable [Pin] {P : Program} {c : Cfg}

theorem kindOf_inv (hc : CfgOk P c) {t : TypeId} {k : TK} (h : kindOf c t = k) (hk : k ≠ .other) : ∃ (d : TypeDesc), P.underlying t = some d ∧ tkOf d = k := by
  unfold kindOf at h
  split at h
  · rename_i i hi
    obtain ⟨_, d, _, h2, h3, _⟩ := ty_inv (hc.ty t i hi)
    exact ⟨d, h2, by rw [← h3]; exact h⟩
  · exact absurd h.symm hk

theorem ty_size (hc : CfgOk P c) {t : TypeId} {i : Ty} (h : c.ty t = some i) (w : World) : (sizeOf t).run P w = .ok i.size w := by
  obtain ⟨info, _, k1, _, _, k4, _⟩ := ty_inv (hc.ty t i h)
  rw [run_size_ty k1, k4]

theorem kind_struct (hc : CfgOk P c) {t : TypeId} {fs : List (TypeId × Nat)} (h : kindOf c t = .struct fs) : ∃ fields : Array Field, P.underlying t = some (.struct fields) ∧ fs = fields.toList.map fun f => (f.type, f.offset) := by
  obtain ⟨d, h2, hk⟩ := kindOf_inv hc h (by simp)
  cases d <;> simp [tkOf] at hk
  exact ⟨_, h2, hk.symm⟩
theorem kind_slice (hc : CfgOk P c) {t e : TypeId} (h : kindOf c t = .slice e) : P.underlying t = some (.slice e) := by
  obtain ⟨d, h2, hk⟩ := kindOf_inv hc h (by simp)
  cases d <;> simp [tkOf] at hk
  rw [h2, hk]
theorem kind_array (hc : CfgOk P c) {t e : TypeId} {n : Nat} (h : kindOf c t = .array n e) : P.underlying t = some (.array n e) := by
  obtain ⟨d, h2, hk⟩ := kindOf_inv hc h (by simp)
  cases d <;> simp [tkOf] at hk
  rw [h2, hk.1, hk.2]
theorem kind_str (hc : CfgOk P c) {t : TypeId} (h : kindOf c t = .str) : P.underlying t = some .string := by
  obtain ⟨d, h2, hk⟩ := kindOf_inv hc h (by simp)
  cases d <;> simp [tkOf] at hk
  rw [h2]
theorem kind_map (hc : CfgOk P c) {t k e : TypeId} (h : kindOf c t = .map k e) : P.underlying t = some (.map k e) := by
  obtain ⟨d, h2, hk⟩ := kindOf_inv hc h (by simp)
  cases d <;> simp [tkOf] at hk
  rw [h2, hk.1, hk.2]
theorem kind_int (hc : CfgOk P c) {t : TypeId} {k : IntKind} (h : kindOf c t = .int k) : P.underlying t = some (.int k) := by
  obtain ⟨d, h2, hk⟩ := kindOf_inv hc h (by simp)
  cases d <;> simp [tkOf] at hk
  rw [h2, hk]
theorem kind_bool (hc : CfgOk P c) {t : TypeId} (h : kindOf c t = .bool) : P.underlying t = some .bool := by
  obtain ⟨d, h2, hk⟩ := kindOf_inv hc h (by simp)
  cases d <;> simp [tkOf] at hk
  rw [h2]

omit [Pin] in
theorem addOff_rep {G : Gh} {w : World} {a r : AV} {k : Nat} {u : Value} (h : addOff a k = some r) (ha : Rep G w a u) : ∃ ad : Addr, u = .pointer (some ad) ∧ Rep G w r (.pointer (some (ad.add k))) := by
  unfold addOff at h
  split at h <;> simp at h <;> subst h
  · cases ha with
    | ptr _ _ b hb => exact ⟨_, rfl, by rw [Addr.add_mid]; exact .ptr _ _ _ hb⟩
  · cases ha with
    | eptr _ _ _ _ s hs => exact ⟨_, rfl, by rw [Addr.add_mid, Nat.add_assoc]; exact .eptr _ _ _ _ s hs⟩
  · cases ha with
    | iptr _ _ b p us hl hcl hr => exact ⟨_, rfl, by rw [Addr.add_mid, Nat.add_assoc]; exact .iptr _ _ b p us hl hcl hr⟩

theorem run_fieldAddr (hc : CfgOk P c) {G : Gh} {w : World} {s : TypeId} {f : Nat} {fs : List (TypeId × Nat)} {q : TypeId × Nat} {fi : Ty} {a r : AV} {u : Value} (hk : kindOf c s = .struct fs) (hq : fs[f]? = some q)
    (hf : c.ty q.1 = some fi) (h0 : fi.size ≠ 0) (h : addOff a q.2 = some r) (ha : Rep G w a u) : ∃ v, (Instr.fieldAt s u f).run P w = .ok v w ∧ Rep G w r v := by
  obtain ⟨fields, h2, rfl⟩ := kind_struct hc hk
  obtain ⟨ad, rfl, hr⟩ := addOff_rep h ha
  rw [List.getElem?_map, Option.map_eq_some_iff] at hq
  obtain ⟨fld, hfld, rfl⟩ := hq
  have hfld' : fields[f]? = some fld := by simpa using hfld
  refine ⟨_, ?_, hr⟩
  simp [Instr.fieldAt, Sem.run_bind, run_underlying h2, hfld', Instr.sureAddr, fieldPlace, ty_size hc hf, h0]

theorem run_field (hc : CfgOk P c) {G : Gh} {w : World} {s : TypeId} {f : Nat} {fs : List (TypeId × Nat)} {q : TypeId × Nat} {fi : Ty} {cs : List AV} {r : AV} {u : Value} (hk : kindOf c s = .struct fs) (hq : fs[f]? = some q)
    (hf : c.ty q.1 = some fi) (h : apart fi cs q.2 = some r) (ha : Rep G w (.agg cs) u) : ∃ v, (Instr.field s u f).run P w = .ok v w ∧ Rep G w r v := by
  obtain ⟨fields, h2, rfl⟩ := kind_struct hc hk
  obtain ⟨vs, rfl, h3, h4⟩ := rep_agg_inv ha
  rw [List.getElem?_map, Option.map_eq_some_iff] at hq
  obtain ⟨fld, hfld, rfl⟩ := hq
  have hfld' : fields[f]? = some fld := by simpa using hfld
  obtain ⟨v, hv, hr⟩ := run_part (hc.ty _ _ hf) h h3 h4
  exact ⟨v, by simp [Instr.field, Sem.run_bind, run_underlying h2, hfld', asAgg, hv], hr⟩

omit [Pin] in
theorem asIdx_rep {G : Gh} {w : World} {i : AV} {n : Int} {u : Value} (h : asIdx i = some n) (hi : Rep G w i u) : ∃ k, u = .int k n := by
  unfold asIdx at h
  split at h
  · simp at h; subst h; cases hi; exact ⟨_, rfl⟩
  · simp at h

omit [Pin] in
theorem rowsOf_cases {S : St} {x : AV} {rows : Rows} (h : S.rowsOf x = some rows) (hs : ∀ o g off len, x ≠ .sref o g off len) :
    (∃ r, x = .vec r ∧ rows = r) ∨ (∃ r, x = .lit r ∧ rows = r) ∨ (∃ r o g, x = .own r o g ∧ rows = r) ∨ (x = .nils ∧ rows = []) ∨ (x = .emp ∧ rows = []) := by
  unfold St.rowsOf at h
  split at h <;> try simp at h
  all_goals try subst h
  · exact .inr (.inr (.inr (.inl ⟨rfl, rfl⟩)))
  · exact .inr (.inr (.inr (.inr ⟨rfl, rfl⟩)))
  · exact .inl ⟨_, rfl, rfl⟩
  · exact .inr (.inl ⟨_, rfl, rfl⟩)
  · exact .inr (.inr (.inl ⟨_, _, _, rfl, rfl⟩))
  · exact absurd rfl (hs _ _ _ _)

theorem run_indexAddr (hc : CfgOk P c) {G : Gh} {S : St} {w : World} {t : TypeId} {x i r : AV} {u v : Value} (hW : Wrel G S w) (h : aindexAddr c S t x i = some r) (hx : Rep G w x u) (hi : Rep G w i v) :
    ∃ q, (Instr.indexAt t u v).run P w = .ok q w ∧ Rep G w r q := by
  unfold aindexAddr at h
  simp only [Option.bind_eq_some_iff] at h
  obtain ⟨n, hn, h⟩ := h
  obtain ⟨k, rfl⟩ := asIdx_rep hn hi
  split at h
  · rename_i len e hk
    have h2 := kind_array hc hk
    simp only [Option.bind_eq_some_iff] at h
    obtain ⟨ei, hei, h⟩ := h
    split at h
    · rename_i hlt
      obtain ⟨ad, rfl, hr⟩ := addOff_rep h hx
      refine ⟨_, ?_, hr⟩
      simp [Instr.indexAt, Sem.run_bind, asIntOf, run_underlying h2, Instr.sureAddr, hlt, ty_size hc hei]
    · simp at h
  · rename_i e hk
    have h2 := kind_slice hc hk
    simp only [Option.bind_eq_some_iff] at h
    obtain ⟨ei, hei, h⟩ := h
    split at h
    · rename_i h0
      split at h
      · rename_i o g off len
        split at h
        · rename_i g' es rows exp hg
          split at h
          · rename_i hq
            obtain ⟨hlt, hes, rfl⟩ := hq
            simp at h
            subst h
            cases hx with
            | sref _ _ _ _ s hs hoff hle =>
              refine ⟨.pointer (some ((⟨s.b, s.st + off * s.es, none⟩ : Addr).add (n.toNat * ei.size))), ?_, ?_⟩
              · simp [Instr.indexAt, Sem.run_bind, asIntOf, run_underlying h2, h0, hlt, ty_size hc hei]
              · have hse : s.es = es := by
                  obtain ⟨s', hs', he, _⟩ := hW.obj o _ hg
                  rw [hW.fseg o _ _ _ hs hs']; exact he
                rw [Addr.add_mid, ← hes, ← hse, show s.st + off * s.es + n.toNat * s.es = s.st + (off + n.toNat) * s.es + 0 by rw [Nat.add_mul]; omega]
                exact .eptr _ _ _ _ s hs
            | sref0 => omega
          · simp at h
        · simp at h
      · rename_i hns
        simp only [Option.bind_eq_some_iff] at h
        obtain ⟨rows, hrows, row, hrow, h⟩ := h
        split at h
        · rename_i hsz
          simp at h
          subst h
          obtain ⟨a, cap, rfl, hcap, _, hr⟩ := rep_rows_inv hx (rowsOf_cases hrows (fun o g off len e => hns o g off len e))
          have hlt : n.toNat < rows.length := (List.getElem?_eq_some_iff.1 hrow).1
          rcases hr with hr | ⟨b, p, es, rfl, hat⟩
          · rw [hr] at hlt; simp at hlt
          · refine ⟨.pointer (some ((⟨b, p, none⟩ : Addr).add (n.toNat * ei.size))), ?_, ?_⟩
            · have hlt' : n < (rows.length : Int) := by omega
              simp [Instr.indexAt, Sem.run_bind, asIntOf, run_underlying h2, h0, hlt', ty_size hc hei]
            · have hes : ei.size = es := by rw [← hsz]; exact hat.len _ _ hrow
              rw [hes]
              obtain ⟨us, k1, k2⟩ := rowsAt_us hat
              rw [Addr.add_mid]
              exact .iptr row 0 b (p + n.toNat * es) (us n.toNat) (fun j x hj => (hat.cell _ _ _ _ hrow hj).1) (fun j x hj => k1 _ _ _ _ hrow hj) (fun j x hj => k2 _ _ _ _ hrow hj)
        · simp at h
    · simp at h
  · simp at h


omit [Pin] in
theorem bnd_none {dflt top h : Nat} (hb : bnd none dflt top = some h) : h = dflt := by simp [bnd] at hb; exact hb.symm
omit [Pin] in
theorem bnd_some {G : Gh} {w : World} {x : AV} {u : Value} {dflt top h : Nat} (hb : bnd (some x) dflt top = some h) (hx : Rep G w x u) : h ≤ top ∧ ∀ code, (Instr.sliceBound u top code).run P w = .ok h w := by
  unfold bnd at hb
  split at hb
  · simp at *
  · rename_i e
    cases e
    split at hb
    · rename_i hr
      simp at hb
      subst hb
      cases hx
      exact ⟨by omega, fun code => by simp [Instr.sliceBound, Sem.run_bind, asIntOf, hr]⟩
    · simp at hb
  · simp at hb

/-- The optional operands of a slice expression. -/
def RepO (G : Gh) (w : World) : Option AV → Option Value → Prop
  | none, none => True
  | some x, some v => Rep G w x v
  | _, _ => False

omit [Pin] in
theorem evalO_rep {G : Gh} {w : World} {tm : List AV} {a : Act} {x : Option Operand} {v : Option AV} (ht : RepL G w tm a.tmps.toList) (h : evalO tm x = some v) : RepO G w v (x.map a.eval) := by
  cases x with
  | none => simp [evalO] at h; subst h; trivial
  | some y =>
    simp only [evalO, Option.map_eq_some_iff] at h
    obtain ⟨z, hz, rfl⟩ := h
    exact evalT_rep ht hz

omit [Pin] in
theorem run_bounds {G : Gh} {w : World} {lo hi : Option AV} {vlo vhi : Option Value} {isS : Bool} {len cap : Nat} {h l : Nat} (hle : len ≤ cap) (h1 : bnd hi len len = some h) (h2 : bnd lo 0 h = some l) (rl : RepO G w lo vlo) (rh : RepO G w hi vhi) :
    (∀ {α : Type} (f : Nat × Nat × Nat → Sem α), (Instr.sliceBounds isS len cap vlo vhi none >>= f).run P w = (f (l, h, cap)).run P w) ∧ l ≤ h ∧ h ≤ len := by
  have hh : h ≤ len ∧ (match vhi with | some v => ∀ code, (Instr.sliceBound v cap code).run P w = .ok h w | none => h = len) := by
    cases hi with
    | none =>
      cases vhi with
      | none => have := bnd_none h1; exact ⟨by omega, this⟩
      | some v => exact rh.elim
    | some x =>
      cases vhi with
      | none => exact rh.elim
      | some v =>
        obtain ⟨hle', _⟩ := bnd_some (P := P) h1 rh
        refine ⟨hle', ?_⟩
        have h1' : bnd (some x) len cap = some h := by
          unfold bnd at h1 ⊢
          cases x <;> simp at h1 ⊢
          obtain ⟨k1, k2⟩ := h1
          exact ⟨by omega, k2⟩
        exact (bnd_some (P := P) h1' rh).2
  have hl : l ≤ h ∧ (match vlo with | some v => ∀ code, (Instr.sliceBound v h code).run P w = .ok l w | none => l = 0) := by
    cases lo with
    | none =>
      cases vlo with
      | none => have := bnd_none h2; exact ⟨by omega, this⟩
      | some v => exact rl.elim
    | some x =>
      cases vlo with
      | none => exact rl.elim
      | some v => exact bnd_some (P := P) h2 rl
  refine ⟨fun f => ?_, hl.1, hh.1⟩
  obtain ⟨_, hh⟩ := hh
  obtain ⟨_, hl⟩ := hl
  cases vhi with
  | none =>
    simp only at hh
    subst hh
    cases vlo with
    | none => simp only at hl; subst hl; simp [Instr.sliceBounds, Sem.run_bind]
    | some v => simp [Instr.sliceBounds, Sem.run_bind, hl]
  | some v =>
    cases vlo with
    | none => simp only at hl; subst hl; simp [Instr.sliceBounds, Sem.run_bind, hh]
    | some v' => simp [Instr.sliceBounds, Sem.run_bind, hh, hl]

omit [Pin] in
theorem headOk_len {es es' : Nat} {rows : Rows} (h : headOk es rows = true) (hl : ∀ (i : Nat) (r : List AV), rows[i]? = some r → r.length = es') : rows = [] ∨ es = es' := by
  cases rows with
  | nil => exact .inl rfl
  | cons r rs =>
    simp [headOk] at h
    exact .inr (by rw [← h]; exact hl 0 r rfl)

omit [Pin] in
theorem RowsAt.cut {G : Gh} {w : World} {b p es : Nat} {rows : Rows} (h : RowsAt G w b p es rows) (l n : Nat) : RowsAt G w b (p + l * es) es ((rows.drop l).take n) := by
  have key : ∀ (i : Nat) (r : List AV), ((rows.drop l).take n)[i]? = some r → rows[l + i]? = some r := fun i r hi => by
    rw [List.getElem?_take] at hi
    split at hi
    · rw [List.getElem?_drop] at hi; exact hi
    · simp at hi
  refine ⟨fun i r hi => h.len _ _ (key i r hi), fun i r j x hi hj => ?_⟩
  obtain ⟨h1, u, h2, h3⟩ := h.cell _ r j x (key i r hi) hj
  exact ⟨h1, u, by rw [show p + l * es + i * es + j = p + (l + i) * es + j by rw [Nat.add_mul]; omega]; exact h2, h3⟩

theorem run_slice (hc : CfgOk P c) {G : Gh} {S : St} {w : World} {t e : TypeId} {ei : Ty} {x r : AV} {lo hi : Option AV} {u : Value} {vlo vhi : Option Value} (hW : Wrel G S w) (hk : kindOf c t = .slice e) (he : c.ty e = some ei)
    (h : asliceV S ei.size x lo hi = some r) (hx : Rep G w x u) (rl : RepO G w lo vlo) (rh : RepO G w hi vhi) : ∃ q, (Instr.sliceAt t u vlo vhi none).run P w = .ok q w ∧ Rep G w r q := by
  have h2 := kind_slice hc hk
  have cut : ∀ {rows : Rows} {r : AV}, acut ei.size rows lo hi = some r → (∃ a cap, u = .slice a rows.length cap ∧ rows.length ≤ cap ∧ (a = none → cap = 0) ∧ (rows = [] ∨ ∃ b p es, a = some ⟨b, p, none⟩ ∧ RowsAt G w b p es rows)) →
      ∃ q, (Instr.sliceAt t u vlo vhi none).run P w = .ok q w ∧ Rep G w r q := by
    rintro rows r h ⟨a, cap, rfl, hcap, hnone, hr⟩
    unfold acut at h
    split at h
    case isFalse => simp at h
    rename_i hhead
    simp only [Option.bind_eq_some_iff, Option.map_eq_some_iff] at h
    obtain ⟨hh, h1, l, h3, rfl⟩ := h
    obtain ⟨hb, hlh, hhl⟩ := run_bounds (P := P) (isS := true) hcap h1 h3 rl rh
    refine ⟨.slice (if cap = l then a else a.map (·.add (l * ei.size))) (hh - l) (cap - l), ?_, ?_⟩
    · simp [Instr.sliceAt, Instr.slice, Sem.run_bind, run_underlying h2]
      have := hb (fun q => do let size ← sizeOf e; pure (Value.slice (if q.2.2 = q.1 then a else Option.map (fun x => x.add (q.1 * size)) a) (q.2.1 - q.1) (q.2.2 - q.1)))
      simpa [Sem.run_bind, ty_size hc he] using this
    · rcases Nat.eq_zero_or_pos (hh - l) with h0 | hpos
      · rw [h0, List.take_zero]
        refine .vec0 _ _ (fun hn => ?_)
        split at hn
        · rw [hnone hn]; simp
        · rw [Option.map_eq_none_iff] at hn
          rw [hnone hn]; simp
      · have hlen : ((rows.drop l).take (hh - l)).length = hh - l := by simp; omega
        rcases hr with rfl | ⟨b, p, es, rfl, hat⟩
        · simp at hhl; omega
        · rcases headOk_len hhead hat.len with h' | h'
          · rw [h'] at hhl; simp at hhl; omega
          · rw [h', if_neg (by omega)]
            have := rep_vec (hat.cut l (hh - l)) (cap := cap - l) (by rw [hlen]; omega)
            rw [hlen] at this
            simpa [Addr.add_mid] using this
  unfold asliceV at h
  split at h
  · simp only [Option.bind_eq_some_iff, Option.map_eq_some_iff] at h
    obtain ⟨hh, h1, l, h3, rfl⟩ := h
    cases hx
    obtain ⟨hb, hlh, hhl⟩ := run_bounds (P := P) (isS := true) (Nat.le_refl 0) h1 h3 rl rh
    have : hh = 0 := by omega
    have : l = 0 := by omega
    subst hh l
    refine ⟨.slice none 0 0, ?_, .nils⟩
    simp [Instr.sliceAt, Instr.slice, Sem.run_bind, run_underlying h2]
    have := hb (fun q => do let size ← sizeOf e; pure (Value.slice (if q.2.2 = q.1 then none else none) (q.2.1 - q.1) (q.2.2 - q.1)))
    simpa [Sem.run_bind, ty_size hc he] using this
  · exact cut h (rep_rows_inv hx (.inl ⟨_, rfl, rfl⟩))
  · exact cut h (rep_rows_inv hx (.inr (.inl ⟨_, rfl, rfl⟩)))
  · exact cut h (rep_rows_inv hx (.inr (.inr (.inl ⟨_, _, _, rfl, rfl⟩))))
  · rename_i o g off len
    split at h
    · rename_i g' es' rows exp hg
      split at h
      · rename_i hq
        obtain ⟨hes, rfl⟩ := hq
        simp only [Option.bind_eq_some_iff, Option.map_eq_some_iff] at h
        obtain ⟨hh, h1, l, h3, rfl⟩ := h
        cases hx with
        | sref _ _ _ _ s hs hoff hle =>
          obtain ⟨hb, hlh, hhl⟩ := run_bounds (P := P) (isS := true) (cap := s.cp - off) (by omega) h1 h3 rl rh
          obtain ⟨hse, _⟩ := hW.seq hg hs
          refine ⟨.slice (if s.cp - off = l then some ⟨s.b, s.st + off * s.es, none⟩ else some (Addr.add ⟨s.b, s.st + off * s.es, none⟩ (l * ei.size))) (hh - l) (s.cp - off - l), ?_, ?_⟩
          · simp [Instr.sliceAt, Instr.slice, Sem.run_bind, run_underlying h2]
            have := hb (fun q => do let size ← sizeOf e; pure (Value.slice (if q.2.2 = q.1 then (some ⟨s.b, s.st + off * s.es, none⟩ : Option Addr) else (some ⟨s.b, s.st + off * s.es, none⟩ : Option Addr).map (fun x => x.add (q.1 * size))) (q.2.1 - q.1) (q.2.2 - q.1)))
            simpa [Sem.run_bind, ty_size hc he] using this
          · rw [Addr.add_mid, hes, ← hse]
            split
            · rename_i heq
              have e1 : hh - l = 0 := by omega
              have e2 : s.cp - off - l = 0 := by omega
              rw [e1, e2]
              exact .sref0 _ _ _ s hs (by omega) _
            · rename_i hne
              have e2 : s.cp - off - l = s.cp - (off + l) := by omega
              rw [e2, show s.st + off * s.es + l * s.es = s.st + (off + l) * s.es by rw [Nat.add_mul]; omega]
              exact .sref _ _ _ _ s hs (by omega) (by omega)
        | sref0 _ _ _ s hs hoff a =>
          obtain ⟨hb, hlh, hhl⟩ := run_bounds (P := P) (isS := true) (Nat.le_refl 0) h1 h3 rl rh
          have : hh = 0 := by omega
          have : l = 0 := by omega
          subst hh l
          refine ⟨.slice (some a) 0 0, ?_, .sref0 _ _ _ s hs (by omega) _⟩
          simp [Instr.sliceAt, Instr.slice, Sem.run_bind, run_underlying h2]
          have := hb (fun q => do let size ← sizeOf e; pure (Value.slice (if q.2.2 = q.1 then (some a : Option Addr) else (some a : Option Addr).map (fun x => x.add (q.1 * size))) (q.2.1 - q.1) (q.2.2 - q.1)))
          simpa [Sem.run_bind, ty_size hc he] using this
      · simp at h
    · simp at h
  · simp at h

theorem run_sliceS (hc : CfgOk P c) {G : Gh} {w : World} {t : TypeId} {s : List UInt8} {r : AV} {lo hi : Option AV} {vlo vhi : Option Value} (hk : kindOf c t = .str)
    (h : asliceS s lo hi = some r) (rl : RepO G w lo vlo) (rh : RepO G w hi vhi) : ∃ q, (Instr.sliceAt t (.string ⟨s.toArray⟩) vlo vhi none).run P w = .ok q w ∧ Rep G w r q := by
  have h2 := kind_str hc hk
  unfold asliceS at h
  simp only [Option.bind_eq_some_iff, Option.map_eq_some_iff] at h
  obtain ⟨hh, h1, l, h3, rfl⟩ := h
  obtain ⟨hb, hlh, hhl⟩ := run_bounds (P := P) (isS := false) (Nat.le_refl s.length) h1 h3 rl rh
  refine ⟨.string (ByteArray.extract ⟨s.toArray⟩ l hh), ?_, ?_⟩
  · simp [Instr.sliceAt, Instr.slice, Sem.run_bind, run_underlying h2, mk_size]
    have := hb (fun q => pure (Value.string (ByteArray.extract ⟨s.toArray⟩ q.1 q.2.1)))
    simpa [Sem.run_bind] using this
  · rw [ByteArray.extract_mk]
    exact .str _

theorem run_index (hc : CfgOk P c) {G : Gh} {w : World} {t : TypeId} {x i r : AV} {u v : Value} (h : aindex c t x i = some r) (hx : Rep G w x u) (hi : Rep G w i v) : ∃ q, (Instr.index t u v).run P w = .ok q w ∧ Rep G w r q := by
  unfold aindex at h
  simp only [Option.bind_eq_some_iff] at h
  obtain ⟨n, hn, h⟩ := h
  obtain ⟨k, rfl⟩ := asIdx_rep hn hi
  split at h
  · rename_i len e cs hk
    have h2 := kind_array hc hk
    simp only [Option.bind_eq_some_iff] at h
    obtain ⟨ei, hei, h⟩ := h
    split at h
    · rename_i hlt
      obtain ⟨vs, rfl, h3, h4⟩ := rep_agg_inv hx
      obtain ⟨q, hq, hr⟩ := run_part (hc.ty _ _ hei) h h3 h4
      exact ⟨q, by simp [Instr.index, Sem.run_bind, asIntOf, run_underlying h2, hlt, ty_size hc hei, hq], hr⟩
    · simp at h
  · rename_i s hk
    have h2 := kind_str hc hk
    split at h
    · rename_i h0
      simp only [Option.map_eq_some_iff] at h
      obtain ⟨b, hb, rfl⟩ := h
      cases hx
      refine ⟨_, ?_, .int _ _⟩
      simp [Instr.index, Sem.run_bind, asIntOf, run_underlying h2, h0, mk_get, hb]
    · simp at h
  · simp at h

theorem run_len (hc : CfgOk P c) {G : Gh} {S : St} {w : World} {t ty : TypeId} {x r : AV} {u : Value} (hW : Wrel G S w) (h : alen c S t x = some r) (hx : Rep G w x u) : ∃ q, (Builtin.len_ #[t] ty #[u]).run P w = .ok q w ∧ Rep G w r q := by
  unfold alen at h
  have rows : ∀ {rows : Rows}, P.underlying t = some (.slice (match kindOf c t with | .slice e => e | _ => 0)) → (∃ a cap, u = .slice a rows.length cap) → ∃ q, (Builtin.len_ #[t] ty #[u]).run P w = .ok q w ∧ Rep G w (.int .i64 rows.length) q := by
    rintro rows h2 ⟨a, cap, rfl⟩
    exact ⟨_, by simp [Builtin.len_, Sem.run_bind, run_underlying h2]; rfl, .int _ _⟩
  split at h
  · rename_i s hk
    have h2 := kind_str hc hk
    simp at h; subst h; cases hx
    exact ⟨_, by simp [Builtin.len_, Sem.run_bind, run_underlying h2, goInt, mk_size], .int _ _⟩
  · rename_i n e hk
    have h2 := kind_array hc hk
    simp at h; subst h
    exact ⟨_, by simp [Builtin.len_, Sem.run_bind, run_underlying h2, goInt], .int _ _⟩
  · rename_i e hk
    have h2 := kind_slice hc hk
    simp at h; subst h
    cases hx
    exact ⟨_, by simp [Builtin.len_, Sem.run_bind, run_underlying h2, goInt], .int _ _⟩
  · rename_i e hk
    have h2 := kind_slice hc hk
    simp at h; subst h
    cases hx
    exact ⟨_, by simp [Builtin.len_, Sem.run_bind, run_underlying h2, goInt], .int _ _⟩
  · rename_i e r' hk
    have h2 := kind_slice hc hk
    simp at h; subst h
    obtain ⟨a, cap, rfl, _⟩ := rep_rows_inv hx (.inl ⟨_, rfl, rfl⟩)
    exact ⟨_, by simp [Builtin.len_, Sem.run_bind, run_underlying h2, goInt], .int _ _⟩
  · rename_i e r' hk
    have h2 := kind_slice hc hk
    simp at h; subst h
    obtain ⟨a, cap, rfl, _⟩ := rep_rows_inv hx (.inr (.inl ⟨_, rfl, rfl⟩))
    exact ⟨_, by simp [Builtin.len_, Sem.run_bind, run_underlying h2, goInt], .int _ _⟩
  · rename_i e r' o g hk
    have h2 := kind_slice hc hk
    simp at h; subst h
    obtain ⟨a, cap, rfl, _⟩ := rep_rows_inv hx (.inr (.inr (.inl ⟨_, _, _, rfl, rfl⟩)))
    exact ⟨_, by simp [Builtin.len_, Sem.run_bind, run_underlying h2, goInt], .int _ _⟩
  · rename_i e o g off n hk
    have h2 := kind_slice hc hk
    simp at h; subst h
    cases hx <;> exact ⟨_, by simp [Builtin.len_, Sem.run_bind, run_underlying h2, goInt], .int _ _⟩
  · rename_i k e hk
    have h2 := kind_map hc hk
    simp at h; subst h; cases hx
    exact ⟨_, by simp [Builtin.len_, Sem.run_bind, run_underlying h2, goInt], .int _ _⟩
  · rename_i k e o hk
    have h2 := kind_map hc hk
    split at h
    · rename_i es clock hg
      simp at h; subst h
      cases hx with
      | map _ b hb =>
        obtain ⟨b', hb', mes, h3, h4, h5⟩ := hW.obj o _ hg
        obtain rfl := hW.fblk o _ _ hb hb'
        refine ⟨_, ?_, .int _ _⟩
        simp [Builtin.len_, Sem.run_bind, run_underlying h2, goInt, getObj, Sem.run, h3, h4]
    · simp at h
  · simp at h

end Go.Am

/- THE ABSTRACT MACHINE, TENTH FILE: maps read; all operations that yield a value. -/
set_option linter.unusedSimpArgs false
set_option linter.unusedVariables false
namespace Go.Am
open Go.RowKit
variable [Pin] {P : Program} {c : Cfg}

theorem keyFits_inv (hc : CfgOk P c) {t : TypeId} {x : AV} (h : keyFits c t x = true) :
    (∃ k n, x = .int k n ∧ P.underlying t = some (.int k)) ∨ (∃ b, x = .bool b ∧ P.underlying t = some .bool) ∨ (∃ s, x = .str s ∧ P.underlying t = some .string) ∨
    (∃ xs fs b, x = .agg xs ∧ P.underlying t = some (.struct fs) ∧ EqOk P t xs ∧ leavesEq xs xs = some b) := by
  have kind : ∀ {k : TK}, ((c.ty t).map (·.kind) : Option TK) = some k → ∃ d, P.underlying t = some d ∧ tkOf d = k := by
    intro k hk
    simp only [Option.map_eq_some_iff] at hk
    obtain ⟨i, hi, hk⟩ := hk
    obtain ⟨_, d, _, h2, h3, _⟩ := ty_inv (hc.ty t i hi)
    exact ⟨d, h2, by rw [← h3]; exact hk⟩
  unfold keyFits at h
  split at h
  · rename_i k n
    split at h
    · rename_i k' hk
      obtain ⟨d, h2, h3⟩ := kind hk
      cases d <;> simp [tkOf] at h3
      simp at h
      exact .inl ⟨k, n, rfl, by rw [h2, h3, h]⟩
    · simp at h
  · split at h
    · rename_i hk
      obtain ⟨d, h2, h3⟩ := kind hk
      cases d <;> simp [tkOf] at h3
      exact .inr (.inl ⟨_, rfl, h2⟩)
    · simp at h
  · split at h
    · rename_i hk
      obtain ⟨d, h2, h3⟩ := kind hk
      cases d <;> simp [tkOf] at h3
      exact .inr (.inr (.inl ⟨_, rfl, h2⟩))
    · simp at h
  · split at h
    · rename_i fs hk
      obtain ⟨d, h2, h3⟩ := kind hk
      cases d <;> simp [tkOf] at h3
      simp at h
      obtain ⟨b, hb⟩ := Option.isSome_iff_exists.1 h.2
      exact .inr (.inr (.inr ⟨_, _, b, rfl, h2, hc.eqt t _ h.1.1 h.1.2, hb⟩))
    · simp at h
  · simp at h

theorem run_checkKey (hc : CfgOk P c) {G : Gh} {w : World} {t : TypeId} {x : AV} {u : Value} (h : keyFits c t x = true) (hx : Rep G w x u) (e : Bool) : (Instr.checkKey e 10000 t u).run P w = .ok () w := by
  rcases keyFits_inv hc h with ⟨k, n, rfl, h2⟩ | ⟨b, rfl, h2⟩ | ⟨s, rfl, h2⟩ | ⟨xs, fs, b, rfl, h2, heq, hb⟩
  · cases hx
    rw [show (10000 : Nat) = 9999 + 1 from rfl]
    generalize 9999 = dd
    simp [Instr.checkKey, Sem.run_bind, run_underlying h2]
  · cases hx
    rw [show (10000 : Nat) = 9999 + 1 from rfl]
    generalize 9999 = dd
    simp [Instr.checkKey, Sem.run_bind, run_underlying h2]
  · cases hx
    rw [show (10000 : Nat) = 9999 + 1 from rfl]
    generalize 9999 = dd
    simp [Instr.checkKey, Sem.run_bind, run_underlying h2]
  · obtain ⟨vs, rfl, h3, _⟩ := rep_agg_inv hx
    exact heq.2.2 G w vs e ⟨b, hb⟩ h3

/-- The entries of a map. -/
def RepE (G : Gh) (w : World) (es : List (AV × AV × Nat)) (mes : List MapEntry) : Prop :=
  mes.length = es.length ∧ ∀ (i : Nat) (e : AV × AV × Nat), es[i]? = some e → ∃ m : MapEntry, mes[i]? = some m ∧ Rep G w e.1 m.key ∧ Rep G w e.2.1 m.val ∧ m.born = e.2.2

omit [Pin] in
theorem RepE.uncons {G : Gh} {w : World} {e : AV × AV × Nat} {es : List (AV × AV × Nat)} {mes : List MapEntry} (h : RepE G w (e :: es) mes) : ∃ m mes', mes = m :: mes' ∧ Rep G w e.1 m.key ∧ Rep G w e.2.1 m.val ∧ m.born = e.2.2 ∧ RepE G w es mes' := by
  obtain ⟨h1, h2⟩ := h
  cases mes with
  | nil => simp at h1
  | cons m mes =>
    obtain ⟨m', hm, k1, k2, k3⟩ := h2 0 e (by simp)
    simp at hm
    subst hm
    exact ⟨m, mes, rfl, k1, k2, k3, by simpa using h1, fun i e' hi => by simpa using h2 (i + 1) e' (by simpa using hi)⟩

def FoundRel (G : Gh) (w : World) : Option (Nat × AV) → Option (Nat × Value) → Prop
  | none, none => True
  | some (i, v), some (j, u) => i = j ∧ Rep G w v u
  | _, _ => False

omit [Pin] in
theorem findNow_scalar {G : Gh} {w : World} {d : TypeDesc} {x : AV} {u : Value} (hx : Rep G w x u)
    (hd : ∀ {y : AV} {v : Value} {b : Bool}, keyEq x y = some b → Rep G w y v → Instr.sameNow d u v = some b) : ∀ {es : List (AV × AV × Nat)} {mes : List MapEntry} {i : Nat} {r : Option (Nat × AV)}, findKey x es i = some r → RepE G w es mes →
      ∃ q, Instr.findNow d u mes i = some q ∧ FoundRel G w r q
  | [], mes, i, r, h, hr => by
    simp [findKey] at h
    subst h
    have : mes = [] := List.eq_nil_of_length_eq_zero (by simpa using hr.1)
    subst this
    exact ⟨none, rfl, trivial⟩
  | (k, v, b) :: es, mes, i, r, h, hr => by
    obtain ⟨m, mes', rfl, k1, k2, _, k4⟩ := hr.uncons
    simp only [findKey, Option.bind_eq_some_iff] at h
    obtain ⟨e, he, h⟩ := h
    have hs := hd he k1
    cases e with
    | true =>
      simp at h
      subst h
      exact ⟨some (i, m.val), by simp [Instr.findNow, hs], rfl, k2⟩
    | false =>
      simp at h
      obtain ⟨q, hq, hf⟩ := findNow_scalar hx hd h k4
      exact ⟨q, by simp [Instr.findNow, hs, hq], hf⟩

omit [Pin] in
theorem findAsk_struct {G : Gh} {w : World} {t : TypeId} {xs : List AV} (heq : EqOk P t xs) {vs : Array Value} (hx : RepL G w xs vs.toList) : ∀ {es : List (AV × AV × Nat)} {mes : List MapEntry} {i : Nat} {r : Option (Nat × AV)}, findKey (.agg xs) es i = some r → RepE G w es mes →
      ∃ q, (Instr.findAsking t (.agg vs) mes i).run P w = .ok q w ∧ FoundRel G w r q
  | [], mes, i, r, h, hr => by
    simp [findKey] at h
    subst h
    have : mes = [] := List.eq_nil_of_length_eq_zero (by simpa using hr.1)
    subst this
    exact ⟨none, rfl, trivial⟩
  | (k, v, b) :: es, mes, i, r, h, hr => by
    obtain ⟨m, mes', rfl, k1, k2, _, k4⟩ := hr.uncons
    simp only [findKey, Option.bind_eq_some_iff] at h
    obtain ⟨e, he, h⟩ := h
    cases k with
    | agg ys =>
      obtain ⟨us, hus, h3, _⟩ := rep_agg_inv k1
      have hs := heq.2.1 G w ys vs us e he hx h3
      rw [← hus] at hs
      cases e with
      | true =>
        simp at h
        subst h
        exact ⟨some (i, m.val), by simp [Instr.findAsking, Sem.run_bind, hs], rfl, k2⟩
      | false =>
        simp at h
        obtain ⟨q, hq, hf⟩ := findAsk_struct heq hx h k4
        exact ⟨q, by simp [Instr.findAsking, Sem.run_bind, hs, hq], hf⟩
    | _ => simp [keyEq, leafEq] at he

theorem run_findKey (hc : CfgOk P c) {G : Gh} {w : World} {t : TypeId} {x : AV} {u : Value} (hk : keyFits c t x = true) (hx : Rep G w x u) {es : List (AV × AV × Nat)} {mes : List MapEntry} {r : Option (Nat × AV)} (h : findKey x es 0 = some r) (hr : RepE G w es mes) :
    ∃ q, (Instr.findKey t u mes).run P w = .ok q w ∧ FoundRel G w r q := by
  rcases keyFits_inv hc hk with ⟨k, n, rfl, h2⟩ | ⟨b, rfl, h2⟩ | ⟨s, rfl, h2⟩ | ⟨xs, fs, b, rfl, h2, heq, hb⟩
  · cases hx
    obtain ⟨q, hq, hf⟩ := findNow_scalar (d := .int k) (.int k n) (fun {y v b} he hy => by
      cases y <;> simp [keyEq, leafEq] at he
      obtain ⟨rfl, rfl⟩ := he
      cases hy
      simp [Instr.sameNow]) h hr
    exact ⟨q, by simp [Instr.findKey, Sem.run_bind, run_underlying h2, hq], hf⟩
  · cases hx
    obtain ⟨q, hq, hf⟩ := findNow_scalar (d := .bool) (.bool b) (fun {y v b} he hy => by
      cases y <;> simp [keyEq, leafEq] at he
      subst he
      cases hy
      simp [Instr.sameNow]) h hr
    exact ⟨q, by simp [Instr.findKey, Sem.run_bind, run_underlying h2, hq], hf⟩
  · cases hx
    obtain ⟨q, hq, hf⟩ := findNow_scalar (d := .string) (.str s) (fun {y v b} he hy => by
      cases y <;> simp [keyEq, leafEq] at he
      rename_i s'
      subst he
      cases hy
      simp only [Instr.sameNow]
      rw [show ((⟨s.toArray⟩ : ByteArray) == ⟨s'.toArray⟩) = (s.toArray == s'.toArray) from rfl]
      simp) h hr
    exact ⟨q, by simp [Instr.findKey, Sem.run_bind, run_underlying h2, hq], hf⟩
  · obtain ⟨vs, rfl, h3, _⟩ := rep_agg_inv hx
    cases hes : mes with
    | nil =>
      have : es = [] := List.eq_nil_of_length_eq_zero (by have := hr.1; rw [hes] at this; simpa using this.symm)
      subst this
      simp [findKey] at h
      subst h
      exact ⟨none, by simp [Instr.findKey, Sem.run_bind, run_underlying h2, Instr.findNow], trivial⟩
    | cons m mes' =>
      obtain ⟨q, hq, hf⟩ := findAsk_struct heq h3 h hr
      rw [hes] at hq
      refine ⟨q, ?_, hf⟩
      have hn : Instr.findNow (.struct fs) (.agg vs) (m :: mes') 0 = none := by
        simp [Instr.findNow, Instr.sameNow]
      simp [Instr.findKey, Sem.run_bind, run_underlying h2, hn, hq]

theorem zeroOf_rep (hc : CfgOk P c) {G : Gh} {w : World} {t : TypeId} {z : AV} (h : zeroOf c t = some z) : ∃ v, (zeroValue t).run P w = .ok v w ∧ Rep G w z v := by
  unfold zeroOf at h
  simp only [Option.bind_eq_some_iff] at h
  obtain ⟨i, hi, zs, hz, h⟩ := h
  obtain ⟨info, d, h1, h2, h3, h4, h5, h6⟩ := ty_inv (hc.ty t i hi)
  rw [h6] at hz
  simp only [Option.bind_eq_some_iff] at hz
  obtain ⟨zv, hzv, hz⟩ := hz
  obtain ⟨hzr, hzl, ha, hn⟩ := zeroC_rep (G := G) (w := w) hz
  refine ⟨zv, run_zero_ty h1 hzv w, ?_⟩
  rw [h3] at h
  split at h
  · rename_i hk
    obtain ⟨cs, rfl⟩ := ha hk
    simp at h
    subst h
    exact rep_agg.2 ⟨hzr, hzl⟩
  · rename_i hk
    obtain ⟨x, rfl, hr⟩ := hn (by simpa using hk)
    simp at h
    subst h
    exact hr


theorem run_lookup (hc : CfgOk P c) {G : Gh} {S : St} {w : World} {t : TypeId} {x k r : AV} {ok : Bool} {u v : Value} (hW : Wrel G S w) (h : alookup c S t x k ok = some r) (hx : Rep G w x u) (hk : Rep G w k v) :
    ∃ q, (Instr.lookup t u v ok).run P w = .ok q w ∧ Rep G w r q := by
  unfold alookup at h
  split at h
  case h_2 => simp at h
  rename_i kt et hkind
  have h2 := kind_map hc hkind
  split at h
  case isFalse => simp at h
  rename_i hfit
  simp only [Option.bind_eq_some_iff, Option.map_eq_some_iff] at h
  obtain ⟨es, hes, fr, hfr, p, hp, rfl⟩ := h
  have hent : ∃ mes : Array MapEntry, RepE G w es mes.toList ∧ ((u = .map none ∧ mes = #[]) ∨ ∃ b clock, u = .map (some b) ∧ w.heap[b]? = some (.map mes clock)) := by
    split at hes
    · simp at hes
      subst hes
      cases hx
      exact ⟨#[], ⟨rfl, fun i e h => by simp at h⟩, .inl ⟨rfl, rfl⟩⟩
    · rename_i o
      split at hes
      · rename_i es' clock hg
        simp at hes
        subst hes
        cases hx with
        | map _ b hb =>
          obtain ⟨b', hb', mes, h3, h4, h5⟩ := hW.obj o _ hg
          obtain rfl := hW.fblk o _ _ hb hb'
          refine ⟨mes, ⟨by simpa using h4, fun i e hi => ?_⟩, .inr ⟨b, clock, rfl, h3⟩⟩
          obtain ⟨m, k1, k2⟩ := h5 i e hi
          exact ⟨m, by simpa using k1, k2⟩
      · simp at hes
    · simp at hes
  obtain ⟨mes, hre, hrun⟩ := hent
  obtain ⟨q, hq, hf⟩ := run_findKey hc hfit hk hfr hre
  have hcheck : ∀ e, (Instr.checkKey e 10000 kt v).run P w = .ok () w := fun e => run_checkKey hc hfit hk e
  have hv : ∃ qv, Rep G w p.1 qv ∧ ((match q with | some (_, v) => pure (v, true) | none => do pure (← zeroValue et, false) : Sem (Value × Bool))).run P w = .ok (qv, p.2) w := by
    cases fr with
    | none =>
      cases q with
      | none =>
        simp only [Option.map_eq_some_iff] at hp
        obtain ⟨z, hz, rfl⟩ := hp
        obtain ⟨zv, hzv, hr⟩ := zeroOf_rep hc (G := G) (w := w) hz
        exact ⟨zv, hr, by simp [Sem.run_bind, hzv]⟩
      | some q => exact hf.elim
    | some fr =>
      obtain ⟨i, v⟩ := fr
      cases q with
      | none => exact hf.elim
      | some q =>
        simp at hp
        subst hp
        exact ⟨q.2, hf.2, by simp⟩
  obtain ⟨qv, hr, hrun2⟩ := hv
  refine ⟨if ok then .tuple #[qv, .bool p.2] else qv, ?_, ?_⟩
  · have hlast : ((match (generalizing := false) q with
        | some (_, v) => do
          let __x ← pure (v, true)
          pure (if ok = true then Value.tuple #[__x.1, Value.bool __x.2] else __x.1)
        | none => do
          let __do_lift ← zeroValue et
          let __x ← pure (__do_lift, false)
          pure (if ok = true then Value.tuple #[__x.1, Value.bool __x.2] else __x.1) : Sem Value)).run P w = .ok (if ok then .tuple #[qv, .bool p.2] else qv) w := by
      cases q with
      | none =>
        simp only [Sem.run_bind, Sem.run_pure] at hrun2 ⊢
        cases hz : (zeroValue et).run P w with
        | ok a w1 =>
          rw [hz] at hrun2
          simp at hrun2
          simp [hrun2.2, hrun2.1.1, ← hrun2.1.2]
        | halt a w1 => rw [hz] at hrun2; simp at hrun2
      | some q =>
        simp at hrun2
        simp [← hrun2.1, ← hrun2.2]
    unfold Instr.lookup
    rw [Sem.run_bind, run_underlying h2, Result.andThen_ok]
    rcases hrun with ⟨rfl, rfl⟩ | ⟨b, clock, rfl, hb⟩
    · simp only [Sem.run_bind, Sem.run_pure, Result.andThen_ok, hcheck, hq]
      exact hlast
    · have hg : (getObj b).run P w = .ok (.map mes clock) w := by simp [getObj, Sem.run, hb]
      simp only [Sem.run_bind, hg, Sem.run_pure, Result.andThen_ok, hcheck, hq]
      exact hlast
  · cases ok with
    | true => exact rep_tup.2 (RepL.cons hr (RepL.cons (.bool _) (RepL.nil _ _)))
    | false => exact hr

omit [Pin] in
theorem run_amax {G : Gh} {w : World} {xs : List AV} {r : AV} {vs : List Value} (at_ : Array TypeId) (ty : TypeId) (h : amax xs = some r) (hx : RepL G w xs vs) : ∃ q, (Builtin.max_ at_ ty vs.toArray).run P w = .ok q w ∧ Rep G w r q := by
  unfold amax at h
  split at h
  · rename_i k a k' b
    split at h
    · rename_i hk
      subst hk
      simp at h
      subst h
      obtain ⟨v, vs', rfl, h1, h2⟩ := hx.uncons
      obtain ⟨v', vs'', rfl, h3, h4⟩ := h2.uncons
      obtain rfl := h4.nil_inv
      cases h1; cases h3
      exact ⟨_, by simp [Builtin.max_, Builtin.max2], .int _ _⟩
    · simp at h
  · simp at h

omit [Pin] in
theorem run_amin {G : Gh} {w : World} {xs : List AV} {r : AV} {vs : List Value} (at_ : Array TypeId) (ty : TypeId) (h : amin xs = some r) (hx : RepL G w xs vs) : ∃ q, (Builtin.min_ at_ ty vs.toArray).run P w = .ok q w ∧ Rep G w r q := by
  unfold amin at h
  split at h
  · rename_i k a k' b
    split at h
    · rename_i hk
      subst hk
      simp at h
      subst h
      obtain ⟨v, vs', rfl, h1, h2⟩ := hx.uncons
      obtain ⟨v', vs'', rfl, h3, h4⟩ := h2.uncons
      obtain rfl := h4.nil_inv
      cases h1; cases h3
      exact ⟨_, by simp [Builtin.min_, Builtin.min2], .int _ _⟩
    · simp at h
  · simp at h

omit [Pin] in
theorem run_nilCheck {G : Gh} {w : World} {x : AV} {u : Value} {o : Operand} {ρ : Operand → Value} (hx : Rep G w x u) (ho : ρ o = u) (h : (∃ a b, x = .ptr a b) ∨ (∃ a b d e, x = .eptr a b d e) ∨ (∃ a b, x = .iptr a b) ∨ (∃ a b d, x = .fn a b d)) :
    ((match ρ o with
    | .pointer none | .nilIface | .nilFunc => runtimePanic .nilDeref
    | .func (.method name) first captured =>
      match (first[0]? : Option Value) with
      | some .nilIface => runtimePanic .nilDeref
      | some (.iface t w) => do
        if (← nilAhead ((← program).types.size + Made.depth) t w name) != some false then
          unsupported (.noEntry "op/nilCheck.the method's receiver behind this interface value is a nil pointer, or cannot be seen to be none, and the arguments act or may panic (ledger 612)")
        pure (.value (.func (.method name) first captured))
      | _ => pure (.value (.func (.method name) first captured))
    | x => pure (.value x) : Sem Next)).run P w = .ok (.value u) w := by
  subst ho
  rcases h with ⟨a, b, rfl⟩ | ⟨a, b, d, e, rfl⟩ | ⟨a, b, rfl⟩ | ⟨a, b, d, rfl⟩
  · generalize ρ o = u at hx; cases hx; rfl
  · generalize ρ o = u at hx; cases hx; rfl
  · generalize ρ o = u at hx; cases hx; rfl
  · generalize ρ o = u at hx; cases hx; rfl

omit [Pin] in
theorem arr_map {α β : Type} (xs : Array α) (f : α → β) : (xs.toList.map f).toArray = xs.map f := by cases xs; simp

omit [Pin] in
theorem rep_bool_inv {G : Gh} {w : World} {b : Bool} {v : Value} (h : Rep G w (.bool b) v) : v = .bool b := by cases h; rfl
omit [Pin] in
theorem rep_str_inv {G : Gh} {w : World} {s : List UInt8} {v : Value} (h : Rep G w (.str s) v) : v = .string ⟨s.toArray⟩ := by cases h; rfl
omit [Pin] in
theorem rep_int_inv {G : Gh} {w : World} {k : IntKind} {n : Int} {v : Value} (h : Rep G w (.int k n) v) : v = .int k n := by cases h; rfl

/-- ALL OPERATIONS THAT YIELD A VALUE. -/
theorem aval_sound (hc : CfgOk P c) {G : Gh} {S : St} {w : World} {tm : List AV} {a : Act} {o : Oper} {v : AV} (hW : Wrel G S w) (ht : RepL G w tm a.tmps.toList) (h : aval c tm o S = some v) : Comes1 P (execOp a.eval o) G S w v S := by
  have now : ∀ {u : Value}, (execOp a.eval o).run P w = .ok (.value u) w → Rep G w v u → Comes1 P (execOp a.eval o) G S w v S := fun h1 h2 => ⟨_, _, _, G, h1, .inl rfl, hW, .refl G S w, h2⟩
  have val : ∀ {s : Sem Value} {u : Value}, execOp a.eval o = (do pure (.value (← s))) → s.run P w = .ok u w → Rep G w v u → Comes1 P (execOp a.eval o) G S w v S := fun he hs hr => by rw [he]; exact comes_value hW hs hr
  obtain ⟨dst, op, type, pos, after, guard⟩ := o
  unfold aval at h
  split at h
  all_goals rename_i hop
  all_goals (simp only at hop)
  all_goals try subst hop
  · exact now (by simp [execOp]) (evalT_rep ht h)
  · exact now (by simp [execOp]) (evalT_rep ht h)
  · -- pick
    split at h
    · rename_i t hx
      have hu := rep_bool_inv (evalT_rep ht hx)
      have hz := evalT_rep ht h
      refine now ?_ hz
      simp only [execOp, hu, Sem.run_bind, asBool, Sem.run_pure, Result.andThen_ok]
      cases t <;> rfl
    · simp at h
  · -- build
    simp only [Option.bind_eq_some_iff] at h
    obtain ⟨ps, hps, h⟩ := h
    obtain ⟨q, hq, hr⟩ := run_abuild hc h (evalP_rep ht hps)
    refine val rfl (u := q) ?_ hr
    rw [← hq, arr_map]
  · -- buildSlice
    rename_i t len parts
    split at h
    · rename_i e hk
      simp only [Option.bind_eq_some_iff] at h
      obtain ⟨ei, hei, h⟩ := h
      split at h
      · rename_i hlen
        simp only [Option.bind_eq_some_iff] at h
        obtain ⟨z, hz, ps, hps, h⟩ := h
        split at h
        · rename_i hzl
          simp only [Option.map_eq_some_iff] at h
          obtain ⟨rows, hrows, rfl⟩ := h
          have := comes_buildSlice hc hW hk hei hlen hz hzl hrows (evalP_rep ht hps)
          rw [arr_map] at this
          exact this
        · simp at h
      · simp at h
    · simp at h
  · -- load
    simp only [Option.bind_eq_some_iff] at h
    obtain ⟨i, hi, p, hp, h⟩ := h
    obtain ⟨q, hq, hr⟩ := run_aload hc hW hi h (evalT_rep ht hp)
    exact val rfl hq hr
  · -- nilCheck
    simp only [Option.bind_eq_some_iff] at h
    obtain ⟨p, hp, h⟩ := h
    have hx := evalT_rep ht hp
    split at h
    case h_5 => simp at h
    all_goals
      simp at h
      subst h
      refine now ?_ hx
      simp only [execOp]
      refine run_nilCheck hx rfl ?_
      simp
  · -- binOp
    simp only [Option.bind_eq_some_iff] at h
    obtain ⟨x, hx, y, hy, h⟩ := h
    split at h
    · simp at h
    · rename_i hn
      obtain ⟨q, hq, hr⟩ := run_abin (X := _) (Y := _) hc h (evalT_rep ht hx) (evalT_rep ht hy) (fun h1 h2 => by
        simp only [h1, h2, Bool.true_and, Bool.not_eq_true', Bool.not_eq_false] at hn
        exact hn)
      exact val rfl hq hr
  · -- unOp
    simp only [Option.bind_eq_some_iff] at h
    obtain ⟨x, hx, h⟩ := h
    obtain ⟨q, hq, hr⟩ := run_aun (P := P) h (evalT_rep ht hx)
    exact val rfl hq hr
  · -- convert
    simp only [Option.bind_eq_some_iff] at h
    obtain ⟨x, hx, h⟩ := h
    obtain ⟨q, hq, hr⟩ := run_aconv hc h (evalT_rep ht hx)
    exact val rfl hq hr
  · -- makeFunc
    simp only [Option.bind_eq_some_iff, Option.map_eq_some_iff] at h
    obtain ⟨x, hx, y, hy, rfl⟩ := h
    refine val rfl (u := _) rfl ?_
    refine rep_fn ?_ ?_
    · simpa using evalL_rep ht hx
    · simpa using evalL_rep ht hy
  · -- slice
    simp only [Option.bind_eq_some_iff] at h
    obtain ⟨x, hx, l, hl, hh, hhh, h⟩ := h
    have hx' := evalT_rep ht hx
    split at h
    · rename_i s hk
      have hu := rep_str_inv hx'
      obtain ⟨q, hq, hr⟩ := run_sliceS hc hk h (evalO_rep ht hl) (evalO_rep ht hhh)
      refine val rfl (u := q) ?_ hr
      rw [hu]
      exact hq
    · rename_i e hk
      simp only [Option.bind_eq_some_iff] at h
      obtain ⟨ei, hei, h⟩ := h
      obtain ⟨q, hq, hr⟩ := run_slice hc hW hk hei h hx' (evalO_rep ht hl) (evalO_rep ht hhh)
      exact val rfl hq hr
    · simp at h
  · -- fieldAddr
    split at h
    · rename_i fs hk
      simp only [Option.bind_eq_some_iff] at h
      obtain ⟨q, hq, fi, hfi, h⟩ := h
      split at h
      · simp at h
      · rename_i h0
        simp only [Option.bind_eq_some_iff] at h
        obtain ⟨x, hx, h⟩ := h
        obtain ⟨r, hr, hrr⟩ := run_fieldAddr hc hk hq hfi h0 h (evalT_rep ht hx)
        exact val rfl hr hrr
    · simp at h
  · -- field
    split at h
    · rename_i fs hk
      simp only [Option.bind_eq_some_iff] at h
      obtain ⟨q, hq, fi, hfi, h⟩ := h
      split at h
      · rename_i cs hx
        obtain ⟨r, hr, hrr⟩ := run_field hc hk hq hfi h (evalT_rep ht hx)
        exact val rfl hr hrr
      · simp at h
    · simp at h
  · -- indexAddr
    simp only [Option.bind_eq_some_iff] at h
    obtain ⟨x, hx, y, hy, h⟩ := h
    obtain ⟨q, hq, hr⟩ := run_indexAddr hc hW h (evalT_rep ht hx) (evalT_rep ht hy)
    exact val rfl hq hr
  · -- index
    simp only [Option.bind_eq_some_iff] at h
    obtain ⟨x, hx, y, hy, h⟩ := h
    obtain ⟨q, hq, hr⟩ := run_index hc h (evalT_rep ht hx) (evalT_rep ht hy)
    exact val rfl hq hr
  · -- lookup
    simp only [Option.bind_eq_some_iff] at h
    obtain ⟨x, hx, y, hy, h⟩ := h
    obtain ⟨q, hq, hr⟩ := run_lookup hc hW h (evalT_rep ht hx) (evalT_rep ht hy)
    exact val rfl hq hr
  · -- extract
    split at h
    · rename_i vs hx
      obtain ⟨us, hu, hr⟩ := rep_tup_inv (evalT_rep ht hx)
      obtain ⟨q, hq, hrq⟩ := hr.get h
      have hq' := hq
      rw [Array.getElem?_toList] at hq'
      exact val rfl (u := q) (by simp [Instr.extract, hu, hq']) hrq
    · simp at h
  · -- len
    rename_i args argTypes
    split at h
    · rename_i x t hx1 hx2
      simp only [Option.bind_eq_some_iff] at h
      obtain ⟨y, hy, h⟩ := h
      obtain ⟨q, hq, hr⟩ := run_len (ty := type) hc hW h (evalT_rep ht hy)
      have e1 : args = #[x] := by cases args; simp_all
      have e2 : argTypes = #[t] := by cases argTypes; simp_all
      subst e1 e2
      exact now (u := q) (by simp [execOp, resolve, invoke, builtin, Sem.run_bind, hq]) hr
    · simp at h
  · -- max
    rename_i args argTypes
    simp only [Option.bind_eq_some_iff] at h
    obtain ⟨y, hy, h⟩ := h
    obtain ⟨q, hq, hr⟩ := run_amax (P := P) argTypes type h (evalL_rep ht hy)
    rw [arr_map] at hq
    exact now (u := q) (by simp [execOp, resolve, invoke, builtin, Sem.run_bind, hq]) hr
  · -- min
    rename_i args argTypes
    simp only [Option.bind_eq_some_iff] at h
    obtain ⟨y, hy, h⟩ := h
    obtain ⟨q, hq, hr⟩ := run_amin (P := P) argTypes type h (evalL_rep ht hy)
    rw [arr_map] at hq
    exact now (u := q) (by simp [execOp, resolve, invoke, builtin, Sem.run_bind, hq]) hr
  · simp at h

end Go.Am

/- THE ABSTRACT MACHINE, ELEVENTH FILE: operations that make memory, and stores. -/
set_option linter.unusedSimpArgs false
set_option linter.unusedVariables false
namespace Go.Am
open Go.RowKit
variable [Pin] {P : Program} {c : Cfg}

/-! ### New objects -/
def Gh.addBlk (G : Gh) (o b : Nat) : Gh := { G with blk := fun o' b' => G.blk o' b' ∨ (o' = o ∧ b' = b) }
omit [Pin] in
theorem Gh.le_addBlk (G : Gh) (o b : Nat) : G.Le (G.addBlk o b) := ⟨fun _ _ h => .inl h, fun _ _ _ h => h, fun _ _ h => h⟩
omit [Pin] in
theorem Gh.addBlk_new (G : Gh) (o b : Nat) : (G.addBlk o b).blk o b := .inr ⟨rfl, rfl⟩

theorem blk_new {G : Gh} {S : St} {w : World} (h : Wrel G S w) {b b' : Nat} (hb : (G.addBlk S.n b).blk S.n b') : b' = b := by
  rcases hb with hb | hb
  · have := h.bblk _ _ hb; omega
  · exact hb.2

theorem push_blk {G : Gh} {S : St} {w : World} {a : AObj} {ob : Obj} (h : Wrel G S w) (ho : ∀ b, ownsA (G.addBlk S.n w.heap.size) S.n a b → (G.addBlk S.n w.heap.size).blk S.n b)
    (hobj : ObjRel (G.addBlk S.n w.heap.size) (w.alloc ob) S.n a) : Wrel (G.addBlk S.n w.heap.size) (S.push a) (w.alloc ob) ∧ Step G S w (G.addBlk S.n w.heap.size) (S.push a) (w.alloc ob) := by
  refine push_step h (Laid.alloc w ob) (G.le_addBlk _ _) (fun o b hb => hb.imp id fun x => x.1) (fun b b' h1 h2 => by rw [blk_new h h1, blk_new h h2]) (fun o g s hs => .inl hs) (fun g s s' h1 h2 => h.fseg _ _ _ _ h1 h2)
    (fun b f hi => .inl hi) (fun b hb => ?_) hobj
  have := blk_new h (ho b hb)
  subst this
  simp

omit [Pin] in
theorem frozen_new (w : World) (c : Array Value) (e : TypeId) (f : Nat) : (w.alloc (.cells c e)).frozen? ⟨w.heap.size, f, none⟩ = false := by
  have h := World.alloc_heap_new w (.cells c e)
  unfold World.frozen?
  rw [h]
  simp

omit [Pin] in
theorem open_new (w : World) (c : Array Value) (e : TypeId) (p n : Nat) (h : p + n ≤ c.size) : Open (w.alloc (.cells c e)) w.heap.size p n := fun j hj => by
  refine ⟨?_, frozen_new w c e _⟩
  rw [World.cell?_alloc_new]
  simp; omega

theorem push_row {G : Gh} {S : St} {w : World} {cs : List AV} {vs : Array Value} (e : TypeId) (h : Wrel G S w) (hr : RepL G w cs vs.toList) (hl : ∀ (j : Nat) (x : AV), cs[j]? = some x → leaf x = true) :
    Wrel (G.addBlk S.n w.heap.size) (S.push (.row cs false)) (w.alloc (.cells vs e)) ∧ Step G S w (G.addBlk S.n w.heap.size) (S.push (.row cs false)) (w.alloc (.cells vs e)) := by
  have hk := (Laid.alloc w (.cells vs e)).kept h
  have hlen : vs.size = cs.length := by simpa using hr.1
  refine push_blk h (fun b hb => hb) ⟨w.heap.size, G.addBlk_new _ _, open_new w vs e 0 _ (by omega), fun j x hj => ?_, fun _ f hi => ?_⟩
  · obtain ⟨u, hu, hru⟩ := hr.get hj
    refine ⟨hl j x hj, u, ?_, hru.mono (G.le_addBlk _ _) hk⟩
    rw [World.cell?_alloc_new]
    simpa using hu
  · have := h.im_lt hi
    omega

theorem comes_alloc (hc : CfgOk P c) {G : Gh} {S : St} {w : World} {e : TypeId} {i : Ty} {z : List AV} (hW : Wrel G S w) (hi : c.ty e = some i) (hz : i.zero = some z) :
    Comes1 P (do pure (.value (← Instr.alloc e true (.tuple #[])))) G S w (.ptr S.n 0) (S.push (.row z false)) := by
  obtain ⟨info, d, h1, h2, h3, h4, h5, h6⟩ := ty_inv (hc.ty e i hi)
  rw [h6] at hz
  simp only [Option.bind_eq_some_iff] at hz
  obtain ⟨zv, hzv, hz⟩ := hz
  obtain ⟨hzr, hzl, hzx⟩ := zeroC_rep (G := G) (w := w) hz
  obtain ⟨k1, k2⟩ := push_row e hW hzr hzl
  exact comes_value' (by simp [Instr.alloc, Sem.run_bind, run_zero_ty h1 hzv, newVar, newRow]) k1 k2 (.ptr _ _ _ (G.addBlk_new _ _))

theorem comes_box {G : Gh} {S : St} {w : World} {x : AV} {u : Value} (e : TypeId) (hW : Wrel G S w) (hx : Rep G w x u) (hl : leafC x = true) :
    Comes1 P (do pure (.value (← Instr.box e u))) G S w (.ptr S.n 0) (S.push (.row x.cells false)) := by
  obtain ⟨h1, h2⟩ := rep_cells hx hl
  obtain ⟨k1, k2⟩ := push_row e hW h1 h2
  exact comes_value' (by simp [Instr.box, Sem.run_bind, newVar, newRow]) k1 k2 (.ptr _ _ _ (G.addBlk_new _ _))

def Gh.addSeg (G : Gh) (o g : Nat) (s : Seg) (I : Nat → Nat → Prop) : Gh := { G with seg := fun o' g' s' => G.seg o' g' s' ∨ (o' = o ∧ g' = g ∧ s' = s), im := fun b f => G.im b f ∨ I b f }
omit [Pin] in
theorem Gh.le_addSeg (G : Gh) (o g : Nat) (s : Seg) (I : Nat → Nat → Prop) : G.Le (G.addSeg o g s I) := ⟨fun _ _ h => h, fun _ _ _ h => .inl h, fun _ _ h => .inl h⟩
omit [Pin] in
theorem Gh.addSeg_new (G : Gh) (o g : Nat) (s : Seg) (I : Nat → Nat → Prop) : (G.addSeg o g s I).seg o g s := .inr ⟨rfl, rfl, rfl⟩

/-- A new row of cells, with or without cells of it that are written no more. -/
theorem push_seg {G : Gh} {S : St} {w : World} {a : AObj} {ob : Obj} (h : Wrel G S w) (s : Seg) (hb : s.b = w.heap.size) (ha : genOf a = some 0) (I : Nat → Nat → Prop) (hI : ∀ b f, I b f → b = w.heap.size ∧ ∃ u, (w.alloc ob).cell? ⟨b, f, none⟩ = some u)
    (hobj : ObjRel (G.addSeg S.n 0 s I) (w.alloc ob) S.n a) : Wrel (G.addSeg S.n 0 s I) (S.push a) (w.alloc ob) ∧ Step G S w (G.addSeg S.n 0 s I) (S.push a) (w.alloc ob) := by
  have hnew : ∀ g s', (G.addSeg S.n 0 s I).seg S.n g s' → g = 0 ∧ s' = s := fun g s' hs => by
    rcases hs with hs | hs
    · have := (h.bseg _ _ _ hs).1; omega
    · exact hs.2
  refine push_step h (Laid.alloc w ob) (G.le_addSeg _ _ _ _) (fun o b hb => .inl hb) (fun b b' h1 h2 => h.fblk _ _ _ h1 h2) (fun o g s' hs => ?_) (fun g s1 s2 h1 h2 => by rw [(hnew _ _ h1).2, (hnew _ _ h2).2])
    (fun b f hi => hi.imp id fun x => ⟨by have := (hI b f x).1; omega, (hI b f x).2⟩) (fun b hb' => ?_) hobj
  · rcases hs with hs | ⟨rfl, rfl, rfl⟩
    · exact .inl hs
    · exact .inr ⟨rfl, fun g' hg => Nat.zero_le _⟩
  · have : ∃ s', (G.addSeg S.n 0 s I).seg S.n 0 s' ∧ 0 < s'.cp ∧ s'.b = b := by
      cases a <;> simp [genOf] at ha <;> subst ha <;> exact hb'
    obtain ⟨s', h1, h2, h3⟩ := this
    rw [(hnew _ _ h1).2] at h3
    subst h3
    rw [hb]
    simp

theorem comes_makeSlice (hc : CfgOk P c) {G : Gh} {S : St} {w : World} {t e : TypeId} {ei : Ty} {z : List AV} {n m : Int} {k k' : IntKind} (hW : Wrel G S w) (hk : kindOf c t = .slice e) (he : c.ty e = some ei) (hz : ei.zero = some z)
    (h : 0 ≤ n ∧ n ≤ m ∧ m ≤ 281474976710656 ∧ ei.bytes * m ≤ 281474976710656 ∧ z.length = ei.size ∧ 0 < ei.size) :
    Comes1 P (do pure (.value (← Instr.makeSlice t (.int k n) (.int k' m)))) G S w (.sref S.n 0 0 n.toNat) (S.push (.seq 0 ei.size (List.replicate n.toNat z) 0)) := by
  obtain ⟨h1, h2, h3, h4, h5, h6⟩ := h
  have hu := kind_slice hc hk
  obtain ⟨einfo, d, k1, _, _, k4, k5, k6⟩ := ty_inv (hc.ty e ei he)
  rw [k6] at hz
  simp only [Option.bind_eq_some_iff] at hz
  obtain ⟨zv, hzv, hz⟩ := hz
  obtain ⟨hzr, hzl, hzx⟩ := zeroC_rep (G := G) (w := w) hz
  have hzs : zv.cells.size = einfo.size := by have := hzr.1; simp at this; omega
  generalize hcells : (Array.range (m.toNat * einfo.size)).map (fun q => zv.cells[q % zv.cells.size]!) = cells
  have hrows : RowsIn G w ei.size (List.replicate m.toNat z) cells.toList := by
    rw [← hcells, hzs, ← hzs, range_zero zv.cells m.toNat zv.cells.size rfl (by omega), ← h5]
    exact RowsIn.replicate hzr hzl m.toNat
  have hsize : cells.size = m.toNat * ei.size := by have := hrows.size; simpa using this
  have hk' := (Laid.alloc w (.cells cells e)).kept hW
  have hg : G.Le (G.addSeg S.n 0 ⟨w.heap.size, 0, 0, m.toNat, ei.size⟩ fun _ _ => False) := G.le_addSeg _ _ _ _
  obtain ⟨g1, g2⟩ := push_seg (ob := .cells cells e) (a := .seq 0 ei.size (List.replicate n.toNat z) 0) hW ⟨w.heap.size, 0, 0, m.toNat, ei.size⟩ rfl rfl (fun _ _ => False) (fun b f x => x.elim)
    ⟨⟨w.heap.size, 0, 0, m.toNat, ei.size⟩, G.addSeg_new _ _ _ _, rfl, by simp; omega, fun i r hi => by
      rw [List.getElem?_replicate] at hi
      split at hi
      · simp at hi; subst hi; exact h5
      · simp at hi, fun hpos => ⟨open_new w cells e 0 _ (by simp; omega), fun i r j x hi hj => by
      have hi' : (List.replicate m.toNat z)[i]? = some r := by
        rw [List.getElem?_replicate] at hi ⊢
        split at hi
        · rw [if_pos (by omega)]; exact hi
        · simp at hi
      obtain ⟨a1, u, a2, a3⟩ := hrows.cell i r j x hi' hj
      refine ⟨a1, u, ?_, a3.mono hg hk'⟩
      show (w.alloc (.cells cells e)).cell? ⟨w.heap.size, 0 + i * ei.size + j, none⟩ = some u
      rw [World.cell?_alloc_new, Nat.zero_add]
      simpa using a2, fun f hi => by
      rcases hi with hi | hi
      · have := hW.im_lt hi
        simp at this
      · exact hi.elim⟩⟩
  have hwl : ∀ q : Int, 0 ≤ q → q ≤ 281474976710656 → IntKind.i64.wrap q = q := fun q a b => IntWalk.i64_in _ (by omega)
  refine comes_value' (u := .slice (some ⟨w.heap.size, 0, none⟩) n.toNat m.toNat) (w' := w.alloc (.cells cells e)) ?_ g1 g2 ?_
  · have hb : (einfo.bytes : Int) * m ≤ 281474976710656 := by rw [← k5]; exact h4
    have hbad : (decide (m < 0) || decide ((einfo.bytes : Int) * m > 2 ^ 48) || decide (n < 0) || decide (n > m)) = false := by
      simp
      omega
    have hz0 : einfo.size ≠ 0 := by omega
    simp only [Instr.makeSlice, Sem.run_bind, run_underlying hu, Result.andThen_ok, asInt, asIntOf, Sem.run_pure, run_info_ty k1, hwl n h1 (by omega), hwl m (by omega) h3]
    rw [if_neg (by simpa using hbad)]
    simp only [Sem.run_bind, run_askRoom, Result.andThen_ok, run_size_ty k1, Sem.run_pure]
    by_cases h0 : m.toNat * einfo.size = 0
    · rw [if_pos h0]
      have hc0 : cells = #[] := by rw [← hcells, h0]; simp
      simp only [h0, Sem.run_bind, Sem.run_pure, Result.andThen_ok, newRow, run_newObj_alloc]
      rw [hc0]
      have hr0 : Array.range 0 = #[] := by simp
      rw [hr0]
      simp
    · rw [if_neg h0]
      simp only [Sem.run_bind, run_zero_ty k1 hzv, Sem.run_pure, Result.andThen_ok, newRow, run_newObj_alloc, hcells]
  · by_cases h0 : 0 < m.toNat
    · have := Rep.sref (w := w.alloc (.cells cells e)) S.n 0 0 n.toNat _ (G.addSeg_new S.n 0 ⟨w.heap.size, 0, 0, m.toNat, ei.size⟩ fun _ _ => False) h0 (by simp; omega)
      simpa using this
    · have hm : m.toNat = 0 := by omega
      have hn : n.toNat = 0 := by omega
      rw [hm, hn]
      exact Rep.sref0 S.n 0 0 _ (G.addSeg_new S.n 0 ⟨w.heap.size, 0, 0, 0, ei.size⟩ fun _ _ => False) rfl _

/-! ### Stores -/
omit [Pin] in
theorem setCells_turned (b : Nat) : ∀ (vs : List Value) (o : Nat) (w : World), Turned b w (w.setCells b o vs) ∧ (w.setCells b o vs).heap.size = w.heap.size
  | [], o, w => ⟨⟨Nat.le_refl _, rfl, rfl, rfl, fun _ _ _ => rfl⟩, rfl⟩
  | v :: vs, o, w => by
    obtain ⟨h1, h2⟩ := setCells_turned b vs (o + 1) (w.setCell ⟨b, o, none⟩ v)
    have hs : (w.setCell ⟨b, o, none⟩ v).heap.size = w.heap.size := by simp
    rw [World.setCells]
    refine ⟨⟨by rw [h2, hs]; exact Nat.le_refl _, h1.os, h1.tape, h1.output, fun k hk hne => ?_⟩, by rw [h2, hs]⟩
    rw [h1.heap k (by rw [hs]; exact hk) hne]
    exact Below.heap_setCell w _ v k hne

omit [Pin] in
theorem open_setCells {w : World} {b p n : Nat} (h : Open w b p n) (b' o : Nat) (vs : List Value) : Open (w.setCells b' o vs) b p n := fun j hj => by
  obtain ⟨h1, h2⟩ := h j hj
  exact ⟨World.isSome_setCells b' vs o w _ h1, by rw [World.frozen?_setCells]; exact h2⟩

omit [Pin] in
theorem run_storeVar_gen {t : TypeId} {i : Ty} (hi : tyOf P t = some i) {w : World} {b o : Nat} {v : Value} (ht : Open w b o v.cells.size) (hs : v.cells.size = i.size) (h1 : ∀ u ∈ v.cells.toList, u.oneCell' = true) :
    (Instr.storeAt t (.pointer (some ⟨b, o, none⟩)) v).run P w = .ok () (w.setCells b o v.cells.toList) := by
  obtain ⟨info, d, k1, _, _, k4, _⟩ := ty_inv hi
  have := run_storeCells_cells (P := P) b o v.cells.toList 0 w (fun j hj => by simpa using (ht j (by simpa using hj)).1) (fun j hj => by simpa using (ht j (by simpa using hj)).2) h1
  simp only [Nat.add_zero] at this
  have hs' : v.cells.size = info.size := by omega
  simp [Instr.storeAt, Instr.sureAddr, storeVar, Sem.run_bind, run_size_ty k1, hs', this]

omit [Pin] in
/-- The cells behind a store of some of them. -/
theorem cellsAt_setCells {G : Gh} {w : World} {b p off : Nat} {cs xs : List AV} {vs : List Value} (h : CellsAt G w b p cs) (ho : Open w b p cs.length) (hx : RepL G w xs vs) (hl : ∀ (j : Nat) (x : AV), xs[j]? = some x → leaf x = true) (hle : off + xs.length ≤ cs.length)
    (hk : Kept G w (w.setCells b (p + off) vs)) : CellsAt G (w.setCells b (p + off) vs) b p (splice cs off xs) := fun j x hj => by
  have hv := hx.1
  have htk : (cs.take off).length = off := by rw [List.length_take]; omega
  unfold splice at hj
  rw [List.append_assoc, List.getElem?_append] at hj
  split at hj
  · rename_i hlt
    rw [htk] at hlt
    rw [List.getElem?_take, if_pos hlt] at hj
    obtain ⟨h1, u, h2, h3⟩ := h j x hj
    exact ⟨h1, u, by rw [World.cell?_setCells_out b vs _ w _ (fun _ _ => by left; show p + j < p + off; omega)]; exact h2, h3.mono (.refl G) hk⟩
  · rename_i hge
    rw [htk] at hge hj
    rw [List.getElem?_append] at hj
    split at hj
    · rename_i hlt
      obtain ⟨u, hu, hr⟩ := hx.get hj
      have hjl : j - off < vs.length := (List.getElem?_eq_some_iff.1 hu).1
      refine ⟨hl _ x hj, u, ?_, hr.mono (.refl G) hk⟩
      have := World.cell?_setCells_in b vs (p + off) w (fun i hi => by
        have := (ho (off + i) (by omega)).1
        rw [show p + off + i = p + (off + i) by omega]; exact this) (j - off) hjl
      rw [show p + off + (j - off) = p + j by omega] at this
      rw [this, ← hu, List.getElem?_eq_getElem hjl]
    · rename_i hge2
      rw [List.getElem?_drop] at hj
      rw [show off + xs.length + (j - off - xs.length) = j by omega] at hj
      obtain ⟨h1, u, h2, h3⟩ := h j x hj
      exact ⟨h1, u, by rw [World.cell?_setCells_out b vs _ w _ (fun _ _ => by right; show p + off + vs.length ≤ p + j; omega)]; exact h2, h3.mono (.refl G) hk⟩

omit [Pin] in
theorem splice_length {cs xs : List AV} {off : Nat} (h : off + xs.length ≤ cs.length) : (splice cs off xs).length = cs.length := by
  simp [splice]; omega

theorem comes_store (hc : CfgOk P c) {G : Gh} {S S' : St} {w : World} {t : TypeId} {i : Ty} {a x : AV} {u v : Value} (hW : Wrel G S w) (hi : c.ty t = some i) (h : S.store i a x = some S') (ha : Rep G w a u) (hx : Rep G w x v) :
    Comes1 P (do Instr.storeAt t u v; pure .skip) G S w .undef S' := by
  have hi := hc.ty t i hi
  unfold St.store at h
  split at h
  case isFalse => simp at h
  rename_i hq
  obtain ⟨hl, hsz⟩ := hq
  obtain ⟨hr, hlf⟩ := rep_cells hx hl
  have hvs : v.cells.size = i.size := by have := hr.1; simp at this; omega
  have hone : ∀ u ∈ v.cells.toList, u.oneCell' = true := fun q hq => by
    obtain ⟨j, hj⟩ := List.getElem?_of_mem hq
    have hjl : j < x.cells.length := by rw [← hr.1]; exact (List.getElem?_eq_some_iff.1 hj).1
    obtain ⟨q', h1, h2⟩ := hr.get (List.getElem?_eq_getElem hjl)
    rw [hj] at h1
    cases h1
    exact rep_oneCell h2 (hlf j _ (List.getElem?_eq_getElem hjl))
  split at h
  · rename_i o off
    split at h
    · rename_i cs hg
      split at h
      · rename_i hle
        obtain ⟨hbase, rfl⟩ := St.putO_some h
        cases ha with
        | ptr _ _ b hb =>
          obtain ⟨hcs, hop, him⟩ := hW.row hg hb
          have him := him rfl
          have hk : Kept G w (w.setCells b (0 + off) v.cells.toList) := fun b' f q hi' hq => by
            rw [World.cell?_setCells_out b _ _ w _ (fun e _ => absurd hi' (by rw [show b' = b from e]; exact him f))]; exact hq
          have hat := cellsAt_setCells hcs hop hr hlf (by omega) hk
          obtain ⟨ht, hts⟩ := setCells_turned b v.cells.toList (0 + off) w
          obtain ⟨g1, g2⟩ := upd_step (G' := G) (a := .row (splice cs off x.cells) false) hW hg (fun e => by cases e) hbase ht (.inl hb) (.refl G) hk (fun o b h => h) (fun o g s h => .inl h) (fun g g' h => by simp [genOf] at h) (fun g h => by simp [genOf] at h) (fun g s s' h1 h2 => hW.fseg _ _ _ _ h1 h2)
            (fun b f h => .inl h) (fun b' h => .inl h) ⟨b, hb, by rw [splice_length (by omega)]; exact open_setCells hop _ _ _, fun j y hj => by
              have h9 := hat j y hj
              rw [Nat.zero_add j] at h9
              exact h9, fun _ => him⟩
          refine comes_unit (w' := w.setCells b (0 + off) v.cells.toList) ?_ g1 g2
          rw [Nat.zero_add]
          exact run_storeVar_gen hi (fun j hj => by have := hop (off + j) (by omega); rwa [Nat.zero_add] at this) hvs hone
      · simp at h
    · simp at h
  · rename_i o g r off
    split at h
    · rename_i g' es rows exp hg
      simp only [Option.bind_eq_some_iff] at h
      obtain ⟨cs, hcs, h⟩ := h
      split at h
      · rename_i hq
        obtain ⟨rfl, hexp, hle⟩ := hq
        obtain ⟨hbase, rfl⟩ := St.putO_some h
        cases ha with
        | eptr _ _ _ _ s hs =>
          obtain ⟨hes, hlen, hrl, hcell, hpos⟩ := hW.seq hg hs
          have hrlt : r < rows.length := (List.getElem?_eq_some_iff.1 hcs).1
          obtain ⟨hop, him⟩ := hpos (by omega)
          have hcsl := hrl _ _ hcs
          have hrow : r * s.es + s.es ≤ s.cp * s.es := by
            have : (r + 1) * s.es ≤ s.cp * s.es := Nat.mul_le_mul_right _ (by omega)
            rw [Nat.add_mul] at this; omega
          have hexp' : exp * s.es ≤ r * s.es := Nat.mul_le_mul_right _ hexp
          have hopr : Open w s.b (s.st + r * s.es) cs.length := fun j hj => by
            have := hop (r * s.es + j) (by omega)
            rwa [← Nat.add_assoc] at this
          have hk : Kept G w (w.setCells s.b (s.st + r * s.es + off) v.cells.toList) := fun b' f q hi' hq => by
            rw [World.cell?_setCells_out s.b _ _ w _ (fun e _ => .inl ?_)]; exact hq
            have := him f (by rw [← show b' = s.b from e]; exact hi')
            show f < s.st + r * s.es + off
            omega
          have hat := cellsAt_setCells (hcell _ _ hcs) hopr hr hlf (by omega) hk
          obtain ⟨ht, hts⟩ := setCells_turned s.b v.cells.toList (s.st + r * s.es + off) w
          have hown : ownsA G o (.seq g es rows exp) s.b := ⟨s, hs, by omega, rfl⟩
          have hxl : off + x.cells.length ≤ cs.length := by omega
          obtain ⟨g1, g2⟩ := upd_step (G' := G) (a := .seq g es (rows.set r (splice cs off x.cells)) exp) hW hg (fun e => by cases e) hbase ht (.inl hown) (.refl G) hk (fun o b h => h) (fun o g s h => .inl h) (fun g g' h h' => by simp [genOf] at h h'; omega) (fun g h => rfl) (fun g s s' h1 h2 => hW.fseg _ _ _ _ h1 h2)
            (fun b f h => .inl h) (fun b' h => .inl h) ⟨s, hs, hes, by simpa using hlen, fun k q hk' => by
              rw [List.getElem?_set] at hk'
              split at hk'
              · rename_i e
                subst e
                simp [hrlt] at hk'
                subst hk'
                rw [splice_length hxl]; exact hcsl
              · exact hrl _ _ hk', fun hcp => ⟨open_setCells hop _ _ _, fun k q j y hk' hj => by
              rw [List.getElem?_set] at hk'
              split at hk'
              · rename_i e
                subst e
                simp [hrlt] at hk'
                subst hk'
                exact hat j y hj
              · rename_i hne
                obtain ⟨a1, q', a2, a3⟩ := hcell _ _ hk' j y hj
                refine ⟨a1, q', ?_, a3.mono (.refl G) hk⟩
                have hjl : j < s.es := by rw [← hrl _ _ hk']; exact (List.getElem?_eq_some_iff.1 hj).1
                rw [World.cell?_setCells_out s.b _ _ w _ (fun _ _ => ?_)]; exact a2
                have hvl : v.cells.toList.length = x.cells.length := hr.1
                rcases Nat.lt_or_gt_of_ne hne with h' | h'
                · right
                  have : (r + 1) * s.es ≤ k * s.es := Nat.mul_le_mul_right _ h'
                  rw [Nat.add_mul] at this
                  show s.st + r * s.es + off + v.cells.toList.length ≤ s.st + k * s.es + j
                  omega
                · left
                  have : (k + 1) * s.es ≤ r * s.es := Nat.mul_le_mul_right _ h'
                  rw [Nat.add_mul] at this
                  show s.st + k * s.es + j < s.st + r * s.es + off
                  omega, him⟩⟩
          refine comes_unit (w' := w.setCells s.b (s.st + r * s.es + off) v.cells.toList) ?_ g1 g2
          exact run_storeVar_gen hi (fun j hj => by have := hopr (off + j) (by omega); rwa [← Nat.add_assoc] at this) hvs hone
      · simp at h
    · simp at h
  · simp at h

end Go.Am

/- THE ABSTRACT MACHINE, TWELFTH FILE: append. -/
set_option linter.unusedSimpArgs false
set_option linter.unusedVariables false
namespace Go.Am
open Go.RowKit
variable [Pin] {P : Program} {c : Cfg}

omit [Pin] in
theorem growBy_le (n : Nat) : ∀ (k c : Nat), c ≤ n + n / 4 + 193 → Builtin.growBy n k c ≤ n + n / 4 + 193
  | 0, c, h => h
  | k + 1, c, h => by
    unfold Builtin.growBy
    split
    · exact h
    · exact growBy_le n k _ (by omega)

omit [Pin] in
theorem nextcap_le {n c : Nat} (h : c < n) : Builtin.nextslicecap n c ≤ n + n / 4 + 1000 := by
  unfold Builtin.nextslicecap
  split
  · omega
  · split
    · omega
    · have := growBy_le n 4 c (by omega)
      omega

/-- The cells that are to be appended, as the model reads them. -/
def NewsOf (P : Program) (G : Gh) (w : World) (es : Nat) (ys : Rows) (v : Value) (news : List Value) : Prop :=
  RowsIn G w es ys news ∧ (Builtin.lenOf v).run P w = .ok ys.length w ∧ (∀ W : World, (∀ b f u, w.cell? ⟨b, f, none⟩ = some u → W.cell? ⟨b, f, none⟩ = some u) → (Builtin.firstCells es ys.length v).run P W = .ok news.toArray W)

omit [Pin] in
theorem rowsIn_of_cells {G : Gh} {w : World} {b p es : Nat} {rows : Rows} (hl : ∀ (i : Nat) (r : List AV), rows[i]? = some r → r.length = es) (hc : ∀ (i : Nat) (r : List AV), rows[i]? = some r → CellsAt G w b (p + i * es) r) :
    ∃ vals, RowsIn G w es rows vals ∧ ∀ j v, vals[j]? = some v → w.cell? ⟨b, p + j, none⟩ = some v := by
  induction rows generalizing p with
  | nil => exact ⟨[], RowsIn.nil G w es, fun j v h => by simp at h⟩
  | cons r rs ih =>
    obtain ⟨vals, h1, h2⟩ := ih (p := p + es) (fun i q hi => hl (i + 1) q (by simpa using hi)) (fun i q hi => by
      have := hc (i + 1) q (by simpa using hi)
      rwa [show p + (i + 1) * es = p + es + i * es by rw [Nat.add_mul]; omega] at this)
    obtain ⟨vs, k1, k2, k3⟩ := (hc 0 r (by simp)).vals
    have hr := hl 0 r (by simp)
    refine ⟨vs ++ vals, by
      have := (RowsIn.one k1 (fun j x hj => (hc 0 r (by simp) j x hj).1) hr).append h1
      simpa using this, fun j v hj => ?_⟩
    rw [List.getElem?_append] at hj
    split at hj
    · have := k2 j v hj
      simpa using this
    · rename_i hge
      have := h2 _ v hj
      rwa [show p + es + (j - vs.length) = p + j by omega] at this

omit [Pin] in
theorem rowsAt_vals {G : Gh} {w : World} {b p es : Nat} {rows : Rows} (h : RowsAt G w b p es rows) : ∃ vals, RowsIn G w es rows vals ∧ ∀ j v, vals[j]? = some v → w.cell? ⟨b, p + j, none⟩ = some v :=
  rowsIn_of_cells h.len fun i r hi j x hj => let ⟨a, u, b, d⟩ := h.cell i r j x hi hj; ⟨a, u, b.2, d⟩

omit [Pin] in
theorem add_cell (b p j : Nat) : (⟨b, p, none⟩ : Addr).add j = ⟨b, p + j, none⟩ := Addr.add_mid b p j

omit [Pin] in
theorem run_first {b p n size cap : Nat} {vals : List Value} {W : World} (hl : vals.length = n * size) (h : ∀ j v, vals[j]? = some v → W.cell? ⟨b, p + j, none⟩ = some v) :
    (Builtin.firstCells size n (.slice (some ⟨b, p, none⟩) n cap)).run P W = .ok vals.toArray W :=
  run_firstCells_some (P := P) W size n ⟨b, p, none⟩ n cap vals hl (fun j v hj => by rw [add_cell]; exact h j v hj)

theorem newsOf (hc : CfgOk P c) {G : Gh} {S : St} {w : World} {y : AV} {v : Value} {ys : Rows} {es : Nat} (hW : Wrel G S w) (hy : Rep G w y v) (h : appRows S y = some ys) (hh : headOk es ys = true) : ∃ news, NewsOf P G w es ys v news := by
  have empty : ∀ a cap, v = .slice a 0 cap → ys = [] → ∃ news, NewsOf P G w es ys v news := by
    rintro a cap rfl rfl
    refine ⟨[], RowsIn.nil G w es, by simp [Builtin.lenOf], fun W _ => ?_⟩
    cases a with
    | none => simp [Builtin.firstCells]
    | some a => simp [Builtin.firstCells, loadCells, loadCellsFrom]
  have immut : ∀ {rows : Rows}, rows = ys → (∃ a cap, v = .slice a rows.length cap ∧ rows.length ≤ cap ∧ (a = none → cap = 0) ∧ (rows = [] ∨ ∃ b p es, a = some ⟨b, p, none⟩ ∧ RowsAt G w b p es rows)) → ∃ news, NewsOf P G w es ys v news := by
    rintro rows rfl ⟨a, cap, rfl, hcap, hn, hr⟩
    rcases hr with rfl | ⟨b, p, es', rfl, hat⟩
    · exact empty _ _ rfl rfl
    · rcases headOk_len hh hat.len with h' | h'
      · subst h'; exact empty _ _ rfl rfl
      · subst h'
        obtain ⟨vals, h1, h2⟩ := rowsAt_vals hat
        exact ⟨vals, h1, by simp [Builtin.lenOf], fun W hW => run_first h1.size (fun j v hj => hW _ _ _ (h2 j v hj))⟩
  unfold appRows at h
  split at h
  · rename_i s
    simp at h
    subst h
    obtain rfl := rep_str_inv hy
    refine ⟨s.map fun b => .int .u8 b.toNat, ?_, ?_, fun W _ => ?_⟩
    · cases s with
      | nil => exact RowsIn.nil G w es
      | cons b s =>
        simp [headOk] at hh
        subst hh
        generalize b :: s = l
        refine ⟨by simp, fun i r hi => ?_, fun i r j x hi hj => ?_⟩
        · simp at hi; obtain ⟨_, _, rfl⟩ := hi; rfl
        · simp at hi
          obtain ⟨q, hq, rfl⟩ := hi
          cases j with
          | zero => simp at hj; subst hj; exact ⟨rfl, .int .u8 q.toNat, by simp [hq], .int _ _⟩
          | succ j => simp at hj
    · simp [Builtin.lenOf, mk_size]
    · simp only [Builtin.firstCells, Sem.run_pure]
      congr 1
      rw [ByteArray.extract_mk]
      simp
  · rename_i hns
    by_cases hs : ∃ o g off len, y = .sref o g off len
    · obtain ⟨o, g, off, len, rfl⟩ := hs
      simp only [St.rowsOf, St.rows] at h
      split at h
      · rename_i g' es' rows exp hg
        split at h
        · rename_i hq
          obtain ⟨rfl, hle⟩ := hq
          simp at h
          subst h
          cases hy with
          | sref _ _ _ _ s hs hoff hcap =>
            obtain ⟨hes, hlen, hrl, hcell, _⟩ := hW.seq hg hs
            have key : ∀ (i : Nat) (r : List AV), ((rows.drop off).take len)[i]? = some r → rows[off + i]? = some r := fun i r hi => by
              rw [List.getElem?_take] at hi
              split at hi
              · rw [List.getElem?_drop] at hi; exact hi
              · simp at hi
            have hn : ((rows.drop off).take len).length = len := by simp; omega
            rcases headOk_len hh (fun i r hi => hrl _ _ (key i r hi)) with h' | h'
            · rw [h'] at hn
              simp at hn
              subst hn
              exact empty _ _ rfl h'
            · subst h'
              obtain ⟨vals, h1, h2⟩ := rowsIn_of_cells (G := G) (w := w) (b := s.b) (p := s.st + off * s.es) (fun i r hi => hrl _ _ (key i r hi)) (fun i r hi => by
                have := hcell _ _ (key i r hi)
                rwa [show s.st + (off + i) * s.es = s.st + off * s.es + i * s.es by rw [Nat.add_mul]; omega] at this)
              refine ⟨vals, h1, by simp [Builtin.lenOf, hn], fun W hW => ?_⟩
              have hsz := h1.size
              rw [hn] at hsz ⊢
              exact run_first hsz (fun j v hj => hW _ _ _ (h2 j v hj))
          | sref0 _ _ _ s hs hoff a =>
            simp at hle
            exact empty _ _ rfl (by simp)
        · simp at h
      · simp at h
    · exact immut rfl (rep_rows_inv hy (rowsOf_cases h (fun o g off len e => hs ⟨o, g, off, len, e⟩)))

def isIntD : TypeDesc → Bool
  | .int _ => true
  | _ => false

omit [Pin] in
theorem isIntD_match {du : TypeDesc} (hz : isIntD du = false) : Builtin.append_.match_1 (fun _ => Bool) du (fun _ => true) (fun _ => false) = false := by
  cases du <;> first | rfl | exact Bool.noConfusion hz

/-- Whether append is given a string or a slice, not a number of zeros. -/
theorem not_int (hc : CfgOk P c) {u : TypeId} {ui : Ty} (hu : c.ty u = some ui) (hk : ∀ k, ui.kind ≠ .int k) : ∃ du, P.underlying u = some du ∧ isIntD du = false := by
  obtain ⟨_, du, _, hu2, hu3, _⟩ := ty_inv (hc.ty _ _ hu)
  refine ⟨du, hu2, ?_⟩
  rw [hu3] at hk
  cases du <;> first | rfl | exact absurd rfl (hk _)

omit [Pin] in
/-- append: nothing. -/
theorem run_append_none {w : World} {t u ty e : TypeId} {i : TypeInfo} {du : TypeDesc} {base : Option Addr} {n cap : Nat} {v : Value} (ht : P.underlying t = some (.slice e)) (hi : P.info? e = some i) (hu : P.underlying u = some du) (hz : isIntD du = false)
    (hlen : (Builtin.lenOf v).run P w = .ok 0 w) (hf : (Builtin.firstCells i.size 0 v).run P w = .ok #[] w) (hcap : n ≤ cap) :
    (Builtin.append_ #[t, u] ty #[.slice base n cap, v]).run P w = .ok (.slice base n cap) w := by
  cases base <;> simp [Builtin.append_, isIntD_match hz, run_underlying ht, run_underlying hu, sizeOf, typeInfo, hi, hlen, hf, hcap, storeCells]

omit [Pin] in
/-- append: there is room. -/
theorem run_append_room' {w : World} {t u ty e : TypeId} {i : TypeInfo} {du : TypeDesc} {b p n m cap : Nat} {v : Value} {news : List Value} (ht : P.underlying t = some (.slice e)) (hi : P.info? e = some i) (hu : P.underlying u = some du) (hz : isIntD du = false)
    (hlen : (Builtin.lenOf v).run P w = .ok m w) (hf : (Builtin.firstCells i.size m v).run P w = .ok news.toArray w) (hcap : n + m ≤ cap) (ho : Open w b (p + n * i.size) news.length) (h1 : ∀ u ∈ news, u.oneCell' = true) :
    (Builtin.append_ #[t, u] ty #[.slice (some ⟨b, p, none⟩) n cap, v]).run P w = .ok (.slice (some ⟨b, p, none⟩) (n + m) cap) (w.setCells b (p + n * i.size) news) := by
  have hst := run_storeCells_cells (P := P) b (p + n * i.size) news 0 w (fun j hj => by simpa using (ho j hj).1) (fun j hj => by simpa using (ho j hj).2) h1
  simp only [Nat.add_zero] at hst
  simp [Builtin.append_, isIntD_match hz, run_underlying ht, run_underlying hu, sizeOf, typeInfo, hi, hlen, hf, hcap, add_cell, hst]

omit [Pin] in
/-- append: a new row. -/
theorem run_append_grow' {w : World} {t u ty e : TypeId} {i : TypeInfo} {z : Value} {du : TypeDesc} {base : Option Addr} {n m cap : Nat} {v : Value} {olds news : List Value} (ht : P.underlying t = some (.slice e)) (hi : P.info? e = some i) (hz' : i.zero = some z) (hu : P.underlying u = some du) (hz : isIntD du = false)
    (hlen : (Builtin.lenOf v).run P w = .ok m w) (hf : (Builtin.firstCells i.size m v).run P w.drew = .ok news.toArray w.drew) (hfo : (Builtin.firstCells i.size n (.slice base n cap)).run P w.drew = .ok olds.toArray w.drew) (hcap : cap < n + m)
    (h63 : n + m ≤ 9223372036854775807) (hfit : Builtin.nextslicecap (n + m) cap * i.bytes ≤ 281474976710656) :
    (Builtin.append_ #[t, u] ty #[.slice base n cap, v]).run P w =
      .ok (.slice (some ⟨w.heap.size, 0, none⟩) (n + m) (grownCap w (n + m) cap e))
        (w.drew.alloc (.cells (olds.toArray ++ news.toArray ++ Builtin.zeroCells z.cells (grownCap w (n + m) cap e - (n + m))) e)) := by
  have hn : ¬ (n + m ≤ cap) := by omega
  have h63' : ¬ (9223372036854775807 < ((n : Int) + (m : Int))) := by omega
  have h48' : ¬ (281474976710656 < Builtin.nextslicecap (n + m) cap * i.bytes) := by omega
  simp [Builtin.append_, isIntD_match hz, run_underlying ht, run_underlying hu, sizeOf, typeInfo, zeroValue, hi, hz', hlen, hn, h63', h48', Question.forced, hf, hfo, newRow, grownCap]
  congr 2
  apply Array.ext'
  simp [List.append_assoc]

/-! ### Objects whose row grows -/
theorem addSeg_next {G : Gh} {S : St} {w : World} (h : Wrel G S w) {o g : Nat} {a0 : AObj} {s s' : Seg} {I : Nat → Nat → Prop} (hget : S.get o = some a0) (hg : genOf a0 = some g) (hs : (G.addSeg o (g + 1) s I).seg o (g + 1) s') : s' = s := by
  rcases hs with hs | ⟨_, _, e⟩
  · have := (h.bseg _ _ _ hs).2 a0 g hget hg
    omega
  · exact e

theorem addSeg_fun {G : Gh} {S : St} {w : World} (h : Wrel G S w) {o g : Nat} {a0 : AObj} {s : Seg} {I : Nat → Nat → Prop} (hget : S.get o = some a0) (hg : genOf a0 = some g) : ∀ g' s1 s2, (G.addSeg o (g + 1) s I).seg o g' s1 → (G.addSeg o (g + 1) s I).seg o g' s2 → s1 = s2 := fun g' s1 s2 h1 h2 => by
  by_cases e : g' = g + 1
  · subst e
    rw [addSeg_next h hget hg h1, addSeg_next h hget hg h2]
  · exact h.fseg _ _ _ _ (h1.resolve_right fun x => e x.2.1) (h2.resolve_right fun x => e x.2.1)

/-- Its row is a new one. -/
theorem upd_seg_new {G : Gh} {S : St} {w w' : World} {o g : Nat} {a0 a : AObj} {s : Seg} {I : Nat → Nat → Prop} (h : Wrel G S w) (hget : S.get o = some a0) (hg : genOf a0 = some g) (ha : genOf a = some (g + 1)) (hbase : S.base ≤ o) (hw : Laid w w') (hlt : w.heap.size < w'.heap.size) (hsb : s.b = w.heap.size)
    (hI : ∀ b f, I b f → b = w.heap.size ∧ ∃ u, w'.cell? ⟨b, f, none⟩ = some u) (hobj : ObjRel (G.addSeg o (g + 1) s I) w' o a) :
    Wrel (G.addSeg o (g + 1) s I) (S.set o a) w' ∧ Step G S w (G.addSeg o (g + 1) s I) (S.set o a) w' := by
  refine upd_step (b := w.heap.size) (a := a) h hget (fun e => by subst e; simp [genOf] at hg) hbase (Turned.of_laid hw) (.inr hw) (G.le_addSeg _ _ _ _) (hw.kept h) (fun _ _ x => x) (fun o' g' s' hs => ?_) (fun g1 g2 h1 h2 => ?_) (fun g' _ => by rw [hg]; rfl) (addSeg_fun h hget hg) (fun b' f hi => ?_) (fun b' hb => ?_) hobj
  · rcases hs with hs | ⟨rfl, rfl, rfl⟩
    · exact .inl hs
    · exact .inr ⟨rfl, fun g' e => by rw [hg] at e; cases e; omega, fun g' e => by rw [ha] at e; cases e; omega⟩
  · rw [hg] at h1; rw [ha] at h2; cases h1; cases h2; omega
  · rcases hi with hi | hi
    · exact .inl hi
    · obtain ⟨h1, h2⟩ := hI _ _ hi
      exact .inr ⟨.inr (by omega), h2⟩
  · have : ∃ s', (G.addSeg o (g + 1) s I).seg o (g + 1) s' ∧ 0 < s'.cp ∧ s'.b = b' := by
      cases a <;> simp [genOf] at ha <;> subst ha <;> exact hb
    obtain ⟨s', h1, h2, h3⟩ := this
    rw [addSeg_next h hget hg h1] at h3
    exact .inr (by omega)

/-- Its row has been written. -/
theorem upd_seg_in {G : Gh} {S : St} {w w' : World} {o g : Nat} {a0 a : AObj} {s : Seg} {I : Nat → Nat → Prop} (h : Wrel G S w) (hget : S.get o = some a0) (hg : genOf a0 = some g) (ha : genOf a = some (g + 1)) (hbase : S.base ≤ o) (hw : Turned s.b w w') (hown : ownsA G o a0 s.b) (hk : Kept G w w')
    (hI : ∀ b f, I b f → b = s.b ∧ ∃ u, w'.cell? ⟨b, f, none⟩ = some u) (hobj : ObjRel (G.addSeg o (g + 1) s I) w' o a) :
    Wrel (G.addSeg o (g + 1) s I) (S.set o a) w' ∧ Step G S w (G.addSeg o (g + 1) s I) (S.set o a) w' := by
  refine upd_step (b := s.b) (a := a) h hget (fun e => by subst e; simp [genOf] at hg) hbase hw (.inl hown) (G.le_addSeg _ _ _ _) hk (fun _ _ x => x) (fun o' g' s' hs => ?_) (fun g1 g2 h1 h2 => ?_) (fun g' _ => by rw [hg]; rfl) (addSeg_fun h hget hg) (fun b' f hi => ?_) (fun b' hb => ?_) hobj
  · rcases hs with hs | ⟨rfl, rfl, rfl⟩
    · exact .inl hs
    · exact .inr ⟨rfl, fun g' e => by rw [hg] at e; cases e; omega, fun g' e => by rw [ha] at e; cases e; omega⟩
  · rw [hg] at h1; rw [ha] at h2; cases h1; cases h2; omega
  · rcases hi with hi | hi
    · exact .inl hi
    · obtain ⟨h1, h2⟩ := hI _ _ hi
      exact .inr ⟨.inl (by rw [h1]; exact hown), h2⟩
  · have : ∃ s', (G.addSeg o (g + 1) s I).seg o (g + 1) s' ∧ 0 < s'.cp ∧ s'.b = b' := by
      cases a <;> simp [genOf] at ha <;> subst ha <;> exact hb
    obtain ⟨s', h1, h2, h3⟩ := this
    rw [addSeg_next h hget hg h1] at h3
    exact .inl (by rw [← h3]; exact hown)


omit [Pin] in
theorem laid_new {w w1 : World} (hs : Same w w1) (ob : Obj) : Laid w (w1.alloc ob) ∧ w.heap.size < (w1.alloc ob).heap.size := by
  refine ⟨(Laid.same hs).trans (Laid.alloc w1 ob), ?_⟩
  rw [show (w1.alloc ob).heap.size = w1.heap.size + 1 by simp, hs.heap]
  exact Nat.lt_succ_self _

omit [Pin] in
theorem cell_new {w w1 : World} (hs : Same w w1) (cells : Array Value) (e : TypeId) (f : Nat) : (w1.alloc (.cells cells e)).cell? ⟨w.heap.size, f, none⟩ = cells[f]? := by
  have : w.heap.size = w1.heap.size := by rw [hs.heap]
  rw [this, World.cell?_alloc_new]

/-- The cells of a new row. -/
theorem new_cells {G G' : Gh} {S : St} {w w1 : World} {es : Nat} {rows : Rows} {vals : List Value} {rest : Array Value} {e : TypeId} (hW : Wrel G S w) (hs : Same w w1) (hg : G.Le G') (h : RowsIn G w es rows vals) :
    ∀ (i : Nat) (r : List AV) (j : Nat) (x : AV), rows[i]? = some r → r[j]? = some x → leaf x = true ∧ ∃ u, (w1.alloc (.cells (vals.toArray ++ rest) e)).cell? ⟨w.heap.size, 0 + i * es + j, none⟩ = some u ∧ Rep G' (w1.alloc (.cells (vals.toArray ++ rest) e)) x u := fun i r j x hi hj => by
  obtain ⟨a1, u, a2, a3⟩ := h.cell i r j x hi hj
  have hlt := (List.getElem?_eq_some_iff.1 a2).1
  refine ⟨a1, u, ?_, a3.mono hg ((laid_new hs _).1.kept hW)⟩
  rw [cell_new hs, Nat.zero_add, Array.getElem?_append_left (by simpa using hlt)]
  simpa using a2

omit [Pin] in
theorem open_new' {w w1 : World} (hs : Same w w1) (c : Array Value) (e : TypeId) (p n : Nat) (h : p + n ≤ c.size) : Open (w1.alloc (.cells c e)) w.heap.size p n := by
  have : w.heap.size = w1.heap.size := by rw [hs.heap]
  rw [this]
  exact open_new w1 c e p n h

omit [Pin] in
/-- Rows that are written no more, as a value of their own. -/
theorem rep_own_of {G : Gh} {w : World} {rows : Rows} {o g : Nat} {s : Seg} (hs : G.seg o g s) (hn : rows.length = s.ln) (hcap : s.ln ≤ s.cp) (hes : ∀ (i : Nat) (r : List AV), rows[i]? = some r → r.length = s.es)
    (hc : ∀ (i : Nat) (r : List AV) (j : Nat) (x : AV), rows[i]? = some r → r[j]? = some x → leaf x = true ∧ ∃ u, G.cell w s.b (s.st + i * s.es + j) u ∧ Rep G w x u) :
    Rep G w (.own rows o g) (.slice (some ⟨s.b, s.st, none⟩) rows.length s.cp) := by
  have hx : ∀ i j, ∃ u, ∀ r x, rows[i]? = some r → r[j]? = some x → G.cell w s.b (s.st + i * s.es + j) u ∧ Rep G w x u := fun i j => by
    by_cases h : ∃ r x, rows[i]? = some r ∧ r[j]? = some x
    · obtain ⟨r, x, h1, h2⟩ := h
      obtain ⟨_, u, h3⟩ := hc i r j x h1 h2
      exact ⟨u, fun r' x' h1' h2' => by rw [h1] at h1'; cases h1'; rw [h2] at h2'; cases h2'; exact h3⟩
    · exact ⟨undef, fun r x h1 h2 => absurd ⟨r, x, h1, h2⟩ h⟩
  exact .own rows o g s (fun i j => (hx i j).choose) hs hn hcap hes (fun i r j x h1 h2 => (hc i r j x h1 h2).1) (fun i r j x h1 h2 => ((hx i j).choose_spec r x h1 h2).1) (fun i r j x h1 h2 => ((hx i j).choose_spec r x h1 h2).2)

/-- A new slice with a row of its own: one that is written, or one whose rows are data. -/
theorem fresh_row {G : Gh} {S : St} {w w1 : World} {es cap : Nat} {rows : Rows} {vals : List Value} {rest : Array Value} {e : TypeId} {mutb : Bool} {r : AV} {S' : St} (hW : Wrel G S w) (hs : Same w w1) (h : RowsIn G w es rows vals) (hcap : rows.length ≤ cap) (hpos : 0 < rows.length) (hsize : vals.length + rest.size = cap * es)
    (hf : aappend.fresh es mutb rows S = some (r, S')) :
    ∃ G', Wrel G' S' (w1.alloc (.cells (vals.toArray ++ rest) e)) ∧ Step G S w G' S' (w1.alloc (.cells (vals.toArray ++ rest) e)) ∧ Rep G' (w1.alloc (.cells (vals.toArray ++ rest) e)) r (.slice (some ⟨w.heap.size, 0, none⟩) rows.length cap) := by
  obtain ⟨hW1, hst1⟩ := same_step hW hs
  have hb1 : w.heap.size = w1.heap.size := by rw [hs.heap]
  have hop : Open (w1.alloc (.cells (vals.toArray ++ rest) e)) w.heap.size 0 (cap * es) := open_new' hs _ e 0 _ (by simp; omega)
  unfold aappend.fresh at hf
  split at hf
  · simp at hf
    obtain ⟨rfl, rfl⟩ := hf
    have hg := G.le_addSeg S.n 0 ⟨w.heap.size, 0, 0, cap, es⟩ fun _ _ => False
    obtain ⟨g1, g2⟩ := push_seg (ob := .cells (vals.toArray ++ rest) e) (a := .seq 0 es rows 0) hW1 ⟨w.heap.size, 0, 0, cap, es⟩ hb1 rfl (fun _ _ => False) (fun b f x => x.elim)
      ⟨⟨w.heap.size, 0, 0, cap, es⟩, G.addSeg_new _ _ _ _, rfl, hcap, h.len, fun _ => ⟨hop, new_cells hW hs hg h, fun f hi => by
        rcases hi with hi | hi
        · have := hW.im_lt hi
          simp at this
        · exact hi.elim⟩⟩
    refine ⟨_, g1, hst1.trans g2, ?_⟩
    have := Rep.sref (w := w1.alloc (.cells (vals.toArray ++ rest) e)) S.n 0 0 rows.length _ (G.addSeg_new S.n 0 ⟨w.heap.size, 0, 0, cap, es⟩ fun _ _ => False) (by show 0 < cap; omega) (by show 0 + rows.length ≤ cap; omega)
    simpa using this
  · simp at hf
    obtain ⟨rfl, rfl⟩ := hf
    have hvl := h.size
    have hle : rows.length * es ≤ cap * es := Nat.mul_le_mul_right _ hcap
    have hg := G.le_addSeg S.n 0 ⟨w.heap.size, 0, rows.length, cap, es⟩ fun b f => b = w.heap.size ∧ f < rows.length * es
    obtain ⟨g1, g2⟩ := push_seg (ob := .cells (vals.toArray ++ rest) e) (a := .tail 0) hW1 ⟨w.heap.size, 0, rows.length, cap, es⟩ hb1 rfl (fun b f => b = w.heap.size ∧ f < rows.length * es) (fun b f ⟨x, y⟩ => by
        subst x
        exact ⟨hb1, Option.isSome_iff_exists.1 (by simpa using (hop f (by omega)).1)⟩)
      ⟨⟨w.heap.size, 0, rows.length, cap, es⟩, G.addSeg_new _ _ _ _, hcap, fun _ => ⟨hop, fun f hi => by
        rcases hi with hi | hi
        · have := hW.im_lt hi
          simp at this
        · simpa using hi.2⟩⟩
    refine ⟨_, g1, hst1.trans g2, ?_⟩
    refine rep_own_of (s := ⟨w.heap.size, 0, rows.length, cap, es⟩) (G.addSeg_new _ _ _ _) rfl hcap h.len fun i r j x hi hj => ?_
    obtain ⟨a1, u, a2, a3⟩ := new_cells (rest := rest) (e := e) hW hs hg h i r j x hi hj
    refine ⟨a1, u, ⟨.inr ⟨rfl, ?_⟩, a2⟩, a3⟩
    have := (row_lt h.len hi hj).2.2
    simpa using this

end Go.Am

/- THE ABSTRACT MACHINE, THIRTEENTH FILE: append, and what it comes to. -/
set_option linter.unusedSimpArgs false
set_option linter.unusedVariables false
namespace Go.Am
open Go.RowKit
variable [Pin] {P : Program} {c : Cfg}

omit [Pin] in
theorem RowsIn.one' {G : Gh} {w : World} {es : Nat} {ys : Rows} {vals : List Value} (h : RowsIn G w es ys vals) : ∀ u ∈ vals, u.oneCell' = true := fun u hu => by
  obtain ⟨k, hk⟩ := List.getElem?_of_mem hu
  have hlt := (List.getElem?_eq_some_iff.1 hk).1
  rw [h.size] at hlt
  have hes : 0 < es := by
    rcases Nat.eq_zero_or_pos es with e | e
    · subst e; simp at hlt
    · exact e
  have hi : k / es < ys.length := Nat.div_lt_of_lt_mul (by rwa [Nat.mul_comm] at hlt)
  have hr := List.getElem?_eq_getElem hi
  have hj : k % es < ys[k / es].length := by rw [h.len _ _ hr]; exact Nat.mod_lt _ hes
  obtain ⟨a1, u', a2, a3⟩ := h.cell _ _ _ _ hr (List.getElem?_eq_getElem hj)
  rw [Nat.mul_comm, Nat.div_add_mod, hk] at a2
  cases a2
  exact rep_oneCell a3 a1

def isSl : AV → Prop
  | .nils | .emp | .vec _ | .lit _ | .own _ _ _ | .sref _ _ _ _ => True
  | _ => False

omit [Pin] in
theorem rep_slice_any {G : Gh} {w : World} {x : AV} {v : Value} (h : Rep G w x v) (hx : isSl x) : ∃ base n cap, v = .slice base n cap ∧ n ≤ cap := by
  cases h <;> first | exact hx.elim | skip
  · exact ⟨_, _, _, rfl, Nat.le_refl _⟩
  · exact ⟨_, _, _, rfl, Nat.zero_le _⟩
  · exact ⟨_, _, _, rfl, Nat.zero_le _⟩
  · exact ⟨_, _, _, rfl, by assumption⟩
  · exact ⟨_, _, _, rfl, Nat.le_refl _⟩
  · exact ⟨_, _, _, rfl, Nat.le_refl _⟩
  · exact ⟨_, _, _, rfl, by omega⟩
  · exact ⟨_, _, _, rfl, by omega⟩
  · exact ⟨_, _, _, rfl, Nat.le_refl _⟩

omit [Pin] in
/-- The rows that have been written behind others. -/
theorem written {G G' : Gh} {w : World} {b q es : Nat} {ys : Rows} {news : List Value} (h : RowsIn G w es ys news) (ho : Open w b q news.length) (hg : G.Le G') (hk : Kept G w (w.setCells b q news)) :
    ∀ (i : Nat) (r : List AV) (j : Nat) (x : AV), ys[i]? = some r → r[j]? = some x → leaf x = true ∧ ∃ u, (w.setCells b q news).cell? ⟨b, q + i * es + j, none⟩ = some u ∧ Rep G' (w.setCells b q news) x u := fun i r j x hi hj => by
  obtain ⟨a1, u, a2, a3⟩ := h.cell i r j x hi hj
  have hlt := (List.getElem?_eq_some_iff.1 a2).1
  refine ⟨a1, u, ?_, a3.mono hg hk⟩
  have := World.cell?_setCells_in b news q w (fun k hk => (ho k hk).1) (i * es + j) hlt
  rw [← Nat.add_assoc] at this
  rw [this, ← a2, List.getElem?_eq_getElem hlt]

omit [Pin] in
theorem capOk_of {need bytes cap : Nat} (h : capOk need bytes = true) (hcap : cap < need) : need ≤ 9223372036854775807 ∧ Builtin.nextslicecap need cap * bytes ≤ 281474976710656 := by
  unfold capOk at h
  simp only [decide_eq_true_eq] at h
  obtain ⟨h1, h2⟩ := h
  have h3 : Builtin.nextslicecap need cap * bytes ≤ (need + need / 4 + 1000) * bytes := Nat.mul_le_mul_right _ (nextcap_le hcap)
  refine ⟨?_, by omega⟩
  have : (need + need / 4 + 1000) * 1 ≤ (need + need / 4 + 1000) * bytes := Nat.mul_le_mul_left _ h1
  omega

/-- A row that has grown, an object that knew it. -/
theorem grown_row {G : Gh} {S : St} {w : World} {es cap g o exp : Nat} {rows : Rows} {vals : List Value} {rest : Array Value} {e : TypeId} {a0 : AObj} (hW : Wrel G S w) (h : RowsIn G w es rows vals) (hcap : rows.length ≤ cap) (hpos : 0 < rows.length) (hsize : vals.length + rest.size = cap * es)
    (hget : S.get o = some a0) (hg : genOf a0 = some g) (hbase : S.base ≤ o) :
    (∃ G', Wrel G' (S.set o (.tail (g + 1))) (w.drew.alloc (.cells (vals.toArray ++ rest) e)) ∧ Step G S w G' (S.set o (.tail (g + 1))) (w.drew.alloc (.cells (vals.toArray ++ rest) e)) ∧ Rep G' (w.drew.alloc (.cells (vals.toArray ++ rest) e)) (.own rows o (g + 1)) (.slice (some ⟨w.heap.size, 0, none⟩) rows.length cap)) ∧
    (∃ G', Wrel G' (S.set o (.seq (g + 1) es rows exp)) (w.drew.alloc (.cells (vals.toArray ++ rest) e)) ∧ Step G S w G' (S.set o (.seq (g + 1) es rows exp)) (w.drew.alloc (.cells (vals.toArray ++ rest) e)) ∧ Rep G' (w.drew.alloc (.cells (vals.toArray ++ rest) e)) (.sref o (g + 1) 0 rows.length) (.slice (some ⟨w.heap.size, 0, none⟩) rows.length cap)) := by
  have hs := Same.drew w
  obtain ⟨hl, hlt⟩ := laid_new hs (.cells (vals.toArray ++ rest) e)
  have hop : Open (w.drew.alloc (.cells (vals.toArray ++ rest) e)) w.heap.size 0 (cap * es) := open_new' hs _ e 0 _ (by simp; omega)
  have hvl := h.size
  have hle : rows.length * es ≤ cap * es := Nat.mul_le_mul_right _ hcap
  constructor
  · have hG := G.le_addSeg o (g + 1) ⟨w.heap.size, 0, rows.length, cap, es⟩ fun b f => b = w.heap.size ∧ f < rows.length * es
    obtain ⟨g1, g2⟩ := upd_seg_new (a := .tail (g + 1)) hW hget hg rfl hbase hl hlt (s := ⟨w.heap.size, 0, rows.length, cap, es⟩) rfl (I := fun b f => b = w.heap.size ∧ f < rows.length * es) (fun b f ⟨x, y⟩ => by
        subst x
        exact ⟨rfl, Option.isSome_iff_exists.1 (by simpa using (hop f (by omega)).1)⟩)
      ⟨⟨w.heap.size, 0, rows.length, cap, es⟩, G.addSeg_new _ _ _ _, hcap, fun _ => ⟨hop, fun f hi => by
        rcases hi with hi | hi
        · have := hW.im_lt hi
          simp at this
        · simpa using hi.2⟩⟩
    refine ⟨_, g1, g2, rep_own_of (s := ⟨w.heap.size, 0, rows.length, cap, es⟩) (G.addSeg_new _ _ _ _) rfl hcap h.len fun i r j x hi hj => ?_⟩
    obtain ⟨a1, u, a2, a3⟩ := new_cells (rest := rest) (e := e) hW hs hG h i r j x hi hj
    refine ⟨a1, u, ⟨.inr ⟨rfl, ?_⟩, a2⟩, a3⟩
    have := (row_lt h.len hi hj).2.2
    simpa using this
  · have hG := G.le_addSeg o (g + 1) ⟨w.heap.size, 0, 0, cap, es⟩ fun _ _ => False
    obtain ⟨g1, g2⟩ := upd_seg_new (a := .seq (g + 1) es rows exp) hW hget hg rfl hbase hl hlt (s := ⟨w.heap.size, 0, 0, cap, es⟩) rfl (I := fun _ _ => False) (fun b f x => x.elim)
      ⟨⟨w.heap.size, 0, 0, cap, es⟩, G.addSeg_new _ _ _ _, rfl, hcap, h.len, fun _ => ⟨hop, new_cells hW hs hG h, fun f hi => by
        rcases hi with hi | hi
        · have := hW.im_lt hi
          simp at this
        · exact hi.elim⟩⟩
    refine ⟨_, g1, g2, ?_⟩
    have := Rep.sref (w := w.drew.alloc (.cells (vals.toArray ++ rest) e)) o (g + 1) 0 rows.length _ (G.addSeg_new o (g + 1) ⟨w.heap.size, 0, 0, cap, es⟩ fun _ _ => False) (by show 0 < cap; omega) (by show 0 + rows.length ≤ cap; omega)
    simpa using this


theorem comes_append (hc : CfgOk P c) {G : Gh} {S S' : St} {w : World} {t u e ty : TypeId} {ei ui : Ty} {x y r : AV} {vx vy : Value} {ys : Rows} {mutb : Bool} (hW : Wrel G S w) (hk : kindOf c t = .slice e) (he : c.ty e = some ei) (hu : c.ty u = some ui) (hni : ∀ k, ui.kind ≠ .int k)
    (hx : Rep G w x vx) (hy : Rep G w y vy) (hys : appRows S y = some ys) (hpos : 0 < ei.size ∧ ei.zero.map List.length = some ei.size) (h : aappend ei.size ei.bytes mutb x ys S = some (r, S')) :
    Comes1 P (do pure (.value (← Builtin.append_ #[t, u] ty #[vx, vy]))) G S w r S' := by
  obtain ⟨du, hdu, hzd⟩ := not_int hc hu hni
  have ht := kind_slice hc hk
  obtain ⟨info, d, k1, k2, k3, k4, k5, k6⟩ := ty_inv (hc.ty e ei he)
  obtain ⟨hp1, hp2⟩ := hpos
  simp only [Option.map_eq_some_iff] at hp2
  obtain ⟨z, hz, hzl⟩ := hp2
  rw [k6] at hz
  simp only [Option.bind_eq_some_iff] at hz
  obtain ⟨zv, hzv, hz⟩ := hz
  have hzs : zv.cells.size = ei.size := by
    have := (zeroC_rep (G := G) (w := w) hz).1.1
    simp at this
    omega
  unfold aappend at h
  split at h
  · exact absurd h (by simp)
  rename_i hh
  have hh : headOk ei.size ys = true := by simpa using hh
  obtain ⟨news, hn1, hn2, hn3⟩ := newsOf hc hW hy hys hh
  have hwf := hn3 w fun _ _ _ h => h
  have hwd := hn3 w.drew fun _ _ _ h => by rw [(Same.drew w).cell]; exact h
  have hnl := hn1.size
  -- a new row behind rows that are there
  have grow : ∀ (rows : Rows) (olds : List Value) (base : Option Addr) (n cap : Nat), rows.length = n → cap < n + ys.length → capOk (n + ys.length) ei.bytes = true → RowsIn G w ei.size rows olds →
      (Builtin.firstCells info.size n (.slice base n cap)).run P w.drew = .ok olds.toArray w.drew →
      ∃ cap' rest, (Builtin.append_ #[t, u] ty #[.slice base n cap, vy]).run P w = .ok (.slice (some ⟨w.heap.size, 0, none⟩) (rows ++ ys).length cap') (w.drew.alloc (.cells ((olds ++ news).toArray ++ rest) e)) ∧
        (rows ++ ys).length ≤ cap' ∧ (olds ++ news).length + rest.size = cap' * ei.size ∧ RowsIn G w ei.size (rows ++ ys) (olds ++ news) := fun rows olds base n cap hn hcap hok ho hfo => by
    obtain ⟨c1, c2⟩ := capOk_of hok hcap
    have hge := grownCap_ge w (n + ys.length) cap e
    refine ⟨grownCap w (n + ys.length) cap e, Builtin.zeroCells zv.cells (grownCap w (n + ys.length) cap e - (n + ys.length)), ?_, by simp [hn]; exact hge, ?_, ho.append hn1⟩
    · have := run_append_grow' (ty := ty) ht k1 hzv hdu hzd hn2 (by rw [← k4]; exact hwd) hfo hcap c1 (by rw [← k5]; exact c2)
      rw [this]
      simp [hn]
    · have h1 := (ho.append hn1).size
      rw [h1, size_zeroCells, hzs, ← Nat.add_mul]
      congr 1
      simp [hn]
      omega
  split at h
  · -- nothing
    have hs : r = x ∧ S' = S ∧ isSl x := by
      cases x <;> simp only [Option.some.injEq, Prod.mk.injEq, reduceCtorEq] at h <;> exact ⟨h.1.symm, h.2.symm, trivial⟩
    obtain ⟨rfl, rfl, hsl⟩ := hs
    obtain ⟨base, n, cap, rfl, hcap⟩ := rep_slice_any hx hsl
    have hn0 : news = [] := by simpa using hnl
    subst hn0
    exact comes_value' (run_append_none ht k1 hdu hzd (by simpa using hn2) (by rw [← k4]; simpa using hwf) hcap) hW (.refl _ _ _) hx
  · rename_i hne
    have hypos : 0 < ys.length := by cases ys with | nil => exact absurd rfl hne | cons => simp
    split at h
    · -- nil
      cases hx
      split at h
      · rename_i hok
        obtain ⟨cap', rest, g1, g2, g3, g4⟩ := grow [] [] none 0 0 rfl (by omega) (by simpa using hok) (RowsIn.nil _ _ _) (by simp [Builtin.firstCells])
        obtain ⟨G', q1, q2, q3⟩ := fresh_row (e := e) (mutb := mutb) hW (Same.drew w) g4 g2 (by simpa using hypos) g3 (by simpa using h)
        exact comes_value' g1 q1 q2 q3
      · exact absurd h (by simp)
    · -- a literal
      rename_i rows
      split at h
      · rename_i hok
        obtain ⟨hok, hhr⟩ := hok
        obtain ⟨a, olds, rfl, ho, hfo⟩ : ∃ a olds, vx = .slice a rows.length rows.length ∧ RowsIn G w ei.size rows olds ∧ (Builtin.firstCells info.size rows.length (.slice a rows.length rows.length)).run P w.drew = .ok olds.toArray w.drew := by
          cases hx with
          | lit0 a => exact ⟨a, [], rfl, RowsIn.nil _ _ _, by cases a <;> simp [Builtin.firstCells, loadCells, loadCellsFrom]⟩
          | lit _ es b p us hes hl hcc hr =>
            rcases headOk_len hhr hes with e0 | e0
            · subst e0
              exact ⟨_, [], rfl, RowsIn.nil _ _ _, by simp [Builtin.firstCells, loadCells, loadCellsFrom]⟩
            · subst e0
              obtain ⟨olds, o1, o2⟩ := rowsIn_of_cells (G := G) (w := w) (b := b) (p := p) hes fun i r hi j x hj => ⟨hl i r j x hi hj, us i j, (hcc i r j x hi hj).2, hr i r j x hi hj⟩
              refine ⟨_, olds, rfl, o1, run_first (by rw [← k4]; exact o1.size) fun j v hj => by rw [(Same.drew w).cell]; exact o2 j v hj⟩
        obtain ⟨cap', rest, g1, g2, g3, g4⟩ := grow rows olds a rows.length rows.length rfl (by omega) hok ho hfo
        obtain ⟨G', q1, q2, q3⟩ := fresh_row (e := e) (mutb := mutb) hW (Same.drew w) g4 g2 (by simp; omega) g3 h
        exact comes_value' g1 q1 q2 q3
      · exact absurd h (by simp)
    · -- a row that is its owner's
      rename_i rows o g
      split at h
      · rename_i g' hg
        split at h
        · rename_i hq
          obtain ⟨rfl, hre, hok, hhr, hbase⟩ := hq
          simp only [Option.some.injEq, Prod.mk.injEq] at h
          obtain ⟨rfl, rfl⟩ := h
          cases hx with
          | own _ _ _ s us hs hn hcap hes hl hcc hr =>
            have hrp : 0 < rows.length := by cases rows with | nil => simp at hre | cons => simp
            have hses : s.es = ei.size := by
              rcases headOk_len hhr hes with e0 | e0
              · subst e0; simp at hrp
              · exact e0.symm
            obtain ⟨s', hs', hle', hob⟩ := hW.obj _ _ hg
            obtain rfl := hW.fseg _ _ _ _ hs hs'
            obtain ⟨hop, him⟩ := hob (by omega)
            have hn1' := hn1
            rw [← hses] at hn1'
            have hnl' := hnl
            have hat := fun i r hi j x hj => (⟨hl i r j x hi hj, us i j, (hcc i r j x hi hj).2, hr i r j x hi hj⟩ : leaf x = true ∧ ∃ u, w.cell? ⟨s.b, s.st + i * s.es + j, none⟩ = some u ∧ Rep G w x u)
            by_cases hroom : rows.length + ys.length ≤ s.cp
            · have hle2 : rows.length * s.es + ys.length * s.es ≤ s.cp * s.es := by rw [← Nat.add_mul]; exact Nat.mul_le_mul_right _ hroom
              rw [← hses] at hnl'
              have ho' : Open w s.b (s.st + rows.length * s.es) news.length := fun j hj => by
                have := hop (rows.length * s.es + j) (by omega)
                rwa [← Nat.add_assoc] at this
              have hkp : Kept G w (w.setCells s.b (s.st + rows.length * s.es) news) := fun b' f q hi' hq => by
                rw [World.cell?_setCells_out s.b _ _ w _ (fun e _ => .inl ?_)]; exact hq
                have := him f (by rw [← show b' = s.b from e]; exact hi')
                rw [← hn] at this
                exact this
              have hop' := open_setCells hop s.b (s.st + rows.length * s.es) news
              have hG := G.le_addSeg o (g + 1) ⟨s.b, s.st, rows.length + ys.length, s.cp, s.es⟩ fun b f => b = s.b ∧ s.st + rows.length * s.es ≤ f ∧ f < s.st + (rows.length + ys.length) * s.es
              obtain ⟨q1, q2⟩ := upd_seg_in (a := .tail (g + 1)) hW hg rfl rfl hbase (s := ⟨s.b, s.st, rows.length + ys.length, s.cp, s.es⟩) (setCells_turned s.b news _ w).1 ⟨s, hs, by omega, rfl⟩ hkp (I := fun b f => b = s.b ∧ s.st + rows.length * s.es ≤ f ∧ f < s.st + (rows.length + ys.length) * s.es)
                (fun b f ⟨x, y1, y2⟩ => by
                  subst x
                  rw [Nat.add_mul] at y2
                  have := (hop' (f - s.st) (by omega)).1
                  rw [show s.st + (f - s.st) = f by omega] at this
                  exact ⟨rfl, Option.isSome_iff_exists.1 this⟩)
                ⟨⟨s.b, s.st, rows.length + ys.length, s.cp, s.es⟩, G.addSeg_new _ _ _ _, hroom, fun _ => ⟨hop', fun f hi => by
                  show f < s.st + (rows.length + ys.length) * s.es
                  rcases hi with hi | hi
                  · have := him f hi
                    rw [← hn] at this
                    rw [Nat.add_mul]; omega
                  · exact hi.2.2⟩⟩
              have hW' := written hn1' ho' hG hkp
              refine comes_value' (w' := w.setCells s.b (s.st + rows.length * s.es) news) (u := .slice (some ⟨s.b, s.st, none⟩) (rows.length + ys.length) s.cp) ?_ q1 q2 ?_
              · have := run_append_room' (P := P) (ty := ty) (p := s.st) (n := rows.length) (b := s.b) ht k1 hdu hzd hn2 (by rw [← k4]; exact hwf) hroom (by rw [← k4, ← hses]; exact ho') hn1.one'
                rw [← k4, ← hses] at this
                exact this
              · have := rep_own_of (G := G.addSeg o (g + 1) ⟨s.b, s.st, rows.length + ys.length, s.cp, s.es⟩ fun b f => b = s.b ∧ s.st + rows.length * s.es ≤ f ∧ f < s.st + (rows.length + ys.length) * s.es)
                  (w := w.setCells s.b (s.st + rows.length * s.es) news) (rows := rows ++ ys) (s := ⟨s.b, s.st, rows.length + ys.length, s.cp, s.es⟩) (G.addSeg_new _ _ _ _) (by simp) hroom
                  (fun i r hi => by
                    rw [List.getElem?_append] at hi
                    split at hi
                    · exact hes _ _ hi
                    · exact hn1'.len _ _ hi)
                  (fun i r j x hi hj => by
                    rw [List.getElem?_append] at hi
                    split at hi
                    · have := hcc i r j x hi hj
                      exact ⟨hl _ _ _ _ hi hj, us i j, this.mono hG hkp, (hr _ _ _ _ hi hj).mono hG hkp⟩
                    · rename_i hge
                      obtain ⟨a1, u, a2, a3⟩ := hW' _ _ _ _ hi hj
                      have hlt := row_lt hn1'.len hi hj
                      have e1 : i * s.es = rows.length * s.es + (i - rows.length) * s.es := by rw [← Nat.add_mul]; congr 1; omega
                      refine ⟨a1, u, ⟨.inr ⟨rfl, ?_, ?_⟩, ?_⟩, a3⟩
                      · show s.st + rows.length * s.es ≤ s.st + i * s.es + j
                        omega
                      · show s.st + i * s.es + j < s.st + (rows.length + ys.length) * s.es
                        rw [Nat.add_mul]
                        omega
                      · show (w.setCells s.b (s.st + rows.length * s.es) news).cell? ⟨s.b, s.st + i * s.es + j, none⟩ = some u
                        rw [show s.st + i * s.es + j = s.st + rows.length * s.es + (i - rows.length) * s.es + j by omega]
                        exact a2)
                simpa using this
            · obtain ⟨olds, o1, o2⟩ := rowsIn_of_cells (G := G) (w := w) (b := s.b) (p := s.st) hes hat
              rw [hses] at o1
              obtain ⟨cap', rest, g1, g2, g3, g4⟩ := grow rows olds (some ⟨s.b, s.st, none⟩) rows.length s.cp rfl (by omega) hok o1 (run_first (by rw [← k4]; exact o1.size) fun j v hj => by rw [(Same.drew w).cell]; exact o2 j v hj)
              obtain ⟨G', q1, q2, q3⟩ := (grown_row (e := e) (exp := 0) hW g4 g2 (by simp; omega) g3 hg rfl hbase).1
              exact comes_value' g1 q1 q2 q3
        · exact absurd h (by simp)
      · exact absurd h (by simp)
    · -- a slice that is written
      rename_i o g off len
      split at h
      · rename_i g' es' rows exp hg
        split at h
        · rename_i hq
          obtain ⟨rfl, hes', hoff, hexp, hok, hbase⟩ := hq
          simp only [Option.some.injEq, Prod.mk.injEq] at h
          obtain ⟨rfl, rfl⟩ := h
          have hdl : (rows.drop off).length = len := by simp; omega
          cases hx with
          | sref0 _ _ _ s hs hoff' a =>
            have hcp := (hW.seq hg hs).2.1
            have hd0 : rows.drop off = [] := List.eq_nil_of_length_eq_zero (by simpa using hdl)
            obtain ⟨cap', rest, g1, g2, g3, g4⟩ := grow [] [] (some a) 0 0 rfl (by omega) (by simpa using hok) (RowsIn.nil _ _ _) (by simp [Builtin.firstCells, loadCells, loadCellsFrom])
            obtain ⟨G', q1, q2, q3⟩ := (grown_row (e := e) (exp := exp - off) hW g4 g2 (by simpa using hypos) g3 hg rfl hbase).2
            rw [hd0]
            exact comes_value' g1 q1 q2 (by simpa using q3)
          | sref _ _ _ _ s hs hoff' hcap =>
            obtain ⟨hses, hlen, hrl, hcell, hob⟩ := hW.seq hg hs
            obtain ⟨hop, him⟩ := hob (by omega)
            have hn1' := hn1
            rw [hes', ← hses] at hn1'
            have hnl' := hn1'.size
            have hlc : rows.length * s.es = off * s.es + len * s.es := by rw [← hoff, Nat.add_mul]
            have hdr : ∀ (i : Nat) (r : List AV), (rows.drop off)[i]? = some r → rows[off + i]? = some r := fun i r hi => by rw [List.getElem?_drop] at hi; exact hi
            by_cases hroom : len + ys.length ≤ s.cp - off
            · have hle2 : rows.length * s.es + ys.length * s.es ≤ s.cp * s.es := by rw [← Nat.add_mul]; exact Nat.mul_le_mul_right _ (by omega)
              have hxr : exp * s.es ≤ rows.length * s.es := Nat.mul_le_mul_right _ hexp
              have ho' : Open w s.b (s.st + off * s.es + len * s.es) news.length := fun j hj => by
                have := hop (off * s.es + len * s.es + j) (by omega)
                rwa [← Nat.add_assoc, ← Nat.add_assoc] at this
              have hkp : Kept G w (w.setCells s.b (s.st + off * s.es + len * s.es) news) := fun b' f q hi' hq => by
                rw [World.cell?_setCells_out s.b _ _ w _ (fun e _ => .inl ?_)]; exact hq
                have := him f (by rw [← show b' = s.b from e]; exact hi')
                show f < s.st + off * s.es + len * s.es
                omega
              have hop' := open_setCells hop s.b (s.st + off * s.es + len * s.es) news
              have hG := G.le_addSeg o (g + 1) ⟨s.b, s.st + off * s.es, 0, s.cp - off, s.es⟩ fun _ _ => False
              have hW' := written hn1' ho' hG hkp
              have hcpo : off * s.es + (s.cp - off) * s.es = s.cp * s.es := by rw [← Nat.add_mul]; congr 1; omega
              obtain ⟨q1, q2⟩ := upd_seg_in (a := .seq (g + 1) es' (rows.drop off ++ ys) (exp - off)) hW hg rfl rfl hbase (s := ⟨s.b, s.st + off * s.es, 0, s.cp - off, s.es⟩) (setCells_turned s.b news _ w).1 ⟨s, hs, by omega, rfl⟩ hkp (I := fun _ _ => False) (fun b f x => x.elim)
                ⟨⟨s.b, s.st + off * s.es, 0, s.cp - off, s.es⟩, G.addSeg_new _ _ _ _, hses, by simp; omega, fun i r hi => by
                  rw [List.getElem?_append] at hi
                  split at hi
                  · exact hrl _ _ (hdr _ _ hi)
                  · exact hn1'.len _ _ hi, fun _ => ⟨fun j hj => by
                    have := hop' (off * s.es + j) (by have : j < (s.cp - off) * s.es := hj; omega)
                    rwa [← Nat.add_assoc] at this, fun i r j x hi hj => by
                    rw [List.getElem?_append] at hi
                    split at hi
                    · rename_i hlt
                      rw [hdl] at hlt
                      have hi := hdr _ _ hi
                      obtain ⟨a1, u, a2, a3⟩ := hcell _ _ hi j x hj
                      refine ⟨a1, u, ?_, a3.mono hG hkp⟩
                      have hlt' := row_lt hrl hi hj
                      show (w.setCells s.b (s.st + off * s.es + len * s.es) news).cell? ⟨s.b, s.st + off * s.es + i * s.es + j, none⟩ = some u
                      rw [Nat.add_mul] at a2 hlt'
                      rw [World.cell?_setCells_out s.b _ _ w _ (fun e _ => .inl ?_), Nat.add_assoc s.st]
                      · exact a2
                      · show s.st + off * s.es + i * s.es + j < s.st + off * s.es + len * s.es
                        omega
                    · rename_i hge
                      rw [hdl] at hge hi
                      obtain ⟨a1, u, a2, a3⟩ := hW' _ _ _ _ hi hj
                      refine ⟨a1, u, ?_, a3⟩
                      have e1 : i * s.es = len * s.es + (i - len) * s.es := by rw [← Nat.add_mul]; congr 1; omega
                      show (w.setCells s.b (s.st + off * s.es + len * s.es) news).cell? ⟨s.b, s.st + off * s.es + i * s.es + j, none⟩ = some u
                      rw [e1, ← Nat.add_assoc]
                      exact a2, fun f hi => by
                    have hi := him f (hi.resolve_right id)
                    have : exp * s.es ≤ off * s.es + (exp - off) * s.es := by rw [← Nat.add_mul]; exact Nat.mul_le_mul_right _ (by omega)
                    show f < s.st + off * s.es + (exp - off) * s.es
                    omega⟩⟩
              refine comes_value' (w' := w.setCells s.b (s.st + off * s.es + len * s.es) news) (u := .slice (some ⟨s.b, s.st + off * s.es, none⟩) (len + ys.length) (s.cp - off)) ?_ (by rw [hes']; exact q1) (by rw [hes']; exact q2) ?_
              · have := run_append_room' (P := P) (ty := ty) (p := s.st + off * s.es) (n := len) (b := s.b) ht k1 hdu hzd hn2 (by rw [← k4]; exact hwf) hroom (by rw [← k4, hes', ← hses]; exact ho') hn1.one'
                rw [← k4, hes', ← hses] at this
                exact this
              · have := Rep.sref (w := w.setCells s.b (s.st + off * s.es + len * s.es) news) o (g + 1) 0 (len + ys.length) _ (G.addSeg_new o (g + 1) ⟨s.b, s.st + off * s.es, 0, s.cp - off, s.es⟩ fun _ _ => False) (by show 0 < s.cp - off; omega) (by show 0 + (len + ys.length) ≤ s.cp - off; omega)
                simpa using this
            · obtain ⟨olds, o1, o2⟩ := rowsIn_of_cells (G := G) (w := w) (b := s.b) (p := s.st + off * s.es) (rows := rows.drop off) (fun i r hi => hrl _ _ (hdr _ _ hi)) (fun i r hi => by
                have := hcell _ _ (hdr _ _ hi)
                rwa [show s.st + (off + i) * s.es = s.st + off * s.es + i * s.es by rw [Nat.add_mul]; omega] at this)
              have o1' := o1.size
              rw [hdl] at o1'
              obtain ⟨cap', rest, g1, g2, g3, g4⟩ := grow (rows.drop off) olds (some ⟨s.b, s.st + off * s.es, none⟩) len (s.cp - off) hdl (by omega) hok (by rw [hes', ← hses]; exact o1) (run_first (by rw [← k4, hes', ← hses]; exact o1') fun j v hj => by rw [(Same.drew w).cell]; exact o2 j v hj)
              obtain ⟨G', q1, q2, q3⟩ := (grown_row (e := e) (exp := exp - off) hW g4 g2 (by simp; omega) g3 hg rfl hbase).2
              refine comes_value' g1 q1 q2 ?_
              have hll : (rows.drop off ++ ys).length = len + ys.length := by rw [List.length_append, hdl]
              rw [hll] at q3
              rw [hll]
              exact q3
        · exact absurd h (by simp)
      · exact absurd h (by simp)
    · exact absurd h (by simp)

end Go.Am

