/- THE ABSTRACT MACHINE, EIGHTEENTH FILE: operations that turn memory, calls among them. -/
import Derived.Test.YtghpjjhdbankhaaAm16
set_option linter.unusedSimpArgs false
set_option linter.unusedVariables false
namespace Go.Am
open Go.RowKit
variable {P : Program} {c : Cfg}

theorem chunk_get {es : Nat} : ∀ {n : Nat} {cs : List AV} {i : Nat} {r : List AV}, (chunk es n cs)[i]? = some r → i < n ∧ r = (cs.drop (i * es)).take es
  | 0, cs, i, r, h => by simp [chunk] at h
  | n + 1, cs, 0, r, h => by simp [chunk] at h; subst h; simp
  | n + 1, cs, i + 1, r, h => by
    simp [chunk] at h
    obtain ⟨h1, h2⟩ := chunk_get h
    refine ⟨by omega, ?_⟩
    rw [h2, List.drop_drop, Nat.add_mul, Nat.one_mul, Nat.add_comm]

theorem chunk_length {es : Nat} : ∀ (n : Nat) (cs : List AV), (chunk es n cs).length = n
  | 0, cs => rfl
  | n + 1, cs => by simp [chunk, chunk_length n]

/-- x[l:h] of an array: its cells are written no more. -/
theorem comes_sliceA (hc : CfgOk P c) {G : Gh} {S S' : St} {w : World} {t e : TypeId} {ei : Ty} {n ob off h' l' : Nat} {cs : List AV} {lk : Bool} {hi lo : Option AV} {vhi vlo : Option Value} {u : Value} (hW : Wrel G S w) (hk : kindOf c t = .array n e) (he : c.ty e = some ei)
    (hu : Rep G w (.ptr ob off) u) (hget : S.get ob = some (.row cs lk)) (h1 : bnd hi n n = some h') (h2 : bnd lo 0 h' = some l') (rl : RepO G w lo vlo) (rh : RepO G w hi vhi) (hle : off + n * ei.size ≤ cs.length ∧ 0 < ei.size) (hp : S.putO ob (.row cs true) = some S') :
    Comes1 P (do pure (.value (← Instr.sliceAt t u vlo vhi none))) G S w (.vec (chunk ei.size (h' - l') (cs.drop (off + l' * ei.size)))) S' := by
  have ht := kind_array hc hk
  obtain ⟨hbase, rfl⟩ := St.putO_some hp
  obtain ⟨hb, hlh, hhl⟩ := run_bounds (P := P) (isS := false) (Nat.le_refl n) h1 h2 rl rh
  cases hu with
  | ptr _ _ b hblk =>
    obtain ⟨hcs, hop, him⟩ := hW.row hget hblk
    have hg : G.Le (G.withIm fun b' f => G.im b' f ∨ (b' = b ∧ f < cs.length)) := ⟨fun _ _ x => x, fun _ _ _ x => x, fun _ _ x => .inl x⟩
    have hkp : Kept G w w := fun _ _ _ _ x => x
    obtain ⟨g1, g2⟩ := upd_step (b := b) (a := .row cs true) hW hget hbase (Turned.of_laid (Laid.refl w)) (.inr (Laid.refl w)) hg hkp (fun _ _ x => x) (fun _ _ _ x => .inl x) (fun a b h1 h2 => by simp [genOf] at h1) (fun _ x => by simp [genOf] at x)
      (fun g' s1 s2 h1 h2 => hW.fseg _ _ _ _ h1 h2) (fun b' f hi => hi.imp id fun ⟨x, y⟩ => by
        subst x
        have := (hop f y).1
        rw [Nat.zero_add] at this
        exact ⟨.inl hblk, Option.isSome_iff_exists.1 this⟩) (fun b' hb => .inl hb)
      ⟨b, hblk, hop, fun j x hj => by
        obtain ⟨a1, u, a2, a3⟩ := hcs j x hj
        rw [Nat.zero_add] at a2
        exact ⟨a1, u, a2, a3.mono hg hkp⟩, fun e => by simp at e⟩
    refine comes_value' (u := .slice (some (if n = l' then ⟨b, off, none⟩ else (⟨b, off, none⟩ : Addr).add (l' * ei.size))) (h' - l') (n - l')) (w' := w) ?_ g1 g2 ?_
    · have := hb (fun q => do let size ← sizeOf e; pure (Value.slice (some (if q.2.2 = q.1 then ⟨b, off, none⟩ else (⟨b, off, none⟩ : Addr).add (q.1 * size))) (q.2.1 - q.1) (q.2.2 - q.1)))
      simp only [Instr.sliceAt, Sem.run_bind, run_underlying ht, Result.andThen_ok, Instr.sureAddr, Sem.run_pure]
      simp only [Sem.run_bind] at this
      simpa [Sem.run_bind, ty_size hc he] using this
    · by_cases h0 : h' - l' = 0
      · rw [h0]
        exact .vec0 _ _ fun e => by simp at e
      · rw [if_neg (by omega)]
        have hat : RowsAt (G.withIm fun b' f => G.im b' f ∨ (b' = b ∧ f < cs.length)) w b (off + l' * ei.size) ei.size (chunk ei.size (h' - l') (cs.drop (off + l' * ei.size))) := by
          have hbound : ∀ i, i < h' - l' → off + l' * ei.size + i * ei.size + ei.size ≤ cs.length := fun i hi => by
            have : (l' + i + 1) * ei.size ≤ n * ei.size := Nat.mul_le_mul_right _ (by omega)
            rw [Nat.add_mul, Nat.add_mul] at this
            omega
          refine ⟨fun i r hi => ?_, fun i r j x hi hj => ?_⟩ <;> obtain ⟨k1, k2⟩ := chunk_get hi <;> have hbd := hbound i k1
          · rw [k2, List.drop_drop]; simp; omega
          · rw [k2, List.drop_drop, List.getElem?_take] at hj
            split at hj
            · rename_i hlt
              rw [List.getElem?_drop] at hj
              obtain ⟨a1, u, a2, a3⟩ := hcs _ x hj
              rw [Nat.zero_add] at a2
              exact ⟨a1, u, ⟨.inr ⟨rfl, by omega⟩, a2⟩, a3.mono hg hkp⟩
            · simp at hj
        have := rep_vec hat (cap := n - l') (by rw [chunk_length]; omega)
        rw [chunk_length] at this
        simpa [Addr.add_mid] using this

/-! ### Operations in code -/
/-- What an operation is worth. -/
def OpOk (P : Program) (tm : List AV) (o : Oper) (S : St) (v : AV) (S' : St) : Prop :=
  ∀ (G : Gh) (w : World) (a : Act) (rd : Option Nat) (K : Act → World → Prop) (Q : Exit → Act → World → Prop), Wrel G S w → RepL G w tm a.tmps.toList →
    (∀ G' w' u, Wrel G' S' w' → Step G S w G' S' w' → Rep G' w' v u → K (a.put o.dst u) w') → o.wpIn (FR rd) 0 P a w K Q

theorem opOk_of_comes {tm : List AV} {o : Oper} {S S' : St} {v : AV} (hd : ∀ cl, o.op ≠ .defer cl) (h : ∀ (G : Gh) (w : World) (a : Act), Wrel G S w → RepL G w tm a.tmps.toList → Comes1 P (execOp a.eval o) G S w v S') : OpOk P tm o S v S' := by
  intro G w a rd K Q hW ht hK
  obtain ⟨nx, u, w', G', h1, h2, h3, h4, h5⟩ := h G w a hW ht
  refine ⟨fun f _ => trivial, ?_⟩
  rw [Oper.semAt_eq _ _ _ hd, h1]
  rcases h2 with rfl | ⟨rfl, rfl⟩
  · exact hK G' w' u h3 h4 h5
  · exact hK G' w' _ h3 h4 h5

theorem aval_nodefer {tm : List AV} {o : Oper} {S : St} {v : AV} (h : aval c tm o S = some v) : ∀ cl, o.op ≠ .defer cl := fun cl e => by
  unfold aval at h
  rw [e] at h
  simp at h

theorem aval_ok (hc : CfgOk P c) {tm : List AV} {o : Oper} {S : St} {v : AV} (h : aval c tm o S = some v) : OpOk P tm o S v S :=
  opOk_of_comes (aval_nodefer h) fun G w a hW ht => aval_sound hc hW ht h

end Go.Am
