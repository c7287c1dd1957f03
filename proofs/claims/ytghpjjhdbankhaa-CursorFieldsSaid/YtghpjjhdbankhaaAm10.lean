/- THE ABSTRACT MACHINE, ELEVENTH FILE: operations that make memory, and stores. -/
import Derived.Test.YtghpjjhdbankhaaAm9
import Derived.IntWalk
set_option linter.unusedSimpArgs false
set_option linter.unusedVariables false
namespace Go.Am
open Go.RowKit
variable {P : Program} {c : Cfg}

/-! ### New objects -/
def Gh.addBlk (G : Gh) (o b : Nat) : Gh := { G with blk := fun o' b' => G.blk o' b' ∨ (o' = o ∧ b' = b) }
theorem Gh.le_addBlk (G : Gh) (o b : Nat) : G.Le (G.addBlk o b) := ⟨fun _ _ h => .inl h, fun _ _ _ h => h, fun _ _ h => h⟩
theorem Gh.addBlk_new (G : Gh) (o b : Nat) : (G.addBlk o b).blk o b := .inr ⟨rfl, rfl⟩

theorem blk_new {G : Gh} {S : St} {w : World} (h : Wrel G S w) {b b' : Nat} (hb : (G.addBlk S.n b).blk S.n b') : b' = b := by
  rcases hb with hb | hb
  · have := h.bblk _ _ hb; omega
  · exact hb.2

theorem push_blk {G : Gh} {S : St} {w : World} {a : AObj} {ob : Obj} (h : Wrel G S w) (ho : ∀ b, ownsA (G.addBlk S.n w.heap.size) S.n a b → (G.addBlk S.n w.heap.size).blk S.n b)
    (hobj : ObjRel (G.addBlk S.n w.heap.size) (w.alloc ob) S.n a) : Wrel (G.addBlk S.n w.heap.size) (S.push a) (w.alloc ob) ∧ Step G S w (G.addBlk S.n w.heap.size) (S.push a) (w.alloc ob) := by
  refine push_step h (Laid.alloc w ob) (G.le_addBlk _ _) (fun o b hb => hb.imp id fun x => x.1) (fun b b' h1 h2 => by rw [blk_new h h1, blk_new h h2]) (fun o g s hs => .inl hs) (fun g s s' h1 h2 => h.fseg _ _ _ _ h1 h2)
    (fun b f hi => .inl hi) (fun b hb => ?_) hobj
  have := blk_new h (ho b hb)
  subst this
  simp

theorem frozen_new (w : World) (c : Array Value) (e : TypeId) (f : Nat) : (w.alloc (.cells c e)).frozen? ⟨w.heap.size, f, none⟩ = false := by
  have h := World.alloc_heap_new w (.cells c e)
  unfold World.frozen?
  rw [h]
  simp

theorem open_new (w : World) (c : Array Value) (e : TypeId) (p n : Nat) (h : p + n ≤ c.size) : Open (w.alloc (.cells c e)) w.heap.size p n := fun j hj => by
  refine ⟨?_, frozen_new w c e _⟩
  rw [World.cell?_alloc_new]
  simp; omega

theorem push_row {G : Gh} {S : St} {w : World} {cs : List AV} {vs : Array Value} (e : TypeId) (h : Wrel G S w) (hr : RepL G w cs vs.toList) (hl : ∀ (j : Nat) (x : AV), cs[j]? = some x → leaf x = true) :
    Wrel (G.addBlk S.n w.heap.size) (S.push (.row cs false)) (w.alloc (.cells vs e)) ∧ Step G S w (G.addBlk S.n w.heap.size) (S.push (.row cs false)) (w.alloc (.cells vs e)) := by
  have hk := (Laid.alloc w (.cells vs e)).kept h
  have hlen : vs.size = cs.length := by simpa using hr.1
  refine push_blk h (fun b hb => hb) ⟨w.heap.size, G.addBlk_new _ _, open_new w vs e 0 _ (by omega), fun j x hj => ?_, fun _ f hi => ?_⟩
  · obtain ⟨u, hu, hru⟩ := hr.get hj
    refine ⟨hl j x hj, u, ?_, hru.mono (G.le_addBlk _ _) hk⟩
    rw [World.cell?_alloc_new]
    simpa using hu
  · have := h.im_lt hi
    omega

theorem comes_alloc (hc : CfgOk P c) {G : Gh} {S : St} {w : World} {e : TypeId} {i : Ty} {z : List AV} (hW : Wrel G S w) (hi : c.ty e = some i) (hz : i.zero = some z) :
    Comes1 P (do pure (.value (← Instr.alloc e true (.tuple #[])))) G S w (.ptr S.n 0) (S.push (.row z false)) := by
  obtain ⟨info, d, h1, h2, h3, h4, h5, h6⟩ := ty_inv (hc.ty e i hi)
  rw [h6] at hz
  simp only [Option.bind_eq_some_iff] at hz
  obtain ⟨zv, hzv, hz⟩ := hz
  obtain ⟨hzr, hzl, hzx⟩ := zeroC_rep (G := G) (w := w) hz
  obtain ⟨k1, k2⟩ := push_row e hW hzr hzl
  exact comes_value' (by simp [Instr.alloc, Sem.run_bind, run_zero_ty h1 hzv, newVar, newRow]) k1 k2 (.ptr _ _ _ (G.addBlk_new _ _))

theorem comes_box {G : Gh} {S : St} {w : World} {x : AV} {u : Value} (e : TypeId) (hW : Wrel G S w) (hx : Rep G w x u) (hl : leafC x = true) :
    Comes1 P (do pure (.value (← Instr.box e u))) G S w (.ptr S.n 0) (S.push (.row x.cells false)) := by
  obtain ⟨h1, h2⟩ := rep_cells hx hl
  obtain ⟨k1, k2⟩ := push_row e hW h1 h2
  exact comes_value' (by simp [Instr.box, Sem.run_bind, newVar, newRow]) k1 k2 (.ptr _ _ _ (G.addBlk_new _ _))

def Gh.addSeg (G : Gh) (o g : Nat) (s : Seg) (I : Nat → Nat → Prop) : Gh := { G with seg := fun o' g' s' => G.seg o' g' s' ∨ (o' = o ∧ g' = g ∧ s' = s), im := fun b f => G.im b f ∨ I b f }
theorem Gh.le_addSeg (G : Gh) (o g : Nat) (s : Seg) (I : Nat → Nat → Prop) : G.Le (G.addSeg o g s I) := ⟨fun _ _ h => h, fun _ _ _ h => .inl h, fun _ _ h => .inl h⟩
theorem Gh.addSeg_new (G : Gh) (o g : Nat) (s : Seg) (I : Nat → Nat → Prop) : (G.addSeg o g s I).seg o g s := .inr ⟨rfl, rfl, rfl⟩

/-- A new row of cells, with or without cells of it that are written no more. -/
theorem push_seg {G : Gh} {S : St} {w : World} {a : AObj} {ob : Obj} (h : Wrel G S w) (s : Seg) (hb : s.b = w.heap.size) (ha : genOf a = some 0) (I : Nat → Nat → Prop) (hI : ∀ b f, I b f → b = w.heap.size ∧ ∃ u, (w.alloc ob).cell? ⟨b, f, none⟩ = some u)
    (hobj : ObjRel (G.addSeg S.n 0 s I) (w.alloc ob) S.n a) : Wrel (G.addSeg S.n 0 s I) (S.push a) (w.alloc ob) ∧ Step G S w (G.addSeg S.n 0 s I) (S.push a) (w.alloc ob) := by
  have hnew : ∀ g s', (G.addSeg S.n 0 s I).seg S.n g s' → g = 0 ∧ s' = s := fun g s' hs => by
    rcases hs with hs | hs
    · have := (h.bseg _ _ _ hs).1; omega
    · exact hs.2
  refine push_step h (Laid.alloc w ob) (G.le_addSeg _ _ _ _) (fun o b hb => .inl hb) (fun b b' h1 h2 => h.fblk _ _ _ h1 h2) (fun o g s' hs => ?_) (fun g s1 s2 h1 h2 => by rw [(hnew _ _ h1).2, (hnew _ _ h2).2])
    (fun b f hi => hi.imp id fun x => ⟨by have := (hI b f x).1; omega, (hI b f x).2⟩) (fun b hb' => ?_) hobj
  · rcases hs with hs | ⟨rfl, rfl, rfl⟩
    · exact .inl hs
    · exact .inr ⟨rfl, fun g' hg => Nat.zero_le _⟩
  · have : ∃ s', (G.addSeg S.n 0 s I).seg S.n 0 s' ∧ 0 < s'.cp ∧ s'.b = b := by
      cases a <;> simp [genOf] at ha <;> subst ha <;> exact hb'
    obtain ⟨s', h1, h2, h3⟩ := this
    rw [(hnew _ _ h1).2] at h3
    subst h3
    rw [hb]
    simp

theorem comes_makeSlice (hc : CfgOk P c) {G : Gh} {S : St} {w : World} {t e : TypeId} {ei : Ty} {z : List AV} {n m : Int} {k k' : IntKind} (hW : Wrel G S w) (hk : kindOf c t = .slice e) (he : c.ty e = some ei) (hz : ei.zero = some z)
    (h : 0 ≤ n ∧ n ≤ m ∧ m ≤ 281474976710656 ∧ ei.bytes * m ≤ 281474976710656 ∧ z.length = ei.size ∧ 0 < ei.size) :
    Comes1 P (do pure (.value (← Instr.makeSlice t (.int k n) (.int k' m)))) G S w (.sref S.n 0 0 n.toNat) (S.push (.seq 0 ei.size (List.replicate n.toNat z) 0)) := by
  obtain ⟨h1, h2, h3, h4, h5, h6⟩ := h
  have hu := kind_slice hc hk
  obtain ⟨einfo, d, k1, _, _, k4, k5, k6⟩ := ty_inv (hc.ty e ei he)
  rw [k6] at hz
  simp only [Option.bind_eq_some_iff] at hz
  obtain ⟨zv, hzv, hz⟩ := hz
  obtain ⟨hzr, hzl, hzx⟩ := zeroC_rep (G := G) (w := w) hz
  have hzs : zv.cells.size = einfo.size := by have := hzr.1; simp at this; omega
  generalize hcells : (Array.range (m.toNat * einfo.size)).map (fun q => zv.cells[q % zv.cells.size]!) = cells
  have hrows : RowsIn G w ei.size (List.replicate m.toNat z) cells.toList := by
    rw [← hcells, hzs, ← hzs, range_zero zv.cells m.toNat zv.cells.size rfl (by omega), ← h5]
    exact RowsIn.replicate hzr hzl m.toNat
  have hsize : cells.size = m.toNat * ei.size := by have := hrows.size; simpa using this
  have hk' := (Laid.alloc w (.cells cells e)).kept hW
  have hg : G.Le (G.addSeg S.n 0 ⟨w.heap.size, 0, 0, m.toNat, ei.size⟩ fun _ _ => False) := G.le_addSeg _ _ _ _
  obtain ⟨g1, g2⟩ := push_seg (ob := .cells cells e) (a := .seq 0 ei.size (List.replicate n.toNat z) 0) hW ⟨w.heap.size, 0, 0, m.toNat, ei.size⟩ rfl rfl (fun _ _ => False) (fun b f x => x.elim)
    ⟨⟨w.heap.size, 0, 0, m.toNat, ei.size⟩, G.addSeg_new _ _ _ _, rfl, by simp; omega, fun i r hi => by
      rw [List.getElem?_replicate] at hi
      split at hi
      · simp at hi; subst hi; exact h5
      · simp at hi, fun hpos => ⟨open_new w cells e 0 _ (by simp; omega), fun i r j x hi hj => by
      have hi' : (List.replicate m.toNat z)[i]? = some r := by
        rw [List.getElem?_replicate] at hi ⊢
        split at hi
        · rw [if_pos (by omega)]; exact hi
        · simp at hi
      obtain ⟨a1, u, a2, a3⟩ := hrows.cell i r j x hi' hj
      refine ⟨a1, u, ?_, a3.mono hg hk'⟩
      show (w.alloc (.cells cells e)).cell? ⟨w.heap.size, 0 + i * ei.size + j, none⟩ = some u
      rw [World.cell?_alloc_new, Nat.zero_add]
      simpa using a2, fun f hi => by
      rcases hi with hi | hi
      · have := hW.im_lt hi
        simp at this
      · exact hi.elim⟩⟩
  have hwl : ∀ q : Int, 0 ≤ q → q ≤ 281474976710656 → IntKind.i64.wrap q = q := fun q a b => IntWalk.i64_in _ (by omega)
  refine comes_value' (u := .slice (some ⟨w.heap.size, 0, none⟩) n.toNat m.toNat) (w' := w.alloc (.cells cells e)) ?_ g1 g2 ?_
  · have hb : (einfo.bytes : Int) * m ≤ 281474976710656 := by rw [← k5]; exact h4
    have hbad : (decide (m < 0) || decide ((einfo.bytes : Int) * m > 2 ^ 48) || decide (n < 0) || decide (n > m)) = false := by
      simp
      omega
    have hz0 : einfo.size ≠ 0 := by omega
    simp only [Instr.makeSlice, Sem.run_bind, run_underlying hu, Result.andThen_ok, asInt, asIntOf, Sem.run_pure, run_info_ty k1, hwl n h1 (by omega), hwl m (by omega) h3]
    rw [if_neg (by simpa using hbad)]
    simp only [Sem.run_bind, run_askRoom, Result.andThen_ok, run_size_ty k1, Sem.run_pure]
    by_cases h0 : m.toNat * einfo.size = 0
    · rw [if_pos h0]
      have hc0 : cells = #[] := by rw [← hcells, h0]; simp
      simp only [h0, Sem.run_bind, Sem.run_pure, Result.andThen_ok, newRow, run_newObj_alloc]
      rw [hc0]
      have hr0 : Array.range 0 = #[] := by simp
      rw [hr0]
      simp
    · rw [if_neg h0]
      simp only [Sem.run_bind, run_zero_ty k1 hzv, Sem.run_pure, Result.andThen_ok, newRow, run_newObj_alloc, hcells]
  · by_cases h0 : 0 < m.toNat
    · have := Rep.sref (w := w.alloc (.cells cells e)) S.n 0 0 n.toNat _ (G.addSeg_new S.n 0 ⟨w.heap.size, 0, 0, m.toNat, ei.size⟩ fun _ _ => False) h0 (by simp; omega)
      simpa using this
    · have hm : m.toNat = 0 := by omega
      have hn : n.toNat = 0 := by omega
      rw [hm, hn]
      exact Rep.sref0 S.n 0 0 _ (G.addSeg_new S.n 0 ⟨w.heap.size, 0, 0, 0, ei.size⟩ fun _ _ => False) rfl _

/-! ### Stores -/
theorem setCells_turned (b : Nat) : ∀ (vs : List Value) (o : Nat) (w : World), Turned b w (w.setCells b o vs) ∧ (w.setCells b o vs).heap.size = w.heap.size
  | [], o, w => ⟨⟨Nat.le_refl _, rfl, rfl, rfl, fun _ _ _ => rfl⟩, rfl⟩
  | v :: vs, o, w => by
    obtain ⟨h1, h2⟩ := setCells_turned b vs (o + 1) (w.setCell ⟨b, o, none⟩ v)
    have hs : (w.setCell ⟨b, o, none⟩ v).heap.size = w.heap.size := by simp
    rw [World.setCells]
    refine ⟨⟨by rw [h2, hs]; exact Nat.le_refl _, h1.os, h1.tape, h1.output, fun k hk hne => ?_⟩, by rw [h2, hs]⟩
    rw [h1.heap k (by rw [hs]; exact hk) hne]
    exact Below.heap_setCell w _ v k hne

theorem open_setCells {w : World} {b p n : Nat} (h : Open w b p n) (b' o : Nat) (vs : List Value) : Open (w.setCells b' o vs) b p n := fun j hj => by
  obtain ⟨h1, h2⟩ := h j hj
  exact ⟨World.isSome_setCells b' vs o w _ h1, by rw [World.frozen?_setCells]; exact h2⟩

theorem run_storeVar_gen {t : TypeId} {i : Ty} (hi : tyOf P t = some i) {w : World} {b o : Nat} {v : Value} (ht : Open w b o v.cells.size) (hs : v.cells.size = i.size) (h1 : ∀ u ∈ v.cells.toList, u.oneCell' = true) :
    (Instr.storeAt t (.pointer (some ⟨b, o, none⟩)) v).run P w = .ok () (w.setCells b o v.cells.toList) := by
  obtain ⟨info, d, k1, _, _, k4, _⟩ := ty_inv hi
  have := run_storeCells_cells (P := P) b o v.cells.toList 0 w (fun j hj => by simpa using (ht j (by simpa using hj)).1) (fun j hj => by simpa using (ht j (by simpa using hj)).2) h1
  simp only [Nat.add_zero] at this
  have hs' : v.cells.size = info.size := by omega
  simp [Instr.storeAt, Instr.sureAddr, storeVar, Sem.run_bind, run_size_ty k1, hs', this]

/-- The cells behind a store of some of them. -/
theorem cellsAt_setCells {G : Gh} {w : World} {b p off : Nat} {cs xs : List AV} {vs : List Value} (h : CellsAt G w b p cs) (ho : Open w b p cs.length) (hx : RepL G w xs vs) (hl : ∀ (j : Nat) (x : AV), xs[j]? = some x → leaf x = true) (hle : off + xs.length ≤ cs.length)
    (hk : Kept G w (w.setCells b (p + off) vs)) : CellsAt G (w.setCells b (p + off) vs) b p (splice cs off xs) := fun j x hj => by
  have hv := hx.1
  have htk : (cs.take off).length = off := by rw [List.length_take]; omega
  unfold splice at hj
  rw [List.append_assoc, List.getElem?_append] at hj
  split at hj
  · rename_i hlt
    rw [htk] at hlt
    rw [List.getElem?_take, if_pos hlt] at hj
    obtain ⟨h1, u, h2, h3⟩ := h j x hj
    exact ⟨h1, u, by rw [World.cell?_setCells_out b vs _ w _ (fun _ _ => by left; show p + j < p + off; omega)]; exact h2, h3.mono (.refl G) hk⟩
  · rename_i hge
    rw [htk] at hge hj
    rw [List.getElem?_append] at hj
    split at hj
    · rename_i hlt
      obtain ⟨u, hu, hr⟩ := hx.get hj
      have hjl : j - off < vs.length := (List.getElem?_eq_some_iff.1 hu).1
      refine ⟨hl _ x hj, u, ?_, hr.mono (.refl G) hk⟩
      have := World.cell?_setCells_in b vs (p + off) w (fun i hi => by
        have := (ho (off + i) (by omega)).1
        rw [show p + off + i = p + (off + i) by omega]; exact this) (j - off) hjl
      rw [show p + off + (j - off) = p + j by omega] at this
      rw [this, ← hu, List.getElem?_eq_getElem hjl]
    · rename_i hge2
      rw [List.getElem?_drop] at hj
      rw [show off + xs.length + (j - off - xs.length) = j by omega] at hj
      obtain ⟨h1, u, h2, h3⟩ := h j x hj
      exact ⟨h1, u, by rw [World.cell?_setCells_out b vs _ w _ (fun _ _ => by right; show p + off + vs.length ≤ p + j; omega)]; exact h2, h3.mono (.refl G) hk⟩

theorem splice_length {cs xs : List AV} {off : Nat} (h : off + xs.length ≤ cs.length) : (splice cs off xs).length = cs.length := by
  simp [splice]; omega

theorem comes_store (hc : CfgOk P c) {G : Gh} {S S' : St} {w : World} {t : TypeId} {i : Ty} {a x : AV} {u v : Value} (hW : Wrel G S w) (hi : c.ty t = some i) (h : S.store i a x = some S') (ha : Rep G w a u) (hx : Rep G w x v) :
    Comes1 P (do Instr.storeAt t u v; pure .skip) G S w .undef S' := by
  have hi := hc.ty t i hi
  unfold St.store at h
  split at h
  case isFalse => simp at h
  rename_i hq
  obtain ⟨hl, hsz⟩ := hq
  obtain ⟨hr, hlf⟩ := rep_cells hx hl
  have hvs : v.cells.size = i.size := by have := hr.1; simp at this; omega
  have hone : ∀ u ∈ v.cells.toList, u.oneCell' = true := fun q hq => by
    obtain ⟨j, hj⟩ := List.getElem?_of_mem hq
    have hjl : j < x.cells.length := by rw [← hr.1]; exact (List.getElem?_eq_some_iff.1 hj).1
    obtain ⟨q', h1, h2⟩ := hr.get (List.getElem?_eq_getElem hjl)
    rw [hj] at h1
    cases h1
    exact rep_oneCell h2 (hlf j _ (List.getElem?_eq_getElem hjl))
  split at h
  · rename_i o off
    split at h
    · rename_i cs hg
      split at h
      · rename_i hle
        obtain ⟨hbase, rfl⟩ := St.putO_some h
        cases ha with
        | ptr _ _ b hb =>
          obtain ⟨hcs, hop, him⟩ := hW.row hg hb
          have him := him rfl
          have hk : Kept G w (w.setCells b (0 + off) v.cells.toList) := fun b' f q hi' hq => by
            rw [World.cell?_setCells_out b _ _ w _ (fun e _ => absurd hi' (by rw [show b' = b from e]; exact him f))]; exact hq
          have hat := cellsAt_setCells hcs hop hr hlf (by omega) hk
          obtain ⟨ht, hts⟩ := setCells_turned b v.cells.toList (0 + off) w
          obtain ⟨g1, g2⟩ := upd_step (G' := G) (a := .row (splice cs off x.cells) false) hW hg hbase ht (.inl hb) (.refl G) hk (fun o b h => h) (fun o g s h => .inl h) (fun g g' h => by simp [genOf] at h) (fun g h => by simp [genOf] at h) (fun g s s' h1 h2 => hW.fseg _ _ _ _ h1 h2)
            (fun b f h => .inl h) (fun b' h => .inl h) ⟨b, hb, by rw [splice_length (by omega)]; exact open_setCells hop _ _ _, fun j y hj => by
              have h9 := hat j y hj
              rw [Nat.zero_add j] at h9
              exact h9, fun _ => him⟩
          refine comes_unit (w' := w.setCells b (0 + off) v.cells.toList) ?_ g1 g2
          rw [Nat.zero_add]
          exact run_storeVar_gen hi (fun j hj => by have := hop (off + j) (by omega); rwa [Nat.zero_add] at this) hvs hone
      · simp at h
    · simp at h
  · rename_i o g r off
    split at h
    · rename_i g' es rows exp hg
      simp only [Option.bind_eq_some_iff] at h
      obtain ⟨cs, hcs, h⟩ := h
      split at h
      · rename_i hq
        obtain ⟨rfl, hexp, hle⟩ := hq
        obtain ⟨hbase, rfl⟩ := St.putO_some h
        cases ha with
        | eptr _ _ _ _ s hs =>
          obtain ⟨hes, hlen, hrl, hcell, hpos⟩ := hW.seq hg hs
          have hrlt : r < rows.length := (List.getElem?_eq_some_iff.1 hcs).1
          obtain ⟨hop, him⟩ := hpos (by omega)
          have hcsl := hrl _ _ hcs
          have hrow : r * s.es + s.es ≤ s.cp * s.es := by
            have : (r + 1) * s.es ≤ s.cp * s.es := Nat.mul_le_mul_right _ (by omega)
            rw [Nat.add_mul] at this; omega
          have hexp' : exp * s.es ≤ r * s.es := Nat.mul_le_mul_right _ hexp
          have hopr : Open w s.b (s.st + r * s.es) cs.length := fun j hj => by
            have := hop (r * s.es + j) (by omega)
            rwa [← Nat.add_assoc] at this
          have hk : Kept G w (w.setCells s.b (s.st + r * s.es + off) v.cells.toList) := fun b' f q hi' hq => by
            rw [World.cell?_setCells_out s.b _ _ w _ (fun e _ => .inl ?_)]; exact hq
            have := him f (by rw [← show b' = s.b from e]; exact hi')
            show f < s.st + r * s.es + off
            omega
          have hat := cellsAt_setCells (hcell _ _ hcs) hopr hr hlf (by omega) hk
          obtain ⟨ht, hts⟩ := setCells_turned s.b v.cells.toList (s.st + r * s.es + off) w
          have hown : ownsA G o (.seq g es rows exp) s.b := ⟨s, hs, by omega, rfl⟩
          have hxl : off + x.cells.length ≤ cs.length := by omega
          obtain ⟨g1, g2⟩ := upd_step (G' := G) (a := .seq g es (rows.set r (splice cs off x.cells)) exp) hW hg hbase ht (.inl hown) (.refl G) hk (fun o b h => h) (fun o g s h => .inl h) (fun g g' h h' => by simp [genOf] at h h'; omega) (fun g h => rfl) (fun g s s' h1 h2 => hW.fseg _ _ _ _ h1 h2)
            (fun b f h => .inl h) (fun b' h => .inl h) ⟨s, hs, hes, by simpa using hlen, fun k q hk' => by
              rw [List.getElem?_set] at hk'
              split at hk'
              · rename_i e
                subst e
                simp [hrlt] at hk'
                subst hk'
                rw [splice_length hxl]; exact hcsl
              · exact hrl _ _ hk', fun hcp => ⟨open_setCells hop _ _ _, fun k q j y hk' hj => by
              rw [List.getElem?_set] at hk'
              split at hk'
              · rename_i e
                subst e
                simp [hrlt] at hk'
                subst hk'
                exact hat j y hj
              · rename_i hne
                obtain ⟨a1, q', a2, a3⟩ := hcell _ _ hk' j y hj
                refine ⟨a1, q', ?_, a3.mono (.refl G) hk⟩
                have hjl : j < s.es := by rw [← hrl _ _ hk']; exact (List.getElem?_eq_some_iff.1 hj).1
                rw [World.cell?_setCells_out s.b _ _ w _ (fun _ _ => ?_)]; exact a2
                have hvl : v.cells.toList.length = x.cells.length := hr.1
                rcases Nat.lt_or_gt_of_ne hne with h' | h'
                · right
                  have : (r + 1) * s.es ≤ k * s.es := Nat.mul_le_mul_right _ h'
                  rw [Nat.add_mul] at this
                  show s.st + r * s.es + off + v.cells.toList.length ≤ s.st + k * s.es + j
                  omega
                · left
                  have : (k + 1) * s.es ≤ r * s.es := Nat.mul_le_mul_right _ h'
                  rw [Nat.add_mul] at this
                  show s.st + k * s.es + j < s.st + r * s.es + off
                  omega, him⟩⟩
          refine comes_unit (w' := w.setCells s.b (s.st + r * s.es + off) v.cells.toList) ?_ g1 g2
          exact run_storeVar_gen hi (fun j hj => by have := hopr (off + j) (by omega); rwa [← Nat.add_assoc] at this) hvs hone
      · simp at h
    · simp at h
  · simp at h

end Go.Am
