/- THE BUILDER: taking in a tree. -/
import Derived.Test.YtbmfnoaogebjfaaDoorT3
set_option linter.unusedSimpArgs false
set_option linter.unusedVariables false
set_option maxRecDepth 20000
namespace Go.Am.R
open Go.Proofs Go.IntWalk

variable {w : Ways}

/-- Rows that one may append to. -/
def Ow (rows : Rows) (v : AV) (S : St) : Prop := (rows = [] ∧ v = .nils) ∨ (rows ≠ [] ∧ ∃ o g, v = .own rows o g ∧ o < S.n ∧ S.get o = some (.tail g))
theorem Ow.alen {rows : Rows} {v : AV} {S : St} (h : Ow rows v S) {t e : TypeId} (ht : kindOf (cfg w) t = .slice e) (T : St) : Am.alen (cfg w) T t v = some (.int .i64 rows.length) := by
  unfold Am.alen
  rw [ht]
  rcases h with ⟨rfl, rfl⟩ | ⟨_, o, g, rfl, _⟩ <;> rfl
theorem Ow.isK {l : List Nat} {v : AV} {S : St} (h : Ow (ks l) v S) : IsK v l := by
  rcases h with ⟨h1, rfl⟩ | ⟨h1, o, g, rfl, _⟩
  · exact .inr (.inr ⟨by cases l with | nil => rfl | cons _ _ => simp [ks] at h1, rfl⟩)
  · exact .inr (.inl ⟨fun e => h1 (by rw [e]; rfl), o, g, rfl⟩)
/-- v isn't at q. -/
def Aw (v : AV) (q : Nat) : Prop := ∀ r o g, v = .own r o g → o ≠ q
theorem Ow.aw {rows : Rows} {v : AV} {S : St} {q : Nat} {x : AObj} (h : Ow rows v S) (hg : S.get q = some x) (hx : ∀ g, x ≠ AObj.tail g) : Aw v q := by
  rcases h with ⟨_, rfl⟩ | ⟨_, o, g, rfl, _, h4⟩
  · intro r o g e; cases e
  · intro r o' g' e he
    cases e; subst he
    rw [h4] at hg; cases hg; exact hx _ rfl
theorem app_ow {es bytes : Nat} {rows : Rows} {v : AV} {S : St} (row : List AV) (h : Ow rows v S) (hok : S.ok) (hb : S.base = 0) (hr : row.length = es) (hh : headOk es rows = true) (hc : capOk (rows.length + 1) bytes = true) :
    ∃ v' S', aappend es bytes false v [row] S = some (v', S') ∧ Ow (rows ++ [row]) v' S' ∧ S'.ok ∧ S'.base = 0 ∧ S.n ≤ S'.n ∧ leafC v' = true ∧ v'.cells = [v'] ∧
      (∀ q x, q < S.n → Aw v q → S.get q = some x → S'.get q = some x) ∧ (∀ q, q < S.n → Aw v q → Aw v' q) := by
  have hh' : headOk es [row] = true := by simp [headOk, hr]
  rcases h with ⟨rfl, rfl⟩ | ⟨h1, o, g, rfl, h3, h4⟩
  · refine ⟨.own [row] S.n 0, S.push (.tail 0), ?_, .inr ⟨by simp, S.n, 0, rfl, by rw [St.pushN]; omega, St.get_pushe⟩, St.ok_push hok, by rw [St.pushB]; exact hb, by rw [St.pushN]; omega, rfl, rfl, fun q x hq _ hx => by rw [St.get_pushn (by omega)]; exact hx, fun q hq _ r o g e => by cases e; omega⟩
    have hc' : capOk ([row] : Rows).length bytes = true := hc
    simp [aappend, hh', hc', aappend.fresh]
    simpa using hc'
  · refine ⟨.own (rows ++ [row]) o (g + 1), S.set o (.tail (g + 1)), ?_, .inr ⟨by simp, o, g + 1, rfl, by rw [St.setN]; exact h3, St.get_sete hok h3⟩, St.ok_set hok, by rw [St.setB]; exact hb, by rw [St.setN]; omega, rfl, rfl, fun q x hq ha hx => ?_, fun q hq ha r o' g' e => by cases e; exact ha _ _ _ rfl⟩
    · have he : rows.isEmpty = false := by cases rows with | nil => exact absurd rfl h1 | cons _ _ => rfl
      have hb' : S.base ≤ o := by omega
      have hc' : capOk (rows.length + ([row] : Rows).length) bytes = true := hc
      simp [aappend, hh', h4, he, hc', hh, hb']
      simpa using hc'
    · rw [St.get_setn h3 (Ne.symm (ha _ _ _ rfl))]; exact hx
theorem ks_snoc (l : List Nat) (i : Nat) : ks l ++ [[.int .i64 (i : Int)]] = ks (l ++ [i]) := by simp [ks]
theorem ks_hd (l : List Nat) : headOk 1 (ks l) = true := by cases l <;> rfl

/-! ### What a slot holds, as a key -/
def kidsT : Rows → Option (List UInt8)
  | [] => some []
  | [.int .i64 k] :: rs => if 0 ≤ k ∧ k < 1000000000000 then (kidsT rs).map fun t => Lib.decDigits k.toNat ++ 32 :: t else none
  | _ => none
def keyF (args : List AV) : Option AV :=
  match args with
  | [x] =>
    match nrm x with
    | some (.agg [.str k, .bool nm, .str f, .int .i64 a, .int .i64 b, .int .i64 d, .vec [], .vec rows, .int .i64 _, .int .i64 _]) =>
      if rows.length ≤ 1000000000000 then (kidsT rows).map fun t => .agg [.str k, .str f, .bool nm, .int .i64 a, .int .i64 b, .int .i64 d, .str t] else none
    | _ => none
  | _ => none
/-- Kids that a key can be made of. -/
def Kok (l : List Nat) : Prop := l.length ≤ 1000000000000 ∧ ∀ k ∈ l, k < 1000000000000
theorem kidsT_ks (l : List Nat) (hl : ∀ k ∈ l, k < 1000000000000) : kidsT (ks l) = some (ktxt l) := by
  induction l with
  | nil => rfl
  | cons k l ih =>
    have h : ks (k :: l) = [.int .i64 (k : Int)] :: ks l := rfl
    have hk := hl k (by simp)
    have hk2 : 0 ≤ (k : Int) ∧ (k : Int) < 1000000000000 := by omega
    rw [h, kidsT, ih fun x hx => hl x (by simp [hx])]
    simp [ktxt]
    omega
theorem keyF_eq {fs : Fs} {l : List Nat} (hK : Kok l) {c6 c7 : AV} {r x : Int} (h6 : IsE c6) (h7 : IsK c7 l) : keyF [.agg [.str fs.kind, .bool fs.named, .str fs.field, .int .i64 fs.frm, .int .i64 fs.to, .int .i64 fs.bad, c6, c7, .int .i64 r, .int .i64 x]] = some (.agg (keyC (fs, l))) := by
  have : nrm (.agg [.str fs.kind, .bool fs.named, .str fs.field, .int .i64 fs.frm, .int .i64 fs.to, .int .i64 fs.bad, c6, c7, .int .i64 r, .int .i64 x]) = some (.agg [.str fs.kind, .bool fs.named, .str fs.field, .int .i64 fs.frm, .int .i64 fs.to, .int .i64 fs.bad, .vec [], .vec (ks l), .int .i64 r, .int .i64 x]) := by
    simp [nrm, nrmL, h6.nrm, h7.nrm]
  have hlen : (ks l).length ≤ 1000000000000 := by rw [ks_len]; exact hK.1
  simp only [keyF, this, kidsT_ks l hK.2, Option.map_some, if_pos hlen]
  rfl
theorem key_call (hk : w.ext 46 = some (.val keyF)) {fs : Fs} {l : List Nat} (hK : Kok l) {c6 c7 : AV} {r x : Int} (h6 : IsE c6) (h7 : IsK c7 l) (S : St) :
    callF (cfg w) (lim (cfg w)) 46 [.agg [.str fs.kind, .bool fs.named, .str fs.field, .int .i64 fs.frm, .int .i64 fs.to, .int .i64 fs.bad, c6, c7, .int .i64 r, .int .i64 x]] S = some (.agg (keyC (fs, l)), S) := by
  simp [callF, cfgP_ext, hk, XT.run, keyF_eq hK h6 h7]

/-- The builder isn't touched. -/
theorem Bd.keep {o m : Nat} {sv rv : AV} {R : Rows} {es : List (AV × AV × Nat)} {clock : Nat} {A : Ar} {full : Bool} {S S' : St} (h : Bd o m sv rv R es clock A full S) (ok : S'.ok) (hb : S'.base = 0) (hn : S.n ≤ S'.n)
    (hg : ∀ q x, q < S.n → (∀ g, x ≠ AObj.tail g) → (q = o ∨ (∀ c l, x ≠ AObj.row c l)) → S.get q = some x → S'.get q = some x) : Bd o m sv rv R es clock A full S' :=
  ⟨ok, hb, by have := h.n; omega, hg _ _ h.n (fun g e => by cases e) (.inl rfl) h.g, by have := h.mn; omega, hg _ _ h.mn (fun g e => by cases e) (.inr fun c l e => by cases e) h.mg, h.mok,
    h.sv.kp hn (fun q g rows e hq hx => hg _ _ hq (fun g e => by cases e) (.inr fun c l e => by cases e) hx), h.rows, h.rv.kp hn (fun q g rows e hq hx => hg _ _ hq (fun g e => by cases e) (.inr fun c l e => by cases e) hx)⟩
theorem BD.push {o : Nat} {A : Ar} {full : Bool} {S : St} (h : BD o A full S) (a : AObj) : BD o A full (S.push a) := by
  obtain ⟨m, sv, rv, R, es, clock, h⟩ := h
  exact ⟨m, sv, rv, R, es, clock, h.keep (St.ok_push h.ok) (by rw [St.pushB]; exact h.base) (by rw [St.pushN]; omega) fun q x hq _ _ hx => by rw [St.get_pushn (by omega)]; exact hx⟩
theorem BD.setRow {o : Nat} {A : Ar} {full : Bool} {S : St} (h : BD o A full S) {q : Nat} {c : List AV} {lk : Bool} (hq : q < S.n) (hqo : q ≠ o) (hx : S.get q = some (.row c lk)) (a : AObj) : BD o A full (S.set q a) := by
  obtain ⟨m, sv, rv, R, es, clock, h⟩ := h
  refine ⟨m, sv, rv, R, es, clock, h.keep (St.ok_set h.ok) (by rw [St.setB]; exact h.base) (by rw [St.setN]; omega) fun i x hi _ hrow hg => ?_⟩
  by_cases e : i = q
  · subst e
    rcases hrow with rfl | hrow
    · exact absurd rfl hqo
    · rw [hx] at hg; cases hg; exact absurd rfl (hrow _ _)
  · rw [St.get_setn hq e]; exact hg
theorem BD.facts {o : Nat} {A : Ar} {full : Bool} {S : St} (h : BD o A full S) : S.ok ∧ S.base = 0 ∧ o < S.n ∧ ∃ c1 c2 c3 c4, S.get o = some (.row [c1, c2, c3, c4, .bool full] false) := by
  obtain ⟨m, sv, rv, R, es, clock, h⟩ := h
  exact ⟨h.ok, h.base, h.n, _, _, _, _, h.g⟩
end Go.Am.R
