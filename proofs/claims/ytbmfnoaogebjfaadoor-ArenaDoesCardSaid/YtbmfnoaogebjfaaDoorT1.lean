/- AN ARENA'S BUILDER IN THE ABSTRACT MACHINE'S MEMORY. -/
import Derived.Test.YtbmfnoaogebjfaaDoorT0
import Derived.Test.YtbmfnoaogebjfaaDoorPa
import Derived.Lib.ItoaNum
set_option linter.unusedSimpArgs false
set_option linter.unusedVariables false
namespace Go.Am.R
open Go.Proofs

/-! ### Digits -/
theorem dec_ascii (u : Nat) : ∀ b ∈ Lib.decDigits u, 48 ≤ b.toNat ∧ b.toNat ≤ 57 := by
  induction u using Nat.strongRecOn with
  | _ u ih =>
    intro b hb
    rw [Lib.decDigits] at hb
    split at hb
    · rename_i h
      rw [List.mem_singleton] at hb; subst hb
      rw [UInt8.toNat_ofNat']; omega
    · rename_i h
      rcases List.mem_append.1 hb with hb | hb
      · exact ih _ (by omega) b hb
      · rw [List.mem_singleton] at hb; subst hb
        rw [UInt8.toNat_ofNat']; omega
theorem dec_val (u : Nat) : (Lib.decDigits u).foldl (fun a b => a * 10 + (b.toNat - 48)) 0 = u := by
  induction u using Nat.strongRecOn with
  | _ u ih =>
    rw [Lib.decDigits]
    split
    · rename_i h
      simp [UInt8.toNat_ofNat']
      omega
    · rename_i h
      rw [List.foldl_append, ih _ (by omega)]
      simp [UInt8.toNat_ofNat']
      omega
theorem dec_inj {u v : Nat} (h : Lib.decDigits u = Lib.decDigits v) : u = v := by
  rw [← dec_val u, h, dec_val]

def ktxt : List Nat → List UInt8
  | [] => []
  | k :: l => Lib.decDigits k ++ 32 :: ktxt l
theorem split32 : ∀ (a b x y : List UInt8), (∀ c ∈ a, c ≠ 32) → (∀ c ∈ b, c ≠ 32) → a ++ 32 :: x = b ++ 32 :: y → a = b ∧ x = y
  | [], [], x, y, _, _, h => by simpa using h
  | [], d :: b, x, y, _, h2, h => by
    simp at h
    exact absurd h.1.symm (h2 d List.mem_cons_self)
  | c :: a, [], x, y, h1, _, h => by
    simp at h
    exact absurd h.1 (h1 c List.mem_cons_self)
  | c :: a, d :: b, x, y, h1, h2, h => by
    simp only [List.cons_append, List.cons.injEq] at h
    obtain ⟨rfl, h⟩ := h
    obtain ⟨rfl, rfl⟩ := split32 a b x y (fun z hz => h1 z (List.mem_cons_of_mem _ hz)) (fun z hz => h2 z (List.mem_cons_of_mem _ hz)) h
    exact ⟨rfl, rfl⟩
theorem dec_no32 (u : Nat) : ∀ c ∈ Lib.decDigits u, c ≠ 32 := fun c hc e => by
  have := dec_ascii u c hc
  rw [e] at this
  exact absurd this.1 (by decide)
theorem ktxt_inj : ∀ (l m : List Nat), ktxt l = ktxt m → l = m
  | [], [], _ => rfl
  | [], k :: m, h => by simp [ktxt] at h
  | k :: l, [], h => by simp [ktxt] at h
  | k :: l, j :: m, h => by
    rw [ktxt, ktxt] at h
    obtain ⟨h1, h2⟩ := split32 _ _ _ _ (dec_no32 k) (dec_no32 j) h
    rw [dec_inj h1, ktxt_inj l m h2]

/-! ### Keys -/
def keyC (K : Key) : List AV := [.str K.1.kind, .str K.1.field, .bool K.1.named, .int .i64 K.1.frm, .int .i64 K.1.to, .int .i64 K.1.bad, .str (ktxt K.2)]
theorem keyC_eq (K L : Key) : leavesEq (keyC K) (keyC L) = some (decide (K = L)) := by
  obtain ⟨⟨a, b, c, d, e, f⟩, l⟩ := K
  obtain ⟨⟨a', b', c', d', e', f'⟩, l'⟩ := L
  have h1 : (ktxt l == ktxt l') = decide (l = l') := by
    by_cases h : l = l'
    · subst h; simp
    · rw [decide_eq_false h, beq_eq_false_iff_ne]
      exact fun e => h (ktxt_inj _ _ e)
  have hs : ∀ x y : List UInt8, (x == y) = decide (x = y) := fun x y => by
    by_cases h : x = y
    · subst h; simp
    · rw [decide_eq_false h, beq_eq_false_iff_ne]; exact h
  have hb : ∀ x y : Bool, (x == y) = decide (x = y) := fun x y => by cases x <;> cases y <;> rfl
  have hi : ∀ x y : Int, (x == y) = decide (x = y) := fun x y => by
    by_cases h : x = y
    · subst h; simp
    · rw [decide_eq_false h, beq_eq_false_iff_ne]; exact h
  simp only [keyC, leavesEq, leafEq, ↓reduceIte, Option.bind_some, Option.map_some, h1, hs, hb, hi, Option.some.injEq]
  rw [Bool.eq_iff_iff]
  simp [Prod.ext_iff]
  constructor
  · rintro ⟨h1, h2, h3, h4, h5, h6, h7⟩; exact ⟨⟨h1, h3, h2, h4, h5, h6⟩, h7⟩
  · rintro ⟨⟨h1, h2, h3, h4, h5, h6⟩, h7⟩; exact ⟨h1, h3, h2, h4, h5, h6, h7⟩

def keyE (x : Key × Nat) : AV × AV := (.agg (keyC x.1), .int .i64 (x.2 : Nat))
def proj (e : AV × AV × Nat) : AV × AV := (e.1, e.2.1)

theorem find_no {K : Key} : ∀ (es : List (AV × AV × Nat)) (M : List (Key × Nat)) (n : Nat), es.map proj = M.map keyE → (∀ x ∈ M, x.1 ≠ K) → findKey (.agg (keyC K)) es n = some none
  | [], [], n, _, _ => rfl
  | [], x :: M, n, h, _ => by simp at h
  | e :: es, [], n, h, _ => by simp at h
  | (k, v, b) :: es, x :: M, n, h, hn => by
    simp only [List.map_cons, List.cons.injEq, proj, keyE, Prod.mk.injEq] at h
    obtain ⟨⟨rfl, rfl⟩, h⟩ := h
    have hx : ¬ K = x.1 := fun e => hn x List.mem_cons_self e.symm
    rw [findKey, keyEq, keyC_eq, decide_eq_false hx]
    simp only [Option.bind_some, Bool.false_eq_true, if_false]
    exact find_no es M (n + 1) h fun y hy => hn y (List.mem_cons_of_mem _ hy)
theorem find_yes {K : Key} {i : Nat} : ∀ (es : List (AV × AV × Nat)) (M1 M2 : List (Key × Nat)) (n : Nat), es.map proj = (M1 ++ (K, i) :: M2).map keyE → (∀ x ∈ M1, x.1 ≠ K) → findKey (.agg (keyC K)) es n = some (some (n + M1.length, .int .i64 (i : Nat)))
  | [], M1, M2, n, h, _ => by simp at h
  | (k, v, b) :: es, [], M2, n, h, hn => by
    simp only [List.nil_append, List.map_cons, List.cons.injEq, proj, keyE, Prod.mk.injEq] at h
    obtain ⟨⟨rfl, rfl⟩, h⟩ := h
    rw [findKey, keyEq, keyC_eq, decide_eq_true rfl]
    simp
  | (k, v, b) :: es, x :: M1, M2, n, h, hn => by
    simp only [List.cons_append, List.map_cons, List.cons.injEq, proj, keyE, Prod.mk.injEq] at h
    obtain ⟨⟨rfl, rfl⟩, h⟩ := h
    have hx : ¬ K = x.1 := fun e => hn x List.mem_cons_self e.symm
    rw [findKey, keyEq, keyC_eq, decide_eq_false hx]
    simp only [Option.bind_some, Bool.false_eq_true, if_false]
    rw [find_yes es M1 M2 (n + 1) h fun y hy => hn y (List.mem_cons_of_mem _ hy)]
    simp
    omega

/-- The map of what slots hold: what stands in it is used, and all that is used. -/
structure MapOk (es : List (AV × AV × Nat)) (clock : Nat) (S : List Sl) : Prop where
  ex : ∃ M : List (Key × Nat), es.map proj = M.map keyE ∧ (M.map (·.1)).Nodup ∧ ∀ K i, (K, i) ∈ M ↔ ∃ s, S[i]? = some s ∧ s.refs ≠ 0 ∧ s.key = K
  born : ∀ e ∈ es, e.2.2 < clock

theorem MapOk.no {es : List (AV × AV × Nat)} {clock : Nat} {S : List Sl} (h : MapOk es clock S) {K : Key} (hl : look S K = none) : findKey (.agg (keyC K)) es 0 = some none := by
  obtain ⟨M, h1, h2, h3⟩ := h.ex
  refine find_no es M 0 h1 fun x hx e => ?_
  obtain ⟨s, a1, a2, a3⟩ := (h3 x.1 x.2).1 hx
  exact look_none hl x.2 s a1 a2 (a3.trans e)
theorem MapOk.yes {es : List (AV × AV × Nat)} {clock : Nat} {S : List Sl} (h : MapOk es clock S) {K : Key} {i : Nat} {s : Sl} (hs : S[i]? = some s) (hr : s.refs ≠ 0) (hk : s.key = K) :
    ∃ M1 M2, es.map proj = (M1 ++ (K, i) :: M2).map keyE ∧ (∀ x ∈ M1, x.1 ≠ K) ∧ findKey (.agg (keyC K)) es 0 = some (some (M1.length, .int .i64 (i : Nat))) := by
  obtain ⟨M, h1, h2, h3⟩ := h.ex
  obtain ⟨M1, M2, rfl⟩ := List.append_of_mem ((h3 K i).2 ⟨s, hs, hr, hk⟩)
  have hn : ∀ x ∈ M1, x.1 ≠ K := fun x hx e => by
    rw [List.map_append, List.nodup_append] at h2
    exact h2.2.2 x.1 (List.mem_map_of_mem hx) K (by simp) e
  refine ⟨M1, M2, h1, hn, ?_⟩
  rw [find_yes es M1 M2 0 h1 hn]; simp
end Go.Am.R
