/- A PROGRAM WRITTEN AND READ. -/
import Derived.Test.YtjdhcjhalkjamaaDoorV18
import Derived.Test.YtjdhcjhalkjamaaDoorV19
set_option linter.unusedSimpArgs false
set_option linter.unusedVariables false
namespace Go.Am.V
open Go.Proofs

theorem numW_all : (List.range 256).all (fun n => decide (numW (dig n) = some (n : Int))) = true := by decide +kernel
theorem numW_dig {v : Int} (h0 : 0 ≤ v) (h1 : v ≤ 255) : numW (dig v.toNat) = some v := by
  have h := List.all_eq_true.1 numW_all v.toNat (List.mem_range.2 (by omega))
  simp only [decide_eq_true_eq] at h
  rw [h]; congr 1; omega
theorem dig_all : (List.range 256).all (fun n => (dig n).all (fun b => decide (b.toNat < 128) && !(b == 32) && !(b == 59)) && decide (1 ≤ (dig n).length) && decide ((dig n).length ≤ 3)) = true := by decide +kernel
theorem dig_facts {v : Int} (h0 : 0 ≤ v) (h1 : v ≤ 255) : Clean (dig v.toNat) ∧ dig v.toNat ≠ [] ∧ (∀ b ∈ dig v.toNat, b.toNat < 128) ∧ (dig v.toNat).length ≤ 3 := by
  have h := List.all_eq_true.1 dig_all v.toNat (List.mem_range.2 (by omega))
  simp only [Bool.and_eq_true, List.all_eq_true, decide_eq_true_eq, Bool.not_eq_true', beq_eq_false_iff_ne] at h
  exact ⟨fun b hb => ⟨(h.1.1 b hb).1.2, (h.1.1 b hb).2⟩, fun e => by have := h.1.2; rw [e] at this; simp at this, fun b hb => (h.1.1 b hb).1.1, h.2⟩

theorem num_ok {p : List Ins} {e : List Int} {i : Ins} {x : Int} {f : UInt8} {fs : List UInt8} {v : Int} {a : Nat} (h0 : 0 ≤ v) (h1 : v ≤ 255) (hy : f = 89 → ¬ v < i.x) :
    stepP ⟨p ++ [i], e ++ [x], f :: fs, false⟩ a (dig v.toNat) = (0, ⟨p ++ [setF i f v], e ++ [(a : Int)], fs, false⟩) := by
  unfold stepP
  rw [if_neg (by simp)]
  unfold numberR
  rw [numW_dig h0 h1]
  simp only [List.head?_cons, List.getLast?_concat, Option.getD_some, Option.some.injEq]
  rw [if_neg (by rintro ⟨h, h'⟩; exact hy h h')]
  simp
theorem beg_ok {p : List Ins} {e : List Int} {a : Nat} {wd : List UInt8} {k : Int} {fs : List UInt8} (h : findOp wd = some (k, fs)) (hl : p.length ≠ 64) :
    stepP ⟨p, e, [], true⟩ a wd = (0, ⟨p ++ [⟨k, 0, 0, 0⟩], e ++ [(a : Int)], fs, false⟩) := by
  unfold stepP
  rw [if_pos rfl, if_pos rfl]
  unfold beginR
  rw [h]
  simp only
  rw [if_neg hl]

theorem num_step {p : List Ins} {e : List Int} {i : Ins} {x : Int} {f : UInt8} {fs rest : List UInt8} {v : Int} {a : Nat} (h0 : 0 ≤ v) (h1 : v ≤ 255) (hy : f = 89 → ¬ v < i.x) (hr : Stop rest) :
    runW stpP (tok a [] (32 :: (dig v.toNat ++ rest))) (⟨p ++ [i], e ++ [x], f :: fs, false⟩, none) = runW stpP (tok (a + 1 + (dig v.toNat).length) [] rest) (⟨p ++ [setF i f v], e ++ [((a + 1 : Nat) : Int)], fs, false⟩, none) := by
  have hd := dig_facts h0 h1
  rw [tok_sp, tok_word hd.1 hd.2.1 hr, runP_ok (num_ok h0 h1 hy)]

theorem clean_of {l : List UInt8} (h : l.all (fun b => !(b == 32) && !(b == 59)) = true) : Clean l := fun b hb => by
  have := List.all_eq_true.1 h b hb
  simpa using this

theorem beg_step {p : List Ins} {e : List Int} {a : Nat} {wd rest : List UInt8} {k : Int} {fs : List UInt8} (h : findOp wd = some (k, fs)) (hl : p.length ≠ 64) (hc : wd.all (fun b => !(b == 32) && !(b == 59)) = true) (hne : wd ≠ []) (hr : Stop rest) :
    runW stpP (tok a [] (wd ++ rest)) (⟨p, e, [], true⟩, none) = runW stpP (tok (a + wd.length) [] rest) (⟨p ++ [⟨k, 0, 0, 0⟩], e ++ [(a : Int)], fs, false⟩, none) := by
  rw [tok_word (clean_of hc) hne hr, runP_ok (beg_ok h hl)]

/-- One operation is read. -/
theorem ins_step {n : Nat} (hn : n ≤ 64) {i : Ins} (hi : fit1 n i = true) {p : List Ins} {e : List Int} {a : Nat} {rest : List UInt8} (hl : p.length ≠ 64) (hr : Stop rest) :
    ∃ a' x, runW stpP (tok a [] (insText i ++ rest)) (⟨p, e, [], true⟩, none) = runW stpP (tok a' [] rest) (⟨p ++ [i], e ++ [x], [], false⟩, none) := by
  have hf := fit1_facts hi
  obtain ⟨o, x, y, z⟩ := i
  simp only at hf
  obtain ⟨⟨ho1, ho7⟩, ⟨hx0, hx1⟩, ⟨hy0, hy1⟩, hz0, hz1⟩ := hf
  have hz2 : z ≤ 255 := by omega
  simp only [fit1, num8] at hi
  rcases (show o = 1 ∨ o = 2 ∨ o = 3 ∨ o = 4 ∨ o = 5 ∨ o = 6 ∨ o = 7 by omega) with rfl | rfl | rfl | rfl | rfl | rfl | rfl
  · have hxy : x ≤ y := by simp at hi; omega
    have e1 : insText ⟨1, x, y, z⟩ ++ rest = [99, 104, 97, 114] ++ 32 :: (dig x.toNat ++ 32 :: (dig y.toNat ++ 32 :: (dig z.toNat ++ rest))) := by
      simp [insText, nameOf, fldsOf, opTab, valOf]
    rw [e1, beg_step (k := 1) (fs := [88, 89, 90]) (by decide) hl (by decide) (by simp) (stop_sp _), num_step hx0 hx1 (fun h => by cases h) (stop_sp _), num_step hy0 hy1 (fun _ => by simp [setF]; omega) (stop_sp _), num_step hz0 hz2 (fun h => by cases h) hr]
    exact ⟨_, _, rfl⟩
  · have hy : y = 0 := by simp at hi; omega
    subst hy
    have e1 : insText ⟨2, x, 0, z⟩ ++ rest = [105, 115] ++ 32 :: (dig x.toNat ++ 32 :: (dig z.toNat ++ rest)) := by
      simp [insText, nameOf, fldsOf, opTab, valOf]
    rw [e1, beg_step (k := 2) (fs := [88, 90]) (by decide) hl (by decide) (by simp) (stop_sp _), num_step hx0 hx1 (fun h => by cases h) (stop_sp _), num_step hz0 hz2 (fun h => by cases h) hr]
    exact ⟨_, _, rfl⟩
  · have hy : y = 0 ∧ z = 0 := by simp at hi; omega
    obtain ⟨rfl, rfl⟩ := hy
    have e1 : insText ⟨3, x, 0, 0⟩ ++ rest = [115, 101, 116] ++ 32 :: (dig x.toNat ++ rest) := by
      simp [insText, nameOf, fldsOf, opTab, valOf]
    rw [e1, beg_step (k := 3) (fs := [88]) (by decide) hl (by decide) (by simp) (stop_sp _), num_step hx0 hx1 (fun h => by cases h) hr]
    exact ⟨_, _, rfl⟩
  · have hy : y = 0 ∧ z = 0 := by simp at hi; omega
    obtain ⟨rfl, rfl⟩ := hy
    have e1 : insText ⟨4, x, 0, 0⟩ ++ rest = [97, 100, 100] ++ 32 :: (dig x.toNat ++ rest) := by
      simp [insText, nameOf, fldsOf, opTab, valOf]
    rw [e1, beg_step (k := 4) (fs := [88]) (by decide) hl (by decide) (by simp) (stop_sp _), num_step hx0 hx1 (fun h => by cases h) hr]
    exact ⟨_, _, rfl⟩
  · have hy : x = 0 ∧ y = 0 := by simp at hi; omega
    obtain ⟨rfl, rfl⟩ := hy
    have e1 : insText ⟨5, 0, 0, z⟩ ++ rest = [103, 111, 116, 111] ++ 32 :: (dig z.toNat ++ rest) := by
      simp [insText, nameOf, fldsOf, opTab, valOf]
    rw [e1, beg_step (k := 5) (fs := [90]) (by decide) hl (by decide) (by simp) (stop_sp _), num_step hz0 hz2 (fun h => by cases h) hr]
    exact ⟨_, _, rfl⟩
  · have hy : x = 0 ∧ y = 0 ∧ z = 0 := by simp at hi; omega
    obtain ⟨rfl, rfl, rfl⟩ := hy
    have e1 : insText ⟨6, 0, 0, 0⟩ ++ rest = [121, 101, 115] ++ rest := by
      simp [insText, nameOf, fldsOf, opTab, valOf]
    rw [e1, beg_step (k := 6) (fs := []) (by decide) hl (by decide) (by simp) hr]
    exact ⟨_, _, rfl⟩
  · have hy : x = 0 ∧ y = 0 ∧ z = 0 := by simp at hi; omega
    obtain ⟨rfl, rfl, rfl⟩ := hy
    have e1 : insText ⟨7, 0, 0, 0⟩ ++ rest = [110, 111] ++ rest := by
      simp [insText, nameOf, fldsOf, opTab, valOf]
    rw [e1, beg_step (k := 7) (fs := []) (by decide) hl (by decide) (by simp) hr]
    exact ⟨_, _, rfl⟩

theorem join_cons2 (x y : List UInt8) (l : List (List UInt8)) (sep : List UInt8) : Lib.join (x :: y :: l) sep = x ++ (sep ++ Lib.join (y :: l) sep) := by
  rw [Lib.join_cons, Lib.join_cons]; simp [Lib.joinTail]

/-- All operations are read. -/
theorem all_step {n : Nat} (hn : n ≤ 64) : ∀ (rest : List Ins), (∀ i ∈ rest, fit1 n i = true) → rest ≠ [] → ∀ (p : List Ins) (e : List Int) (a : Nat), p.length + rest.length ≤ 64 →
    ∃ e', runW stpP (tok a [] (Lib.join (rest.map insText) [59, 32])) (⟨p, e, [], true⟩, none) = ((⟨p ++ rest, e', [], false⟩, none), true)
  | [], _, h, _, _, _, _ => absurd rfl h
  | [i], h, _, p, e, a, hl => by
    obtain ⟨a', x, hx⟩ := ins_step hn (h i List.mem_cons_self) (p := p) (e := e) (a := a) (rest := []) (by simp at hl; omega) stop_nil
    rw [List.append_nil] at hx
    rw [List.map_cons, List.map_nil, Lib.join_one, hx]
    exact ⟨_, rfl⟩
  | i :: j :: r, h, _, p, e, a, hl => by
    simp only [List.length_cons] at hl
    obtain ⟨a', x, hx⟩ := ins_step hn (h i List.mem_cons_self) (p := p) (e := e) (a := a) (rest := [59, 32] ++ Lib.join ((j :: r).map insText) [59, 32]) (by omega) (stop_semi _)
    rw [List.map_cons] at hx
    rw [List.map_cons, List.map_cons, join_cons2, hx]
    have hst : stepP ⟨p ++ [i], e ++ [x], [], false⟩ a' [59] = (0, ⟨p ++ [i], e ++ [x], [], true⟩) := by simp [stepP]
    rw [List.cons_append, tok_semi, runP_ok hst, List.cons_append, List.nil_append, tok_sp]
    obtain ⟨e', he⟩ := all_step hn (j :: r) (fun k hk => h k (List.mem_cons_of_mem _ hk)) (by simp) (p ++ [i]) (e ++ [x]) (a' + 1 + 1) (by simp; omega)
    rw [List.map_cons] at he
    exact ⟨e', by rw [he]; simp⟩

theorem badZ_none {n : Nat} : ∀ (p : List Ins) (e : List Int), (∀ i ∈ p, i.z ≤ n) → badZ n p e = none
  | [], _, _ => by rw [badZ]; intros; simp_all
  | i :: p, [], _ => by rw [badZ]; intros; simp_all
  | i :: p, e :: es, h => by
    rw [badZ, if_neg (by have := h i List.mem_cons_self; omega), badZ_none p es fun k hk => h k (List.mem_cons_of_mem _ hk)]

theorem back (p : List Ins) (hf : fitV p = true) : parseV (printV p) = (p, 0, 0) := by
  have hl := fitV_len hf
  have hall : ∀ i ∈ p, fit1 p.length i = true := by
    simp only [fitV, Bool.and_eq_true, List.all_eq_true] at hf
    exact hf.2
  rw [parseV_tok]
  obtain ⟨e', he⟩ := all_step hl.2 p hall (by intro h; subst h; simp at hl) [] [] 0 (by simp; omega)
  unfold printV
  rw [he]
  simp only [parseR, List.nil_append, if_true]
  rw [if_neg (by simp), badZ_none p e' fun i hi => (fit1_facts (hall i hi)).2.2.2.2]

theorem ins_len {n : Nat} (hn : n ≤ 64) {i : Ins} (hi : fit1 n i = true) : (insText i).length ≤ 20 ∧ ∀ b ∈ insText i, b.toNat < 128 := by
  have hf := fit1_facts hi
  obtain ⟨o, x, y, z⟩ := i
  simp only at hf
  obtain ⟨⟨ho1, ho7⟩, ⟨hx0, hx1⟩, ⟨hy0, hy1⟩, hz0, hz1⟩ := hf
  have dx := dig_facts hx0 hx1
  have dy := dig_facts hy0 hy1
  have dz := dig_facts hz0 (v := z) (by omega)
  have nm : ∀ l : List UInt8, (l.all fun b => decide (b.toNat < 128)) = true → ∀ b ∈ l, b.toNat < 128 := fun l h b hb => by simpa using List.all_eq_true.1 h b hb
  have key : ∀ (wd t : List UInt8), (wd.all fun b => decide (b.toNat < 128)) = true → (∀ b ∈ t, b.toNat < 128) → ∀ b ∈ wd ++ t, b.toNat < 128 := fun wd t h1 h2 b hb => by
    rcases List.mem_append.1 hb with h | h
    · exact nm wd h1 b h
    · exact h2 b h
  have kd : ∀ (d t : List UInt8), (∀ b ∈ d, b.toNat < 128) → (∀ b ∈ t, b.toNat < 128) → ∀ b ∈ 32 :: (d ++ t), b.toNat < 128 := fun d t h1 h2 b hb => by
    rcases List.mem_cons.1 hb with rfl | hb
    · decide
    rcases List.mem_append.1 hb with h | h
    · exact h1 b h
    · exact h2 b h
  have k0 : ∀ b ∈ ([] : List UInt8), b.toNat < 128 := fun b hb => by cases hb
  rcases (show o = 1 ∨ o = 2 ∨ o = 3 ∨ o = 4 ∨ o = 5 ∨ o = 6 ∨ o = 7 by omega) with rfl | rfl | rfl | rfl | rfl | rfl | rfl
  · have e1 : insText ⟨1, x, y, z⟩ = [99, 104, 97, 114] ++ 32 :: (dig x.toNat ++ 32 :: (dig y.toNat ++ 32 :: (dig z.toNat ++ []))) := by
      simp [insText, nameOf, fldsOf, opTab, valOf]
    rw [e1]
    exact ⟨by simp; omega, key _ _ (by decide) (kd _ _ dx.2.2.1 (kd _ _ dy.2.2.1 (kd _ _ dz.2.2.1 k0)))⟩
  · have e1 : insText ⟨2, x, y, z⟩ = [105, 115] ++ 32 :: (dig x.toNat ++ 32 :: (dig z.toNat ++ [])) := by
      simp [insText, nameOf, fldsOf, opTab, valOf]
    rw [e1]
    exact ⟨by simp; omega, key _ _ (by decide) (kd _ _ dx.2.2.1 (kd _ _ dz.2.2.1 k0))⟩
  · have e1 : insText ⟨3, x, y, z⟩ = [115, 101, 116] ++ 32 :: (dig x.toNat ++ []) := by
      simp [insText, nameOf, fldsOf, opTab, valOf]
    rw [e1]
    exact ⟨by simp; omega, key _ _ (by decide) (kd _ _ dx.2.2.1 k0)⟩
  · have e1 : insText ⟨4, x, y, z⟩ = [97, 100, 100] ++ 32 :: (dig x.toNat ++ []) := by
      simp [insText, nameOf, fldsOf, opTab, valOf]
    rw [e1]
    exact ⟨by simp; omega, key _ _ (by decide) (kd _ _ dx.2.2.1 k0)⟩
  · have e1 : insText ⟨5, x, y, z⟩ = [103, 111, 116, 111] ++ 32 :: (dig z.toNat ++ []) := by
      simp [insText, nameOf, fldsOf, opTab, valOf]
    rw [e1]
    exact ⟨by simp; omega, key _ _ (by decide) (kd _ _ dz.2.2.1 k0)⟩
  · have e1 : insText ⟨6, x, y, z⟩ = [121, 101, 115] ++ [] := by
      simp [insText, nameOf, fldsOf, opTab, valOf]
    rw [e1]
    exact ⟨by simp, key _ _ (by decide) k0⟩
  · have e1 : insText ⟨7, x, y, z⟩ = [110, 111] ++ [] := by
      simp [insText, nameOf, fldsOf, opTab, valOf]
    rw [e1]
    exact ⟨by simp, key _ _ (by decide) k0⟩

theorem prog_len {n : Nat} (hn : n ≤ 64) : ∀ (l : List Ins), (∀ i ∈ l, fit1 n i = true) → (Lib.join (l.map insText) [59, 32]).length ≤ 22 * l.length ∧ ∀ b ∈ Lib.join (l.map insText) [59, 32], b.toNat < 128
  | [], _ => ⟨by rw [List.map_nil, Lib.join_nil]; simp, by rw [List.map_nil, Lib.join_nil]; intro b hb; cases hb⟩
  | [i], h => by
    have := ins_len hn (h i List.mem_cons_self)
    rw [List.map_cons, List.map_nil, Lib.join_one]
    exact ⟨by simp; omega, this.2⟩
  | i :: j :: r, h => by
    have h1 := ins_len hn (h i List.mem_cons_self)
    have h2 := prog_len hn (j :: r) fun k hk => h k (List.mem_cons_of_mem _ hk)
    rw [List.map_cons, List.map_cons, join_cons2]
    rw [List.map_cons] at h2
    refine ⟨by simp only [List.length_append, List.length_cons, List.length_nil] at h2 ⊢; omega, fun b hb => ?_⟩
    rcases List.mem_append.1 hb with hb | hb
    · exact h1.2 b hb
    rcases List.mem_append.1 hb with hb | hb
    · simp at hb; rcases hb with rfl | rfl <;> decide
    · exact h2.2 b hb

theorem print_facts (p : List Ins) (hf : fitV p = true) : (printV p).length ≤ 1000000 ∧ ∀ k, k ≤ (printV p).length → idxOk ((printV p).drop k) = true := by
  have hl := fitV_len hf
  have hall : ∀ i ∈ p, fit1 p.length i = true := by
    simp only [fitV, Bool.and_eq_true, List.all_eq_true] at hf
    exact hf.2
  have h := prog_len hl.2 p hall
  refine ⟨by unfold printV; omega, fun k hk => ?_⟩
  unfold idxOk
  simp only [decide_eq_true_eq, List.length_drop]
  unfold printV at hk ⊢
  omega

theorem vmBack5' (p : List Ins) (hp : p.length ≤ 1000000000000000) : PC (cfg vw) 5 [.vec (inRows p)] (.bool true) :=
  vmBack5 p hp (back p) (print_facts p)
end Go.Am.V
