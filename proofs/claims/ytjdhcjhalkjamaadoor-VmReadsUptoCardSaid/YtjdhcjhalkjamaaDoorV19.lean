/- THE WORDS OF A TEXT, plainly. -/
import Derived.Test.YtjdhcjhalkjamaaDoorV17
set_option linter.unusedSimpArgs false
set_option linter.unusedVariables false
namespace Go.Am.V
open Go.Proofs

/-- Words, and ; alone, with their places: cur are the letters of the word so far. -/
def tok : Nat → List UInt8 → List UInt8 → List (Nat × List UInt8)
  | a, cur, [] => if cur = [] then [] else [(a, cur)]
  | a, cur, b :: l =>
    if b = 32 then (if cur = [] then [] else [(a, cur)]) ++ tok (a + cur.length + 1) [] l
    else if b = 59 then (if cur = [] then [] else [(a, cur)]) ++ (a + cur.length, [59]) :: tok (a + cur.length + 1) [] l
    else tok a (cur ++ [b]) l

/-- Without blank and ;. -/
def Clean (l : List UInt8) : Prop := ∀ b ∈ l, b ≠ 32 ∧ b ≠ 59

theorem tok_clean : ∀ (pre : List UInt8), Clean pre → ∀ (a : Nat) (cur rest : List UInt8), tok a cur (pre ++ rest) = tok a (cur ++ pre) rest
  | [], _, a, cur, rest => by simp
  | b :: pre, h, a, cur, rest => by
    have hb := h b List.mem_cons_self
    rw [List.cons_append, tok, if_neg hb.1, if_neg hb.2, tok_clean pre (fun x hx => h x (List.mem_cons_of_mem _ hx))]
    simp

theorem idx_cases : ∀ l : List UInt8, (Lib.indexAny l [32, 59] = -1 ∧ Clean l) ∨ ∃ pre b r, l = pre ++ b :: r ∧ Clean pre ∧ (b = 32 ∨ b = 59) ∧ Lib.indexAny l [32, 59] = (pre.length : Int)
  | [] => .inl ⟨rfl, fun b hb => by cases hb⟩
  | b :: l => by
    by_cases hb : b = 32 ∨ b = 59
    · exact .inr ⟨[], b, l, rfl, (fun x hx => by cases hx), hb, by unfold Lib.indexAny; rw [if_pos (by simpa using hb)]; rfl⟩
    · have hb' : ¬ ([32, 59] : List UInt8).contains b = true := by simpa using hb
      have hb2 : b ≠ 32 ∧ b ≠ 59 := ⟨fun h => hb (.inl h), fun h => hb (.inr h)⟩
      rcases idx_cases l with ⟨h1, h2⟩ | ⟨pre, c, r, h1, h2, h3, h4⟩
      · refine .inl ⟨by unfold Lib.indexAny; rw [if_neg hb', h1]; rfl, fun x hx => ?_⟩
        rcases List.mem_cons.1 hx with rfl | hx
        · exact hb2
        · exact h2 x hx
      · refine .inr ⟨b :: pre, c, r, by rw [h1]; rfl, fun x hx => ?_, h3, ?_⟩
        · rcases List.mem_cons.1 hx with rfl | hx
          · exact hb2
          · exact h2 x hx
        · unfold Lib.indexAny
          rw [if_neg hb', h4, if_neg (by simp <;> omega)]
          simp

theorem wl_tok (s : List UInt8) : ∀ (k a : Nat), s.length - a ≤ k → wl s k a = tok a [] (s.drop a)
  | 0, a, h => by rw [wl, List.drop_eq_nil_of_le (by omega), tok, if_pos rfl]
  | k + 1, a, h => by
    rw [wl]
    by_cases ha : s.length ≤ a
    · rw [if_pos ha, List.drop_eq_nil_of_le ha, tok, if_pos rfl]
    rw [if_neg ha]
    have hne : s.drop a ≠ [] := by simp; omega
    rcases idx_cases (s.drop a) with ⟨h1, h2⟩ | ⟨pre, b, r, h1, h2, h3, h4⟩
    · rw [if_pos (by unfold ix; omega)]
      have := tok_clean _ h2 a [] []
      rw [List.append_nil, List.nil_append, tok, if_neg hne] at this
      exact this.symm
    · have hix : ix s a = (pre.length : Int) := h4
      rw [if_neg (by omega)]
      have hrl : r.length + pre.length + 1 = s.length - a := by
        have := congrArg List.length h1
        simp at this; omega
      have hdr : ∀ n, s.drop (a + n) = (s.drop a).drop n := fun n => by rw [List.drop_drop]
      by_cases hp : pre = []
      · subst hp
        rw [if_pos (by rw [hix]; rfl)]
        have hga : s[a]? = some b := by
          have := congrArg (fun l => l[0]?) h1
          simpa using this
        have hd : s.drop (a + 1) = r := by rw [hdr, h1]; rfl
        have ih := wl_tok s k (a + 1) (by omega)
        rw [hd] at ih
        rw [h1, List.nil_append, hga, ih, tok]
        rcases h3 with rfl | rfl
        · simp
        · simp
      · have hpl : pre.length ≠ 0 := by simpa using hp
        have h00 : ¬ ((pre.length : Int) = 0) := by omega
        rw [hix, if_neg h00, Int.toNat_natCast]
        have hd : s.drop (a + pre.length) = b :: r := by rw [hdr, h1]; simp
        have ht : (s.drop a).take pre.length = pre := by rw [h1]; simp
        have ih := wl_tok s k (a + pre.length) (by omega)
        rw [hd] at ih
        rw [ih, ht, h1, tok_clean pre h2, List.nil_append, tok, tok]
        rcases h3 with rfl | rfl
        · simp [hp]
        · simp [hp]

theorem parseV_tok (s : List UInt8) : parseV s = parseR s (runW stpP (tok 0 [] s) (⟨[], [], [], true⟩, none)) := by
  unfold parseV
  rw [wl_tok s s.length 0 (by omega)]
  rfl

/-- Nothing, or a blank or ; is next. -/
def Stop (l : List UInt8) : Prop := ∀ b r, l = b :: r → b = 32 ∨ b = 59
theorem tok_word {wd rest : List UInt8} (h : Clean wd) (hne : wd ≠ []) (hr : Stop rest) (a : Nat) : tok a [] (wd ++ rest) = (a, wd) :: tok (a + wd.length) [] rest := by
  rw [tok_clean wd h, List.nil_append]
  cases rest with
  | nil => rw [tok, if_neg hne, tok, if_pos rfl]
  | cons b r =>
    rw [tok, tok]
    rcases hr b r rfl with rfl | rfl
    · simp [hne]
    · simp [hne]
theorem tok_sp (a : Nat) (l : List UInt8) : tok a [] (32 :: l) = tok (a + 1) [] l := by rw [tok]; simp
theorem tok_semi (a : Nat) (l : List UInt8) : tok a [] (59 :: l) = (a, [59]) :: tok (a + 1) [] l := by rw [tok]; simp
theorem stop_nil : Stop [] := fun b r h => by cases h
theorem stop_sp (l : List UInt8) : Stop (32 :: l) := fun b r h => .inl (by cases h; rfl)
theorem stop_semi (l : List UInt8) : Stop (59 :: l) := fun b r h => .inr (by cases h; rfl)

theorem runP_ok {r r' : Rd} {a : Nat} {wd : List UInt8} {l : List (Nat × List UInt8)} (h : stepP r a wd = (0, r')) : runW stpP ((a, wd) :: l) (r, none) = runW stpP l (r', none) := by
  have e : stpP (r, none) (a, wd) = ((r', none), true) := by simp [stpP, h]
  rw [runW_t (by rw [e]), e]
theorem runP_no {r : Rd} {e : Int} {r' : Rd} {a : Nat} {wd : List UInt8} {l : List (Nat × List UInt8)} (h : stepP r a wd = (e, r')) (he : e ≠ 0) : runW stpP ((a, wd) :: l) (r, none) = ((r', some (e, (a : Int))), false) := by
  have e : stpP (r, none) (a, wd) = ((r', some (e, (a : Int))), false) := by simp [stpP, h, he]
  rw [runW_f (by rw [e]), e]
end Go.Am.V
