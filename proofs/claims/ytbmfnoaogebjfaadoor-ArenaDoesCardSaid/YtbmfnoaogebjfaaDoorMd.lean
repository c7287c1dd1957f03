/- THE ABSTRACT MACHINE, A PART OF IT. -/
import Derived.Test.YtbmfnoaogebjfaaDoorMc
/- THE ABSTRACT MACHINE, TWENTY-THIRD FILE: operations depend on their operands, and on the objects of their footprint. -/
set_option linter.unusedSimpArgs false
set_option linter.unusedVariables false
namespace Go.Am
open Go.RowKit
variable [Pin] {P : Program} {c : Cfg}

/-! ### Operands -/
def SameOn (tm tm' : List AV) (xs : List Operand) : Prop := ∀ x ∈ xs, evalT tm x = evalT tm' x

omit [Pin] in
theorem sameOn_of {tm tm' : List AV} {xs : List Operand} (h : ∀ t ∈ xs.filterMap tmpOf, tm.getD t .undef = tm'.getD t .undef) : SameOn tm tm' xs := fun x hx => by
  cases x with
  | tmp t =>
    have := h t (List.mem_filterMap.2 ⟨.tmp t, hx, rfl⟩)
    simp only [evalT]
    rw [this]
  | const v => rfl
  | global g => rfl
  | func f => rfl

omit [Pin] in
theorem evalL_same {tm tm' : List AV} : ∀ {xs : List Operand}, SameOn tm tm' xs → evalL tm xs = evalL tm' xs
  | [], h => rfl
  | x :: xs, h => by
    simp only [evalL]
    rw [h x (by simp), evalL_same fun y hy => h y (by simp [hy])]

omit [Pin] in
theorem evalO_same {tm tm' : List AV} {x : Option Operand} (h : SameOn tm tm' x.toList) : evalO tm x = evalO tm' x := by
  cases x with
  | none => rfl
  | some y => simp only [evalO]; rw [h y (by simp)]

omit [Pin] in
theorem evalP_same {tm tm' : List AV} : ∀ {xs : List (Nat × Operand)}, SameOn tm tm' (xs.map (·.2)) → evalP tm xs = evalP tm' xs
  | [], h => rfl
  | (i, x) :: xs, h => by
    simp only [evalP]
    rw [h x (by simp), evalP_same fun y hy => h y (by simp only [List.map_cons, List.mem_cons]; exact .inr hy)]

omit [Pin] in
theorem flatMap_same {α β : Type} {f g : α → List β} : ∀ {l : List α}, (∀ x ∈ l, f x = g x) → l.flatMap f = l.flatMap g
  | [], h => rfl
  | x :: l, h => by
    rw [List.flatMap_cons, List.flatMap_cons, h x (by simp), flatMap_same fun y hy => h y (by simp [hy])]

omit [Pin] in
theorem refsO_same {tm tm' : List AV} {x : Operand} (h : evalT tm x = evalT tm' x) : refsO tm x = refsO tm' x := by
  unfold refsO
  rw [h]

omit [Pin] in
theorem aval_same {tm tm' : List AV} {o : Oper} (S : St) (h : SameOn tm tm' o.op.operands.toList) : aval c tm o S = aval c tm' o S := by
  obtain ⟨dst, op, type, pos, after, guard⟩ := o
  simp only at h
  cases op with
  | call cl =>
    obtain ⟨callee, args, argTypes⟩ := cl
    have ha : SameOn tm tm' args.toList := fun x hx => h x (by simp only [Op.operands, Call.operands, Array.toList_append, List.mem_append]; exact .inr hx)
    cases callee with
    | builtin b =>
      cases b <;> simp only [aval] <;> first
        | rfl
        | rw [evalL_same ha]
        | (split
           · rename_i x t h1 h2
             rw [ha x (by rw [h1]; simp)]
           · rfl)
    | _ => simp only [aval]
  | move x => simp only [aval]; exact h x (by simp [Op.operands])
  | assign x => simp only [aval]; exact h x (by simp [Op.operands])
  | pick x a b =>
    simp only [aval]
    rw [h x (by simp [Op.operands])]
    split
    · rename_i t ht
      cases t
      · exact h b (by simp [Op.operands])
      · exact h a (by simp [Op.operands])
    · rfl
  | build t ps => simp only [aval]; rw [evalP_same (fun x hx => h x (by simpa [Op.operands] using hx))]
  | buildSlice t len ps =>
    have he : evalP tm ps.toList = evalP tm' ps.toList := evalP_same (fun x hx => h x (by simpa [Op.operands] using hx))
    simp only [aval, he]
  | load t a => simp only [aval]; rw [h a (by simp [Op.operands])]
  | nilCheck x => simp only [aval]; rw [h x (by simp [Op.operands])]
  | binOp op t x y yt => simp only [aval]; rw [h x (by simp [Op.operands]), h y (by simp [Op.operands])]
  | unOp op t x => simp only [aval]; rw [h x (by simp [Op.operands])]
  | convert a b x => simp only [aval]; rw [h x (by simp [Op.operands])]
  | makeFunc f first cap =>
    have h1 : evalL tm first.toList = evalL tm' first.toList := evalL_same fun x hx => h x (by simp only [Op.operands, Array.toList_append, List.mem_append]; exact .inl hx)
    have h2 : evalL tm cap.toList = evalL tm' cap.toList := evalL_same fun x hx => h x (by simp only [Op.operands, Array.toList_append, List.mem_append]; exact .inr hx)
    cases f <;> simp only [aval, h1, h2]
  | slice t x lo hi mx =>
    have h1 : evalT tm x = evalT tm' x := h x (by simp [Op.operands])
    have h2 : evalO tm lo = evalO tm' lo := evalO_same fun x hx => h x (by simp only [Op.operands, Array.toList_append, List.mem_append]; exact .inl (.inl (.inr (by simpa using hx))))
    have h3 : evalO tm hi = evalO tm' hi := evalO_same fun x hx => h x (by simp only [Op.operands, Array.toList_append, List.mem_append]; exact .inl (.inr (by simpa using hx)))
    cases mx <;> simp only [aval, h1, h2, h3]
  | fieldAddr s x f => simp only [aval]; rw [h x (by simp [Op.operands])]
  | field s x f => simp only [aval]; rw [h x (by simp [Op.operands])]
  | indexAddr t x i => simp only [aval]; rw [h x (by simp [Op.operands]), h i (by simp [Op.operands])]
  | index t x i => simp only [aval]; rw [h x (by simp [Op.operands]), h i (by simp [Op.operands])]
  | lookup t x i ok => simp only [aval]; rw [h x (by simp [Op.operands]), h i (by simp [Op.operands])]
  | extract x i => simp only [aval]; rw [h x (by simp [Op.operands])]
  | _ => simp only [aval]

omit [Pin] in
theorem calm_same {R : Rec} {tm tm' : List AV} {o : Oper} (h : SameOn tm tm' o.op.operands.toList) : calm c R tm o = calm c R tm' o := by
  obtain ⟨dst, op, type, pos, after, guard⟩ := o
  simp only at h
  cases op with
  | call cl =>
    obtain ⟨callee, args, argTypes⟩ := cl
    have ha : evalL tm args.toList = evalL tm' args.toList := evalL_same fun x hx => h x (by simp only [Op.operands, Call.operands, Array.toList_append, List.mem_append]; exact .inr hx)
    cases callee with
    | value f => cases f <;> simp only [calm, ha]
    | _ => simp only [calm]
  | _ => simp only [calm]

omit [Pin] in
theorem calmable_same {tm tm' : List AV} {o : Oper} (h : SameOn tm tm' o.op.operands.toList) : calmable c tm o = calmable c tm' o := by
  obtain ⟨dst, op, type, pos, after, guard⟩ := o
  simp only at h
  cases op with
  | call cl =>
    obtain ⟨callee, args, argTypes⟩ := cl
    have ha : evalL tm args.toList = evalL tm' args.toList := evalL_same fun x hx => h x (by simp only [Op.operands, Call.operands, Array.toList_append, List.mem_append]; exact .inr hx)
    cases callee with
    | value f => cases f <;> simp only [calmable, ha]
    | _ => simp only [calmable]
  | _ => simp only [calmable]

omit [Pin] in
theorem aeff_same {R : Rec} {fid rid : Nat} {tm tm' : List AV} {o : Oper} (S : St) (h : SameOn tm tm' o.op.operands.toList) : aeff c R fid rid tm o S = aeff c R fid rid tm' o S := by
  obtain ⟨dst, op, type, pos, after, guard⟩ := o
  simp only at h
  cases op with
  | call cl =>
    obtain ⟨callee, args, argTypes⟩ := cl
    have ha : SameOn tm tm' args.toList := fun x hx => h x (by simp only [Op.operands, Call.operands, Array.toList_append, List.mem_append]; exact .inr hx)
    cases callee with
    | value f =>
      have hf : evalT tm f = evalT tm' f := h f (by simp [Op.operands, Call.operands])
      simp only [aeff, hf, evalL_same ha]
    | builtin b =>
      cases b <;> simp only [aeff]
      all_goals (split; · rename_i x y t u h1 h2; rw [ha x (by rw [h1]; simp), ha y (by rw [h1]; simp)])
      all_goals rfl
    | _ => simp only [aeff]
  | alloc e => simp only [aeff]
  | box t x => simp only [aeff]; rw [h x (by simp [Op.operands])]
  | store t a x => simp only [aeff]; rw [h a (by simp [Op.operands]), h x (by simp [Op.operands])]
  | makeSlice t l cp => simp only [aeff]; rw [h l (by simp [Op.operands]), h cp (by simp [Op.operands])]
  | slice t x lo hi mx =>
    have h1 : evalT tm x = evalT tm' x := h x (by simp [Op.operands])
    have h2 : evalO tm lo = evalO tm' lo := evalO_same fun x hx => h x (by simp only [Op.operands, Array.toList_append, List.mem_append]; exact .inl (.inl (.inr (by simpa using hx))))
    have h3 : evalO tm hi = evalO tm' hi := evalO_same fun x hx => h x (by simp only [Op.operands, Array.toList_append, List.mem_append]; exact .inl (.inr (by simpa using hx)))
    cases mx <;> simp only [aeff, h1, h2, h3]
  | makeMap t r => cases r <;> simp only [aeff]
  | mapUpdate t m k x => simp only [aeff]; rw [h m (by simp [Op.operands]), h k (by simp [Op.operands]), h x (by simp [Op.operands])]
  | mapEntry t m k => simp only [aeff]; rw [h m (by simp [Op.operands]), h k (by simp [Op.operands])]
  | entryStore t m s x => simp only [aeff]; rw [h m (by simp [Op.operands]), h s (by simp [Op.operands]), h x (by simp [Op.operands])]
  | _ => simp only [aeff]

omit [Pin] in
theorem rfoot_same {tm tm' : List AV} {o : Oper} (h : SameOn tm tm' o.op.operands.toList) : rfoot tm o = rfoot tm' o := by
  obtain ⟨dst, op, type, pos, after, guard⟩ := o
  simp only at h
  cases op with
  | call cl =>
    obtain ⟨callee, args, argTypes⟩ := cl
    have ha : SameOn tm tm' args.toList := fun x hx => h x (by simp only [Op.operands, Call.operands, Array.toList_append, List.mem_append]; exact .inr hx)
    have : args.toList.flatMap (refsO tm) = args.toList.flatMap (refsO tm') := flatMap_same fun x hx => refsO_same (ha x hx)
    cases callee with
    | builtin b => cases b <;> simp only [rfoot, this]
    | _ => simp only [rfoot]
  | load t a => simp only [rfoot]; exact refsO_same (h a (by simp [Op.operands]))
  | slice t x lo hi mx => simp only [rfoot]; exact refsO_same (h x (by simp [Op.operands]))
  | indexAddr t x i => simp only [rfoot]; exact refsO_same (h x (by simp [Op.operands]))
  | lookup t x i ok => simp only [rfoot]; exact refsO_same (h x (by simp [Op.operands]))
  | _ => simp only [rfoot]

/-! ### Objects -/
def SameAt (S S' : St) (l : List Nat) : Prop := ∀ o ∈ l, S.get o = S'.get o

omit [Pin] in
theorem rowsOf_same {S S' : St} {x : AV} (h : SameAt S S' (refs x)) : S.rowsOf x = S'.rowsOf x := by
  cases x <;> simp only [St.rowsOf]
  rename_i o g off len
  simp only [St.rows]
  rw [h o (by simp [refs])]

omit [Pin] in
theorem refsO_at {S S' : St} {tm : List AV} {x : Operand} {v : AV} (h : SameAt S S' (refsO tm x)) (hv : evalT tm x = some v) : SameAt S S' (refs v) := by
  unfold refsO at h
  rw [hv] at h
  exact h

omit [Pin] in
theorem load_same {S S' : St} {i : Ty} {a : AV} (h : SameAt S S' (refs a)) : S.load i a = S'.load i a := by
  cases a <;> simp only [St.load]
  · rename_i o off; rw [h o (by simp [refs])]
  · rename_i o g r off; rw [h o (by simp [refs])]

omit [Pin] in
theorem asliceV_same {S S' : St} {es : Nat} {x : AV} {lo hi : Option AV} (h : SameAt S S' (refs x)) : asliceV S es x lo hi = asliceV S' es x lo hi := by
  cases x <;> simp only [asliceV]
  rename_i o g off len
  rw [h o (by simp [refs])]

omit [Pin] in
theorem aindexAddr_same {S S' : St} {t : TypeId} {x i : AV} (h : SameAt S S' (refs x)) : aindexAddr c S t x i = aindexAddr c S' t x i := by
  unfold aindexAddr
  cases x with
  | sref o g off len =>
    have ho := h o (by simp [refs])
    simp only [ho]
  | _ =>
    have ho := rowsOf_same h
    simp only [ho]

omit [Pin] in
theorem alookup_same {S S' : St} {t : TypeId} {x k : AV} {ok : Bool} (h : SameAt S S' (refs x)) : alookup c S t x k ok = alookup c S' t x k ok := by
  unfold alookup
  cases x with
  | map o =>
    have ho := h o (by simp [refs])
    cases kindOf c t <;> first | rfl | simp only [ho]
  | _ => cases kindOf c t <;> rfl

omit [Pin] in
theorem alen_same {S S' : St} {t : TypeId} {x : AV} (h : SameAt S S' (refs x)) : alen c S t x = alen c S' t x := by
  unfold alen
  cases x with
  | map o =>
    have ho := h o (by simp [refs])
    cases kindOf c t <;> first | rfl | simp only [ho]
  | _ => cases kindOf c t <;> rfl

omit [Pin] in
theorem aval_local {tm : List AV} {o : Oper} {S S' : St} (h : SameAt S S' (rfoot tm o)) : aval c tm o S = aval c tm o S' := by
  obtain ⟨dst, op, type, pos, after, guard⟩ := o
  cases op with
  | call cl =>
    obtain ⟨callee, args, argTypes⟩ := cl
    cases callee with
    | builtin b =>
      cases b <;> simp only [aval]
      simp only [rfoot] at h
      split
      · rename_i x t h1 h2
        cases hx : evalT tm x with
        | none => rfl
        | some v =>
          simp only [Option.bind_some]
          refine alen_same (refsO_at (fun o ho => h o ?_) hx)
          rw [h1]
          simpa using ho
      · rfl
    | _ => simp only [aval]
  | load t a =>
    simp only [rfoot] at h
    simp only [aval]
    cases c.ty t with
    | none => rfl
    | some i =>
      cases hx : evalT tm a with
      | none => rfl
      | some v => exact load_same (refsO_at h hx)
  | slice t x lo hi mx =>
    simp only [rfoot] at h
    cases mx with
    | some m => simp only [aval]
    | none =>
      simp only [aval]
      cases hx : evalT tm x with
      | none => rfl
      | some v =>
        have hs : ∀ es l hh, asliceV S es v l hh = asliceV S' es v l hh := fun es l hh => asliceV_same (refsO_at h hx)
        cases kindOf c t <;> first | rfl | (simp only [Option.bind_some, hs]; done) | (cases v <;> rfl)
  | indexAddr t x i =>
    simp only [rfoot] at h
    simp only [aval]
    cases hx : evalT tm x with
    | none => rfl
    | some v =>
      have hs : ∀ i, aindexAddr c S t v i = aindexAddr c S' t v i := fun i => aindexAddr_same (refsO_at h hx)
      simp only [Option.bind_some, hs]
  | lookup t x i ok =>
    simp only [rfoot] at h
    simp only [aval]
    cases hx : evalT tm x with
    | none => rfl
    | some v =>
      have hs : ∀ k, alookup c S t v k ok = alookup c S' t v k ok := fun k => alookup_same (refsO_at h hx)
      simp only [Option.bind_some, hs]
  | makeFunc f first cap => cases f <;> simp only [aval]
  | _ => simp only [aval]

end Go.Am

/- THE ABSTRACT MACHINE, TWENTY-FOURTH FILE: operations that turn memory, and what they turn. -/
set_option linter.unusedSimpArgs false
set_option linter.unusedVariables false
namespace Go.Am
open Go.RowKit
variable [Pin] {P : Program} {c : Cfg}

def Ft.has : Ft → Nat → Prop
  | .all, _ => True
  | .ids l, o => o ∈ l
  | .but l, o => o ∉ l

omit [Pin] in
theorem St.ext_get {S C : St} (hS : S.h.length = S.n) (hC : C.h.length = C.n) (hn : C.n = S.n) (hb : C.base = S.base) (h : ∀ o, C.get o = S.get o) : C = S := by
  obtain ⟨h1, n1, b1⟩ := S
  obtain ⟨h2, n2, b2⟩ := C
  simp only at hS hC hn hb
  subst hn hb
  congr 1
  apply List.ext_getElem?
  intro k
  by_cases hk : k < n2
  · have := h (n2 - 1 - k)
    simp only [St.get] at this
    rw [if_pos (by omega), if_pos (by omega), show n2 - 1 - (n2 - 1 - k) = k by omega] at this
    exact this
  · rw [List.getElem?_eq_none (by omega), List.getElem?_eq_none (by omega)]

/-- What has been done to S has been done to C. -/
structure Alike (ft : Foot) (S S1 C C1 : St) : Prop where
  len : C1.h.length = C1.n
  lenS : S1.h.length = S1.n
  base : C1.base = C.base
  baseS : S1.base = S.base
  on : ∀ o, ft.T.has o → C1.get o = S1.get o
  off : ∀ o, ¬ ft.T.has o → C1.get o = C.get o ∧ S1.get o = S.get o
  num : ft.N = true → C1.n = S1.n
  nonum : ft.N = false → C1.n = C.n ∧ S1.n = S.n

omit [Pin] in
theorem Alike.same {ft : Foot} {S C : St} (hS : S.h.length = S.n) (hC : C.h.length = C.n) (hT : ∀ o, ft.T.has o → C.get o = S.get o) (hN : ft.N = true → C.n = S.n) : Alike ft S S C C :=
  ⟨hC, hS, rfl, rfl, hT, fun _ _ => ⟨rfl, rfl⟩, hN, fun _ => ⟨rfl, rfl⟩⟩

omit [Pin] in
theorem alike_set {S C : St} {o : Nat} {a a0 : AObj} (hS : S.h.length = S.n) (hC : C.h.length = C.n) (hs : S.get o = some a0) (hc : C.get o = some a0) (F : Ft) : Alike ⟨F, .ids [o], false⟩ S (S.set o a) C (C.set o a) := by
  have h1 := St.get_lt hs
  have h2 := St.get_lt hc
  refine ⟨by simp [St.set, hC], by simp [St.set, hS], rfl, rfl, fun o' ho => ?_, fun o' ho => ?_, fun h => by simp at h, fun _ => ⟨rfl, rfl⟩⟩
  · have ho : o' ∈ [o] := ho
    simp at ho
    subst ho
    rw [St.get_set_same hC a h2, St.get_set_same hS a h1]
  · have ho : ¬ o' ∈ [o] := ho
    simp at ho
    exact ⟨St.get_set_other a h2 ho, St.get_set_other a h1 ho⟩

omit [Pin] in
theorem alike_push {S C : St} {a : AObj} (hS : S.h.length = S.n) (hC : C.h.length = C.n) (hn : C.n = S.n) (F : Ft) : Alike ⟨F, .ids [S.n], true⟩ S (S.push a) C (C.push a) := by
  have key : ∀ (X : St) (o' : Nat), X.h.length = X.n → o' ≠ X.n → (X.push a).get o' = X.get o' := fun X o' hX ho => by
    rcases Nat.lt_or_ge o' X.n with h | h
    · exact St.get_push_old a h
    · have h0 : X.get o' = none := by
        unfold St.get
        rw [if_neg (by omega)]
      rw [h0]
      cases hg : (X.push a).get o' with
      | none => rfl
      | some q => rcases St.get_push hg with h' | h' <;> omega
  refine ⟨by simp [St.push, hC], by simp [St.push, hS], rfl, rfl, fun o' ho => ?_, fun o' ho => ?_, fun _ => by simp [St.push, hn], fun h => by simp at h⟩
  · have ho : o' ∈ [S.n] := ho
    simp at ho
    subst ho
    have h1 := St.get_push_new C a
    rw [hn] at h1
    rw [h1, St.get_push_new S a]
  · have ho : ¬ o' ∈ [S.n] := ho
    simp at ho
    exact ⟨key C o' hC (by rw [hn]; exact ho), key S o' hS ho⟩

omit [Pin] in
theorem frz1_nil {S : St} {x y : AV} {l : List (Nat × Nat)} (h : frz1 St.nil x = some (y, l)) : l = [] ∧ frz1 S x = some (y, []) := by
  cases x <;> simp only [frz1] at h ⊢ <;> first
    | (simp only [Option.map_eq_some_iff, Prod.mk.injEq] at h
       obtain ⟨v, hv, hy, hl⟩ := h
       subst hy
       subst hl
       exact ⟨rfl, by rw [hv]; rfl⟩)
    | (simp [St.rows, St.get, St.nil] at h)

omit [Pin] in
theorem frzL_nil {S : St} : ∀ {xs ys : List AV} {l : List (Nat × Nat)}, frzL St.nil xs = some (ys, l) → l = [] ∧ frzL S xs = some (ys, [])
  | [], ys, l, h => by
    simp only [frzL, Option.some.injEq, Prod.mk.injEq] at h
    obtain ⟨rfl, rfl⟩ := h
    exact ⟨rfl, rfl⟩
  | x :: xs, ys, l, h => by
    simp only [frzL, Option.bind_eq_some_iff, Option.map_eq_some_iff, Prod.mk.injEq] at h
    obtain ⟨⟨a, la⟩, ha, ⟨b, lb⟩, hb, rfl, rfl⟩ := h
    obtain ⟨rfl, h1⟩ := frz1_nil (S := S) ha
    obtain ⟨rfl, h2⟩ := frzL_nil (S := S) hb
    exact ⟨rfl, by simp only [frzL, h1, h2, Option.bind_some, Option.map_some, List.append_nil]⟩

omit [Pin] in
theorem frzA_nil {S : St} {x y : AV} {l : List (Nat × Nat)} (h : frzA St.nil x = some (y, l)) : l = [] ∧ frzA S x = some (y, []) := by
  unfold frzA at h ⊢
  split at h
  · simp only [Option.map_eq_some_iff, Prod.mk.injEq] at h
    obtain ⟨⟨a, la⟩, ha, rfl, rfl⟩ := h
    obtain ⟨rfl, h1⟩ := frzL_nil (S := S) ha
    exact ⟨rfl, by simp only [h1, Option.map_some]⟩
  · obtain ⟨rfl, h1⟩ := frz1_nil (S := S) h
    exact ⟨rfl, h1⟩

omit [Pin] in
theorem frzLA_nil {S : St} : ∀ {xs ys : List AV} {l : List (Nat × Nat)}, frzLA St.nil xs = some (ys, l) → l = [] ∧ frzLA S xs = some (ys, [])
  | [], ys, l, h => by
    simp only [frzLA, Option.some.injEq, Prod.mk.injEq] at h
    obtain ⟨rfl, rfl⟩ := h
    exact ⟨rfl, rfl⟩
  | x :: xs, ys, l, h => by
    simp only [frzLA, Option.bind_eq_some_iff, Option.map_eq_some_iff, Prod.mk.injEq] at h
    obtain ⟨⟨a, la⟩, ha, ⟨b, lb⟩, hb, rfl, rfl⟩ := h
    obtain ⟨rfl, h1⟩ := frzA_nil (S := S) ha
    obtain ⟨rfl, h2⟩ := frzLA_nil (S := S) hb
    exact ⟨rfl, by simp only [frzLA, h1, h2, Option.bind_some, Option.map_some, List.append_nil]⟩

omit [Pin] in
/-- A calm call is a call that leaves memory as it is. -/
theorem calm_call {R : Rec} {tm : List AV} {o : Oper} {v : AV} (h : calm c R tm o = some v) (S : St) : ∃ f args at_, o.op = .call ⟨.value (.func f), args, at_⟩ ∧ ∃ as, evalL tm args.toList = some as ∧ callF c R f as S = some (v, S) := by
  unfold calm at h
  split at h
  · rename_i f args at_ ho
    refine ⟨f, args, at_, ho, ?_⟩
    split at h
    · rename_i F hF
      simp only [Option.bind_eq_some_iff] at h
      obtain ⟨as, ha, h⟩ := h
      exact ⟨as, ha, by simp only [callF, hF, XT.run, h, Option.map_some]⟩
    · simp at h
    · rename_i hF
      split at h
      · rename_i hm
        simp only [Option.bind_eq_some_iff] at h
        obtain ⟨as, ha, ⟨q, lq⟩, hq, h⟩ := h
        split at h
        · simp only [Option.bind_eq_some_iff, Option.map_eq_some_iff] at h
          obtain ⟨r, hr, ⟨y, ly⟩, hy, rfl⟩ := h
          obtain ⟨_, hS⟩ := frzLA_nil (S := S) hq
          refine ⟨as, ha, ?_⟩
          simp only [callF, callM, hF, hm, hS, Option.bind_some, hr, hy, St.lockAll, Option.map_some]
        · simp at h
      · simp at h
  · simp at h

theorem calm_ok (hc : CfgOk P c) {R : Rec} (hR : RecOk P R) {tm : List AV} {o : Oper} {v : AV} (h : calm c R tm o = some v) (S : St) : OpOk P tm o S v S := by
  obtain ⟨f, args, at_, ho, as, ha, hf⟩ := calm_call h S
  refine call_ok hc hR (g := .fn f [] []) ho rfl rfl ha ?_
  simp only [callV, List.nil_append, List.append_nil]
  exact hf

end Go.Am

/- THE ABSTRACT MACHINE, TWENTY-FIFTH FILE: operations that turn memory do the same in every memory that is the same where they look. -/
set_option linter.unusedSimpArgs false
set_option linter.unusedVariables false
namespace Go.Am
open Go.RowKit
variable [Pin] {P : Program} {c : Cfg}

/-- C is S as far as a footprint goes. -/
structure Near (ft : Foot) (S C : St) : Prop where
  lenS : S.h.length = S.n
  len : C.h.length = C.n
  base : C.base = S.base
  F : ∀ o, ft.F.has o → C.get o = S.get o
  T : ∀ o, ft.T.has o → C.get o = S.get o
  N : ft.N = true → C.n = S.n

omit [Pin] in
theorem Near.big {S C : St} (h : Near .big S C) : C = S := St.ext_get h.lenS h.len (h.N rfl) h.base fun o => h.F o trivial

def Does (c : Cfg) (R : Rec) (fid rid : Nat) (tm : List AV) (o : Oper) (S S1 C : St) (v : AV) : Prop :=
  ∃ C1, aeff c R fid rid tm o C = some (v, C1) ∧ wfoot c tm o C = wfoot c tm o S ∧ Alike (wfoot c tm o S) S S1 C C1

omit [Pin] in
theorem does_refl {R : Rec} {fid rid : Nat} {tm : List AV} {o : Oper} {S S1 C : St} {v : AV} (h : aeff c R fid rid tm o S = some (v, S1)) (hw : wfoot c tm o S = .big) (hn : Near (wfoot c tm o S) S C) (hl : S1.h.length = S1.n) (hb : S1.base = S.base) : Does c R fid rid tm o S S1 C v := by
  rw [hw] at hn
  obtain rfl := hn.big
  exact ⟨S1, h, rfl, by rw [hw]; exact ⟨hl, hl, hb, hb, fun _ _ => rfl, fun o ho => absurd trivial ho, fun _ => rfl, fun e => by simp [Foot.big] at e⟩⟩

omit [Pin] in
theorem store_local {S C S1 : St} {i : Ty} {p v : AV} (h : S.store i p v = some S1) (hS : S.h.length = S.n) (hC : C.h.length = C.n) (hb : C.base = S.base) (hat : SameAt C S (refs p)) :
    ∃ C1, C.store i p v = some C1 ∧ Alike ⟨.ids (refs p), .ids (refs p), false⟩ S S1 C C1 := by
  unfold St.store at h ⊢
  split at h
  · rename_i hq
    rw [if_pos hq]
    split at h
    · rename_i o off
      have ho : C.get o = S.get o := hat o (by simp [refs])
      simp only [ho]
      split at h
      · rename_i cs hg
        split at h
        · rename_i hle
          obtain ⟨hbase, rfl⟩ := St.putO_some h
          rw [if_pos hle]
          refine ⟨C.set o (.row (splice cs off v.cells) false), by simp [St.putO, hb, hbase], ?_⟩
          exact alike_set hS hC hg (ho.trans hg) _
        · simp at h
      · simp at h
    · rename_i o g r off
      have ho : C.get o = S.get o := hat o (by simp [refs])
      simp only [ho]
      split at h
      · rename_i g' es rows exp hg
        simp only [Option.bind_eq_some_iff] at h
        obtain ⟨cs, hcs, h⟩ := h
        simp only [hcs, Option.bind_some]
        split at h
        · rename_i hle
          obtain ⟨hbase, rfl⟩ := St.putO_some h
          rw [if_pos hle]
          refine ⟨C.set o (.seq g es (rows.set r (splice cs off v.cells)) exp), by simp [St.putO, hb, hbase], ?_⟩
          exact alike_set hS hC hg (ho.trans hg) _
        · simp at h
      · simp at h
    · simp at h
  · simp at h


omit [Pin] in
theorem fresh_local {es : Nat} {mutb : Bool} {rows : Rows} {S C S1 : St} {v : AV} (h : aappend.fresh es mutb rows S = some (v, S1)) (hS : S.h.length = S.n) (hC : C.h.length = C.n) (hn : C.n = S.n) (F : Ft) :
    ∃ C1, aappend.fresh es mutb rows C = some (v, C1) ∧ Alike ⟨F, .ids [S.n], true⟩ S S1 C C1 := by
  unfold aappend.fresh at h ⊢
  split at h
  · rename_i hm
    simp only [Option.some.injEq, Prod.mk.injEq] at h
    obtain ⟨rfl, rfl⟩ := h
    exact ⟨_, by rw [if_pos hm, hn], alike_push hS hC hn F⟩
  · rename_i hm
    simp only [Option.some.injEq, Prod.mk.injEq] at h
    obtain ⟨rfl, rfl⟩ := h
    exact ⟨_, by rw [if_neg hm, hn], alike_push hS hC hn F⟩

omit [Pin] in
theorem aeff_local {R : Rec} {fid rid : Nat} {tm : List AV} {o : Oper} {S S1 C : St} {v : AV} (h : aeff c R fid rid tm o S = some (v, S1)) (hn : Near (wfoot c tm o S) S C) (hl : S1.h.length = S1.n) (hb : S1.base = S.base) : Does c R fid rid tm o S S1 C v := by
  by_cases hw : wfoot c tm o S = .big
  · exact does_refl h hw hn hl hb
  obtain ⟨dst, op, type, pos, after, guard⟩ := o
  cases op with
  | alloc e =>
    have hC := hn.N rfl
    simp only [aeff, Option.bind_eq_some_iff, Option.map_eq_some_iff, Prod.mk.injEq] at h
    obtain ⟨i, hi, z, hz, rfl, rfl⟩ := h
    exact ⟨C.push (.row z false), by simp only [aeff, hi, hz, Option.bind_some, Option.map_some, hC], by simp only [wfoot, hC], alike_push hn.lenS hn.len hC _⟩
  | box t x =>
    have hC := hn.N rfl
    simp only [aeff, Option.bind_eq_some_iff] at h
    obtain ⟨u, hu, h⟩ := h
    split at h
    · rename_i hlf
      simp only [Option.some.injEq, Prod.mk.injEq] at h
      obtain ⟨rfl, rfl⟩ := h
      exact ⟨C.push (.row u.cells false), by simp only [aeff, hu, Option.bind_some, hC]; rw [if_pos hlf], by simp only [wfoot, hC], alike_push hn.lenS hn.len hC _⟩
    · simp at h
  | store t a x =>
    simp only [aeff, Option.bind_eq_some_iff, Option.map_eq_some_iff, Prod.mk.injEq] at h
    obtain ⟨i, hi, p, hp, u, hu, S2, hS, rfl, rfl⟩ := h
    have hr : refsO tm a = refs p := by simp only [refsO, hp]
    have hat : SameAt C S (refs p) := fun o ho => hn.F o (by simp only [wfoot, hr]; exact ho)
    obtain ⟨C1, h1, h2⟩ := store_local hS hn.lenS hn.len hn.base hat
    exact ⟨C1, by simp only [aeff, hi, hp, hu, h1, Option.bind_some, Option.map_some], rfl, by simp only [wfoot, hr]; exact h2⟩
  | makeSlice t l cp =>
    have hC := hn.N rfl
    simp only [aeff] at h
    split at h
    · rename_i e hk
      simp only [Option.bind_eq_some_iff] at h
      obtain ⟨ei, he, z, hz, lv, hlv, cv, hcv, h⟩ := h
      split at h
      · rename_i k n k' m
        split at h
        · rename_i hq
          simp only [Option.some.injEq, Prod.mk.injEq] at h
          obtain ⟨rfl, rfl⟩ := h
          exact ⟨C.push (.seq 0 ei.size (List.replicate n.toNat z) 0), by simp only [aeff, hk, he, hz, hlv, hcv, Option.bind_some, hC]; rw [if_pos hq], by simp only [wfoot, hC], alike_push hn.lenS hn.len hC _⟩
        · simp at h
      · simp at h
    · simp at h
  | slice t x lo hi mx =>
    cases mx with
    | some m => simp [aeff] at h
    | none =>
      simp only [aeff] at h
      split at h
      · rename_i n e hk
        simp only [Option.bind_eq_some_iff] at h
        obtain ⟨ei, he, u, hu, l, hlo, hh, hhi, h⟩ := h
        split at h
        · rename_i ob off
          have ho : C.get ob = S.get ob := hn.F ob (by simp [wfoot, refsO, hu, refs, Ft.has])
          split at h
          · rename_i cs lk hget
            simp only [Option.bind_eq_some_iff] at h
            obtain ⟨h', hb1, l', hb2, h⟩ := h
            split at h
            · rename_i hle
              simp only [Option.map_eq_some_iff, Prod.mk.injEq] at h
              obtain ⟨S2, hp, rfl, rfl⟩ := h
              obtain ⟨hbase, rfl⟩ := St.putO_some hp
              refine ⟨C.set ob (.row cs true), ?_, rfl, ?_⟩
              · simp only [aeff, hk, he, hu, hlo, hhi, Option.bind_some, ho, hget, hb1, hb2]
                rw [if_pos hle]
                simp only [St.putO, hn.base, if_pos hbase, Option.map_some]
              · simp only [wfoot, refsO, hu, refs]
                exact alike_set hn.lenS hn.len hget (ho.trans hget) _
            · simp at h
          · simp at h
        · simp at h
      · simp at h
  | call cl =>
    obtain ⟨callee, args, argTypes⟩ := cl
    cases callee with
    | value f =>
      cases f with
      | func f =>
        cases he : c.ext f with
        | none => exact absurd (by simp only [wfoot, he]) hw
        | some X =>
          cases X with
          | val F => exact absurd (by simp only [wfoot, he]) hw
          | push F =>
            cases ha : evalL tm args.toList with
            | none => exact absurd (by simp [wfoot, he, ha]) hw
            | some a =>
              cases hF : F a S.n with
              | none => exact absurd (by simp [wfoot, he, ha, hF]) hw
              | some q =>
                have hft : ∀ D : St, D.n = S.n → wfoot c tm ⟨dst, .call ⟨.value (.func f), args, argTypes⟩, type, pos, after, guard⟩ D = ⟨.ids [S.n], .ids [S.n], true⟩ := fun D hD => by
                  simp [wfoot, he, ha, hD, hF]
                have hC : C.n = S.n := hn.N (by rw [hft S rfl])
                have hev : ∀ D : St, D.n = S.n → aeff c R fid rid tm ⟨dst, .call ⟨.value (.func f), args, argTypes⟩, type, pos, after, guard⟩ D = some (q.1, D.push q.2) := fun D hD => by
                  simp [aeff, evalT, ha, callV, callF, he, XT.run, hD, hF]
                rw [hev S rfl] at h
                simp only [Option.some.injEq, Prod.mk.injEq] at h
                obtain ⟨rfl, rfl⟩ := h
                exact ⟨_, hev C hC, by rw [hft C hC, hft S rfl], by rw [hft S rfl]; exact alike_push hn.lenS hn.len hC _⟩
      | _ => exact absurd rfl hw
    | builtin b =>
      cases b with
      | append =>
        simp only [aeff] at h
        split at h
        · rename_i x y t u h1 h2
          split at h
          · simp at h
          · simp at h
          · rename_i e hk hn1 hn2
            simp only [Option.bind_eq_some_iff] at h
            obtain ⟨ei, he, xa, hxa, ya, hya, ys, hys, h⟩ := h
            split at h
            · rename_i hq
              have hry : refsO tm y = refs ya := by simp only [refsO, hya]
              -- what is put together from the parts
              have put : ∀ (F : List Nat) (T : List Nat) (N : Bool), (∀ D : St, D.n = S.n ∨ N = false → wfoot c tm ⟨dst, .call ⟨.builtin .append, args, argTypes⟩, type, pos, after, guard⟩ D = ⟨.ids F, .ids T, N⟩) → (∀ o, o ∈ refs ya → o ∈ F) →
                  (∃ C1, aappend ei.size ei.bytes (c.muts fid rid) xa ys C = some (v, C1) ∧ Alike ⟨.ids F, .ids T, N⟩ S S1 C C1) → Does c R fid rid tm ⟨dst, .call ⟨.builtin .append, args, argTypes⟩, type, pos, after, guard⟩ S S1 C v := fun F T N hft hF ⟨C1, q1, q2⟩ => by
                have hfS := hft S (.inl rfl)
                rw [hfS] at hn
                have hrow : appRows C ya = some ys := by
                  rw [← hys]
                  unfold appRows
                  split
                  · rfl
                  · exact rowsOf_same fun o ho => hn.F o (hF o ho)
                refine ⟨C1, ?_, ?_, by rw [hfS]; exact q2⟩
                · simp only [aeff, h1, h2, hk, he, hxa, hya, hrow, Option.bind_some]
                  rw [if_pos hq]
                  exact q1
                · rw [hfS]
                  refine hft C ?_
                  cases hN : N with
                  | false => exact .inr rfl
                  | true => exact .inl (hn.N hN)
              have hw' : ∀ (D : St), wfoot c tm ⟨dst, .call ⟨.builtin .append, args, argTypes⟩, type, pos, after, guard⟩ D = (match xa with
                  | .own _ o _ => ⟨.ids (o :: refsO tm y), .ids [o], false⟩
                  | .sref o _ _ _ => ⟨.ids (o :: refsO tm y), .ids [o], false⟩
                  | .nils => ⟨.ids (D.n :: refsO tm y), .ids [D.n], true⟩
                  | .lit _ => ⟨.ids (D.n :: refsO tm y), .ids [D.n], true⟩
                  | _ => .big) := fun D => by
                simp only [wfoot, h1, hxa]
                cases xa <;> rfl
              cases xa with
              | own rows o g =>
                have hft := hw' S
                simp only at hft
                refine put (o :: refsO tm y) [o] false (fun D _ => hw' D) (fun o' ho => by rw [hry]; exact List.mem_cons_of_mem _ ho) ?_
                rw [hft] at hn
                have ho : C.get o = S.get o := hn.F o (List.mem_cons_self ..)
                unfold aappend at h ⊢
                split at h
                · simp at h
                · rename_i hh
                  rw [if_neg hh]
                  split at h
                  · simp only [Option.some.injEq, Prod.mk.injEq] at h
                    obtain ⟨rfl, rfl⟩ := h
                    exact ⟨C, rfl, Alike.same hn.lenS hn.len hn.T hn.N⟩
                  · simp only at h ⊢
                    split at h
                    · rename_i g' hget
                      split at h
                      · rename_i hq2
                        simp only [Option.some.injEq, Prod.mk.injEq] at h
                        obtain ⟨rfl, rfl⟩ := h
                        refine ⟨C.set o (.tail (g + 1)), ?_, alike_set hn.lenS hn.len hget (ho.trans hget) _⟩
                        simp only [ho, hget, hn.base]
                        rw [if_pos hq2]
                      · simp at h
                    · simp at h
              | sref o g off len =>
                have hft := hw' S
                simp only at hft
                refine put (o :: refsO tm y) [o] false (fun D _ => hw' D) (fun o' ho => by rw [hry]; exact List.mem_cons_of_mem _ ho) ?_
                rw [hft] at hn
                have ho : C.get o = S.get o := hn.F o (List.mem_cons_self ..)
                unfold aappend at h ⊢
                split at h
                · simp at h
                · rename_i hh
                  rw [if_neg hh]
                  split at h
                  · simp only [Option.some.injEq, Prod.mk.injEq] at h
                    obtain ⟨rfl, rfl⟩ := h
                    exact ⟨C, rfl, Alike.same hn.lenS hn.len hn.T hn.N⟩
                  · simp only at h ⊢
                    split at h
                    · rename_i g' es' rows exp hget
                      split at h
                      · rename_i hq2
                        simp only [Option.some.injEq, Prod.mk.injEq] at h
                        obtain ⟨rfl, rfl⟩ := h
                        refine ⟨C.set o (.seq (g + 1) ei.size (rows.drop off ++ ys) (exp - off)), ?_, alike_set hn.lenS hn.len hget (ho.trans hget) _⟩
                        simp only [ho, hget, hn.base]
                        rw [if_pos hq2]
                      · simp at h
                    · simp at h
              | nils =>
                have hft := hw' S
                simp only at hft
                refine put (S.n :: refsO tm y) [S.n] true (fun D hD => by rw [hw' D]; simp only [Bool.true_eq_false, or_false] at hD; simp only [hD]) (fun o' ho => by rw [hry]; exact List.mem_cons_of_mem _ ho) ?_
                rw [hft] at hn
                have hC := hn.N rfl
                unfold aappend at h ⊢
                split at h
                · simp at h
                · rename_i hh
                  rw [if_neg hh]
                  split at h
                  · simp only [Option.some.injEq, Prod.mk.injEq] at h
                    obtain ⟨rfl, rfl⟩ := h
                    exact ⟨C, rfl, Alike.same hn.lenS hn.len hn.T hn.N⟩
                  · simp only at h ⊢
                    split at h
                    · rename_i hq2
                      rw [if_pos hq2]
                      exact fresh_local h hn.lenS hn.len hC _
                    · simp at h
              | lit rows =>
                have hft := hw' S
                simp only at hft
                refine put (S.n :: refsO tm y) [S.n] true (fun D hD => by rw [hw' D]; simp only [Bool.true_eq_false, or_false] at hD; simp only [hD]) (fun o' ho => by rw [hry]; exact List.mem_cons_of_mem _ ho) ?_
                rw [hft] at hn
                have hC := hn.N rfl
                unfold aappend at h ⊢
                split at h
                · simp at h
                · rename_i hh
                  rw [if_neg hh]
                  split at h
                  · simp only [Option.some.injEq, Prod.mk.injEq] at h
                    obtain ⟨rfl, rfl⟩ := h
                    exact ⟨C, rfl, Alike.same hn.lenS hn.len hn.T hn.N⟩
                  · simp only at h ⊢
                    split at h
                    · rename_i hq2
                      rw [if_pos hq2]
                      exact fresh_local h hn.lenS hn.len hC _
                    · simp at h
              | _ => exact absurd (hw' S) hw
            · simp at h
          · simp at h
        · simp at h
      | delete => exact absurd rfl hw
      | _ => simp [aeff] at h
    | invoke r m => simp [aeff] at h
  | makeMap t r => exact absurd rfl hw
  | mapUpdate t m k x => exact absurd rfl hw
  | mapEntry t m k => exact absurd rfl hw
  | entryStore t m s x => exact absurd rfl hw
  | _ => simp [aeff] at h

end Go.Am

/- THE ABSTRACT MACHINE, TWENTY-SIXTH FILE: the list of objects is as long as is said. -/
set_option linter.unusedSimpArgs false
set_option linter.unusedVariables false
namespace Go.Am
variable {c : Cfg}

def Keeps (S S' : St) : Prop := S.h.length = S.n → S'.h.length = S'.n ∧ S'.base = S.base

theorem Keeps.refl (S : St) : Keeps S S := fun h => ⟨h, rfl⟩
theorem Keeps.trans {A B C : St} (h : Keeps A B) (k : Keeps B C) : Keeps A C := fun x => ⟨(k (h x).1).1, (k (h x).1).2.trans (h x).2⟩
theorem Keeps.set (S : St) (o : Nat) (a : AObj) : Keeps S (S.set o a) := fun h => ⟨by simp [St.set, h], rfl⟩
theorem Keeps.push (S : St) (a : AObj) : Keeps S (S.push a) := fun h => ⟨by simp [St.push, h], rfl⟩
theorem Keeps.putO {S S' : St} {o : Nat} {a : AObj} (h : S.putO o a = some S') : Keeps S S' := by
  obtain ⟨_, rfl⟩ := St.putO_some h
  exact .set _ _ _

theorem Keeps.lockAll : ∀ {l : List (Nat × Nat)} {S S' : St}, S.lockAll l = some S' → Keeps S S'
  | [], S, S', h => by simp [St.lockAll] at h; subst h; exact .refl _
  | (o, k) :: l, S, S', h => by
    rw [St.lockAll] at h
    split at h
    · simp only [Option.bind_eq_some_iff] at h
      obtain ⟨S1, h1, h2⟩ := h
      exact (Keeps.putO h1).trans (Keeps.lockAll h2)
    · simp at h

theorem Keeps.store {S S' : St} {i : Ty} {p v : AV} (h : S.store i p v = some S') : Keeps S S' := by
  unfold St.store at h
  split at h
  · split at h
    · split at h
      · split at h
        · exact .putO h
        · simp at h
      · simp at h
    · split at h
      · simp only [Option.bind_eq_some_iff] at h
        obtain ⟨cs, _, h⟩ := h
        split at h
        · exact .putO h
        · simp at h
      · simp at h
    · simp at h
  · simp at h

theorem Keeps.append {S S' : St} {es bytes : Nat} {mutb : Bool} {x r : AV} {ys : Rows} (h : aappend es bytes mutb x ys S = some (r, S')) : Keeps S S' := by
  have fresh : ∀ {rows : Rows}, aappend.fresh es mutb rows S = some (r, S') → Keeps S S' := fun h => by
    unfold aappend.fresh at h
    split at h
    all_goals
      simp only [Option.some.injEq, Prod.mk.injEq] at h
      obtain ⟨_, rfl⟩ := h
      exact .push _ _
  unfold aappend at h
  split at h
  · simp at h
  · split at h
    · cases x <;> simp only [Option.some.injEq, Prod.mk.injEq, reduceCtorEq] at h <;> (obtain ⟨_, rfl⟩ := h; exact .refl _)
    · split at h
      · split at h
        · exact fresh h
        · simp at h
      · split at h
        · exact fresh h
        · simp at h
      · split at h
        · split at h
          · simp only [Option.some.injEq, Prod.mk.injEq] at h
            obtain ⟨_, rfl⟩ := h
            exact .set _ _ _
          · simp at h
        · simp at h
      · split at h
        · split at h
          · simp only [Option.some.injEq, Prod.mk.injEq] at h
            obtain ⟨_, rfl⟩ := h
            exact .set _ _ _
          · simp at h
        · simp at h
      · simp at h

structure RecLen (R : Rec) : Prop where
  code : ∀ code fr S ex fr' S', R.code code fr S = some (ex, fr', S') → Keeps S S'
  call : ∀ f args S r S', R.call f args S = some (r, S') → Keeps S S'

theorem Keeps.callM {R : Rec} (hR : RecLen R) {f : FuncId} {args : List AV} {S S' : St} {r : AV} (h : callM c R f args S = some (r, S')) : Keeps S S' := by
  unfold Am.callM at h
  split at h
  · exact hR.call _ _ _ _ _ h
  · simp only [Option.bind_eq_some_iff, Option.map_eq_some_iff, Prod.mk.injEq] at h
    obtain ⟨_, _, _, _, _, _, S1, hS1, _, rfl⟩ := h
    exact .lockAll hS1
  · simp only [Option.bind_eq_some_iff, Option.map_eq_some_iff, Prod.mk.injEq] at h
    obtain ⟨_, _, _, _, S1, hS1, _, rfl⟩ := h
    exact .lockAll hS1

theorem Keeps.callF {R : Rec} (hR : RecLen R) {f : FuncId} {args : List AV} {S S' : St} {r : AV} (h : callF c R f args S = some (r, S')) : Keeps S S' := by
  unfold Am.callF at h
  split at h
  · simp only [XT.run, Option.map_eq_some_iff, Prod.mk.injEq] at h
    obtain ⟨_, _, _, rfl⟩ := h; exact .refl _
  · split at h
    · rename_i q hq
      simp only [Option.some.injEq] at h
      subst h
      simp only [XT.run, Option.map_eq_some_iff, Prod.mk.injEq] at hq
      obtain ⟨_, _, _, rfl⟩ := hq; exact .push _ _
    · exact .callM hR h
  · exact .callM hR h

theorem Keeps.yieldS {R : Rec} (hR : RecLen R) {l : Nat} {args : List AV} {S S' : St} {v : AV} (h : yieldS R l args S = some (v, S')) : Keeps S S' := by
  unfold Am.yieldS at h
  split at h
  case h_2 => simp at h
  split at h
  case isFalse => simp at h
  simp only [Option.bind_eq_some_iff] at h
  obtain ⟨⟨ex1, fr1, S1⟩, h1, h⟩ := h
  split at h
  case isFalse => simp at h
  split at h
  case h_2 => simp at h
  simp only [Option.bind_eq_some_iff] at h
  obtain ⟨Sb, hp, ⟨ex2, fr2, S2⟩, h2, h⟩ := h
  split at h
  case h_2 => simp at h
  simp only [Option.map_eq_some_iff, Prod.mk.injEq] at h
  obtain ⟨Se, hp2, _, rfl⟩ := h
  exact (((hR.code _ _ _ _ _ _ h1).trans (.putO hp)).trans (hR.code _ _ _ _ _ _ h2)).trans (.putO hp2)

theorem Keeps.callV {R : Rec} (hR : RecLen R) {g : AV} {args : List AV} {S S' : St} {v : AV} (h : callV c R g args S = some (v, S')) : Keeps S S' := by
  unfold Am.callV at h
  split at h
  · exact .callF hR h
  · exact .yieldS hR h
  · simp at h

theorem Keeps.adelete {S S' : St} {t : TypeId} {m k : AV} (h : adelete c S t m k = some S') : Keeps S S' := by
  unfold Am.adelete at h
  split at h
  · split at h
    · split at h
      · simp only [Option.bind_eq_some_iff] at h
        obtain ⟨r, hr, h⟩ := h
        split at h
        · exact .putO h
        · simp at h
      · simp at h
    · simp at h
  · simp at h
theorem Keeps.amapUpdate {S S' : St} {t : TypeId} {m k x : AV} (h : amapUpdate c S t m k x = some S') : Keeps S S' := by
  unfold Am.amapUpdate at h
  split at h
  · split at h
    · split at h
      · simp only [Option.bind_eq_some_iff] at h
        obtain ⟨r, hr, h⟩ := h
        split at h
        · simp at h
        · exact .putO h
      · simp at h
    · simp at h
  · simp at h
theorem Keeps.amapEntry {S S' : St} {t : TypeId} {m k v : AV} (h : amapEntry c S t m k = some (v, S')) : Keeps S S' := by
  unfold Am.amapEntry at h
  split at h
  · split at h
    · split at h
      · simp only [Option.bind_eq_some_iff] at h
        obtain ⟨r, hr, h⟩ := h
        split at h
        · simp at h
        · simp only [Option.bind_eq_some_iff, Option.map_eq_some_iff, Prod.mk.injEq] at h
          obtain ⟨z, hz, S1, hp, _, rfl⟩ := h
          exact .putO hp
      · simp at h
    · simp at h
  · simp at h
theorem Keeps.aentryStore {S S' : St} {m s x : AV} (h : aentryStore S m s x = some S') : Keeps S S' := by
  unfold Am.aentryStore at h
  split at h
  · split at h
    · split at h
      · simp only [Option.bind_eq_some_iff] at h
        obtain ⟨r, hr, h⟩ := h
        exact .putO h
      · simp at h
    · simp at h
  · simp at h
theorem Keeps.aeff {R : Rec} (hR : RecLen R) {fid rid : Nat} {tm : List AV} {o : Oper} {S S' : St} {v : AV} (h : aeff c R fid rid tm o S = some (v, S')) : Keeps S S' := by
  unfold Am.aeff at h
  split at h
  · simp only [Option.bind_eq_some_iff, Option.map_eq_some_iff, Prod.mk.injEq] at h
    obtain ⟨_, _, _, _, _, rfl⟩ := h
    exact .push _ _
  · simp only [Option.bind_eq_some_iff] at h
    obtain ⟨x, hx, h⟩ := h
    split at h
    · simp only [Option.some.injEq, Prod.mk.injEq] at h
      obtain ⟨_, rfl⟩ := h
      exact .push _ _
    · simp at h
  · simp only [Option.bind_eq_some_iff, Option.map_eq_some_iff, Prod.mk.injEq] at h
    obtain ⟨i, hi, p, hp, x, hx, S1, hS, _, rfl⟩ := h
    exact .store hS
  · split at h
    · simp only [Option.bind_eq_some_iff] at h
      obtain ⟨ei, he, z, hz, lv, hl, cv, hcv, h⟩ := h
      split at h
      · split at h
        · simp only [Option.some.injEq, Prod.mk.injEq] at h
          obtain ⟨_, rfl⟩ := h
          exact .push _ _
        · simp at h
      · simp at h
    · simp at h
  · split at h
    · simp only [Option.bind_eq_some_iff] at h
      obtain ⟨ei, he, x, hx, l, hl, hh, hhh, h⟩ := h
      split at h
      · split at h
        · simp only [Option.bind_eq_some_iff] at h
          obtain ⟨h', hb1, l', hb2, h⟩ := h
          split at h
          · simp only [Option.map_eq_some_iff, Prod.mk.injEq] at h
            obtain ⟨S1, hp, _, rfl⟩ := h
            exact .putO hp
          · simp at h
        · simp at h
      · simp at h
    · simp at h
  · split at h
    · split at h
      · simp at h
      · simp at h
      · simp only [Option.bind_eq_some_iff] at h
        obtain ⟨ei, he, xa, hxa, ya, hya, ys, hys, h⟩ := h
        split at h
        · exact .append h
        · simp at h
      · simp at h
    · simp at h
  · split at h
    · simp only [Option.bind_eq_some_iff, Option.map_eq_some_iff, Prod.mk.injEq] at h
      obtain ⟨a, ha, b, hb, S1, hd, _, rfl⟩ := h
      exact .adelete hd
    · simp at h
  · simp only [Option.bind_eq_some_iff] at h
    obtain ⟨g, hg, as, ha, h⟩ := h
    exact .callV hR h
  · split at h
    · simp only [Option.some.injEq, Prod.mk.injEq] at h
      obtain ⟨_, rfl⟩ := h
      exact .push _ _
    · simp at h
  · simp only [Option.bind_eq_some_iff, Option.map_eq_some_iff, Prod.mk.injEq] at h
    obtain ⟨m, hm, k, hk, x, hx, S1, hu, _, rfl⟩ := h
    exact .amapUpdate hu
  · simp only [Option.bind_eq_some_iff] at h
    obtain ⟨m, hm, k, hk, hu⟩ := h
    exact .amapEntry hu
  · simp only [Option.bind_eq_some_iff, Option.map_eq_some_iff, Prod.mk.injEq] at h
    obtain ⟨m, hm, k, hk, x, hx, S1, hu, _, rfl⟩ := h
    exact .aentryStore hu
  · simp at h

theorem Keeps.opD {R : Rec} (hR : RecLen R) {fid rid : Nat} {tm : List AV} {o : Oper} {S S' : St} {v : AV} {ft : Foot} (h : opD c R fid rid tm o S = some (v, S', ft)) : Keeps S S' := by
  unfold Am.opD at h
  split at h
  · simp only [Option.some.injEq, Prod.mk.injEq] at h
    obtain ⟨_, rfl, _⟩ := h
    exact .refl _
  · split at h
    · simp only [Option.map_eq_some_iff, Prod.mk.injEq] at h
      obtain ⟨_, _, _, rfl, _⟩ := h
      exact .refl _
    · simp only [Option.map_eq_some_iff, Prod.mk.injEq] at h
      obtain ⟨⟨r, S1⟩, h1, _, rfl, _⟩ := h
      exact .aeff hR h1

theorem Keeps.runOpsD {R : Rec} (hR : RecLen R) {fid rid : Nat} {ops : Array Oper} : ∀ {l : List Oper} {tm tm' : List AV} {S S' : St} {fs : List Foot}, runOpsD c R fid rid ops l tm S = some (tm', S', fs) → Keeps S S'
  | [], tm, tm', S, S', fs, h => by
    simp only [Am.runOpsD, Option.some.injEq, Prod.mk.injEq] at h
    obtain ⟨_, rfl, _⟩ := h
    exact .refl _
  | o :: l, tm, tm', S, S', fs, h => by
    rw [Am.runOpsD] at h
    split at h
    · simp only [Option.bind_eq_some_iff, Option.map_eq_some_iff, Prod.mk.injEq] at h
      obtain ⟨⟨v, S1, ft⟩, h1, ⟨tm2, S2, fs2⟩, h2, _, rfl, _⟩ := h
      exact (Keeps.opD hR h1).trans (Keeps.runOpsD hR h2)
    · simp only [Option.map_eq_some_iff, Prod.mk.injEq] at h
      obtain ⟨⟨tm2, S2, fs2⟩, h2, _, rfl, _⟩ := h
      exact Keeps.runOpsD hR h2

/-! ### Places that are kept ready -/
theorem St.kill_n : ∀ {K : List Nat} {S : St}, (S.kill K).n = S.n
  | [], S => rfl
  | r :: K, S => by rw [St.kill, St.kill_n]; rfl
theorem Keeps.kill : ∀ {K : List Nat} {S : St}, Keeps S (S.kill K)
  | [], S => .refl _
  | r :: K, S => (Keeps.set S r .dead).trans Keeps.kill
theorem St.rest_n {S : St} : ∀ {K : List Nat} {T : St}, (S.rest T K).n = T.n
  | [], T => rfl
  | r :: K, T => by
    rw [St.rest, St.rest_n]
    split <;> rfl
theorem Keeps.rest {S : St} : ∀ {K : List Nat} {T : St}, Keeps T (S.rest T K)
  | [], T => .refl _
  | r :: K, T => by
    rw [St.rest]
    refine Keeps.trans ?_ Keeps.rest
    split
    · exact .set _ _ _
    · exact .refl _
theorem Keeps.pushD : ∀ {k : Nat} {S : St}, Keeps S (S.pushD k)
  | 0, S => .refl _
  | k + 1, S => (Keeps.push S .dead).trans Keeps.pushD

theorem St.get_kill : ∀ {K : List Nat} {S : St} {o : Nat}, S.h.length = S.n → (∀ r ∈ K, r < S.n) → (S.kill K).get o = if o ∈ K then some .dead else S.get o
  | [], S, o, h, hK => by simp [St.kill]
  | r :: K, S, o, h, hK => by
    have hr := hK r (by simp)
    rw [St.kill, St.get_kill (by simp [St.set, h]) (fun x hx => by have := hK x (by simp [hx]); simpa [St.set] using this)]
    by_cases ho : o ∈ K
    · simp [ho]
    · by_cases he : o = r
      · subst he
        simp [ho, St.get_set_same h .dead hr]
      · simp [ho, he, St.get_set_other .dead hr he]
theorem St.get_rest {S : St} : ∀ {K : List Nat} {T : St} {o : Nat}, T.h.length = T.n → (∀ r ∈ K, r < T.n) → (∀ r ∈ K, (S.get r).isSome = true) → (S.rest T K).get o = if o ∈ K then S.get o else T.get o
  | [], T, o, h, hK, hS => by simp [St.rest]
  | r :: K, T, o, h, hK, hS => by
    have hr := hK r (by simp)
    obtain ⟨a, ha⟩ := Option.isSome_iff_exists.1 (hS r (by simp))
    rw [St.rest, ha]
    simp only
    rw [St.get_rest (by simp [St.set, h]) (fun x hx => by have := hK x (by simp [hx]); simpa [St.set] using this) (fun x hx => hS x (by simp [hx]))]
    by_cases ho : o ∈ K
    · simp [ho]
    · by_cases he : o = r
      · subst he
        simp [ho, St.get_set_same h a hr, ha]
      · simp [ho, he, St.get_set_other a hr he]

theorem Keeps.opR {R : Rec} (hR : RecLen R) {fid rid : Nat} {K : List Nat} {r : Option Nat} {tm : List AV} {o : Oper} {S S' : St} {v : AV} {ft : Foot} (h : opR c R fid rid K r tm o S = some (v, S', ft)) : Keeps S S' := by
  unfold Am.opR at h
  split at h
  · split at h
    · simp only [Option.bind_eq_some_iff] at h
      obtain ⟨i, _, z, _, h⟩ := h
      split at h
      · simp only [Option.some.injEq, Prod.mk.injEq] at h
        obtain ⟨_, rfl, _⟩ := h
        exact .set _ _ _
      · simp at h
    · simp at h
  · split at h
    · simp only [Option.bind_eq_some_iff] at h
      obtain ⟨⟨q, S1⟩, h1, h⟩ := h
      split at h
      · simp only [Option.some.injEq, Prod.mk.injEq] at h
        obtain ⟨_, rfl, _⟩ := h
        exact (Keeps.kill.trans (.aeff hR h1)).trans .rest
      · simp at h
    · exact .opD hR h

theorem Keeps.runOpsR {R : Rec} (hR : RecLen R) {fid rid : Nat} {ops : Array Oper} {K : List Nat} {rd : Nat → Option Nat} : ∀ {l : List Oper} {i : Nat} {tm tm' : List AV} {S S' : St} {fs : List Foot}, runOpsR c R fid rid ops K rd l i tm S = some (tm', S', fs) → Keeps S S'
  | [], i, tm, tm', S, S', fs, h => by
    simp only [Am.runOpsR, Option.some.injEq, Prod.mk.injEq] at h
    obtain ⟨_, rfl, _⟩ := h
    exact .refl _
  | o :: l, i, tm, tm', S, S', fs, h => by
    rw [Am.runOpsR] at h
    split at h
    · simp only [Option.bind_eq_some_iff] at h
      obtain ⟨⟨v, S1, ft⟩, h1, h⟩ := h
      split at h
      · simp only [Option.map_eq_some_iff, Prod.mk.injEq] at h
        obtain ⟨⟨tm2, S2, fs2⟩, h2, _, rfl, _⟩ := h
        exact (Keeps.opR hR h1).trans (Keeps.runOpsR hR h2)
      · simp at h
    · simp only [Option.map_eq_some_iff, Prod.mk.injEq] at h
      obtain ⟨⟨tm2, S2, fs2⟩, h2, _, rfl, _⟩ := h
      exact Keeps.runOpsR hR h2

theorem Keeps.runOps {R : Rec} (hR : RecLen R) {fid rid : Nat} {ops : Array Oper} : ∀ {l : List Oper} {tm tm' : List AV} {S S' : St}, runOps c R fid rid ops l tm S = some (tm', S') → Keeps S S'
  | [], tm, tm', S, S', h => by
    simp only [Am.runOps, Option.some.injEq, Prod.mk.injEq] at h
    obtain ⟨_, rfl⟩ := h
    exact .refl _
  | o :: l, tm, tm', S, S', h => by
    rw [Am.runOps] at h
    split at h
    · simp only [Option.bind_eq_some_iff] at h
      obtain ⟨⟨v, S1⟩, h1, h2⟩ := h
      refine Keeps.trans ?_ (Keeps.runOps hR h2)
      unfold aop at h1
      split at h1
      · simp only [Option.some.injEq, Prod.mk.injEq] at h1
        obtain ⟨_, rfl⟩ := h1
        exact .refl _
      · exact .aeff hR h1
    · exact Keeps.runOps hR h

theorem Keeps.aregion {R : Rec} (hR : RecLen R) {fid rid : Nat} {ops : Array Oper} {draw : Bool} {tm tm' : List AV} {S S' : St} (h : aregion c R fid rid ops draw tm S = some (tm', S')) : Keeps S S' := by
  unfold Am.aregion at h
  split at h
  · split at h
    · split at h
      · simp only [Option.bind_eq_some_iff] at h
        obtain ⟨⟨tm2, S2, fs⟩, h1, h⟩ := h
        split at h
        · simp only [Option.some.injEq, Prod.mk.injEq] at h
          obtain ⟨_, rfl⟩ := h
          exact .runOpsD hR h1
        · simp at h
      · simp only [Option.bind_eq_some_iff] at h
        obtain ⟨⟨tm2, S2, fs⟩, h1, h⟩ := h
        split at h
        · simp only [Option.some.injEq, Prod.mk.injEq] at h
          obtain ⟨_, rfl⟩ := h
          exact Keeps.pushD.trans (.runOpsR hR h1)
        · simp at h
    · simp at h
  · exact .runOps hR h

theorem Keeps.execS {R : Rec} (hR : RecLen R) : ∀ (code : Code) (fr : Fr) (S : St) (ex : Ex) (fr' : Fr) (S' : St), execS c R code fr S = some (ex, fr', S') → Keeps S S' := by
  intro code
  induction code with
  | region id ops draw =>
    intro fr S ex fr' S' h
    simp only [Am.execS, Option.map_eq_some_iff, Prod.mk.injEq] at h
    obtain ⟨⟨tm, S1⟩, h, _, _, rfl⟩ := h
    exact .aregion hR h
  | seq x y ihx ihy =>
    intro fr S ex fr' S' h
    simp only [Am.execS, Option.bind_eq_some_iff] at h
    obtain ⟨⟨ex1, fr1, S1⟩, h1, h⟩ := h
    split at h
    · exact (ihx _ _ _ _ _ h1).trans (ihy _ _ _ _ _ h)
    · simp only [Option.some.injEq, Prod.mk.injEq] at h
      obtain ⟨_, _, rfl⟩ := h
      exact ihx _ _ _ _ _ h1
  | cond x y z ihy ihz =>
    intro fr S ex fr' S' h
    rw [Am.execS] at h
    split at h
    · exact ihy _ _ _ _ _ h
    · exact ihz _ _ _ _ _ h
    · simp at h
  | block id b ih =>
    intro fr S ex fr' S' h
    simp only [Am.execS, Option.map_eq_some_iff] at h
    obtain ⟨⟨ex1, fr1, S1⟩, h1, h⟩ := h
    unfold exitBlock at h
    split at h <;> (simp only [Prod.mk.injEq] at h; obtain ⟨_, _, rfl⟩ := h; exact ih _ _ _ _ _ h1)
  | loop b ih =>
    intro fr S ex fr' S' h
    simp only [Am.execS, Option.bind_eq_some_iff] at h
    obtain ⟨⟨ex1, fr1, S1⟩, h1, h⟩ := h
    split at h
    · exact (ih _ _ _ _ _ h1).trans (hR.code _ _ _ _ _ _ h)
    · simp only [Option.some.injEq, Prod.mk.injEq] at h
      obtain ⟨_, _, rfl⟩ := h
      exact ih _ _ _ _ _ h1
  | rangeFunc g ps asg body =>
    intro fr S ex fr' S' h
    rw [Am.execS] at h
    simp only [Option.bind_eq_some_iff] at h
    obtain ⟨⟨d, S1, mk⟩, hstart, h⟩ := h
    have h0 : Keeps S S1 := by
      unfold rangeStart at hstart
      split at hstart
      · simp only [Option.some.injEq, Prod.mk.injEq] at hstart
        obtain ⟨_, rfl, _⟩ := hstart
        exact .push _ _
      · split at hstart
        · simp only [Option.some.injEq, Prod.mk.injEq] at hstart
          obtain ⟨_, rfl, _⟩ := hstart
          exact .refl _
        · simp at hstart
    split at h
    case h_2 => simp at h
    simp only [Option.bind_eq_some_iff] at h
    obtain ⟨⟨rv, S2⟩, hcall, h⟩ := h
    unfold rangeEnd at h
    split at h
    case h_2 => simp at h
    split at h
    · simp at h
    simp only [Option.map_eq_some_iff, Prod.mk.injEq] at h
    obtain ⟨S3, hp, _, _, rfl⟩ := h
    exact ((h0.trans (.push _ _)).trans (hR.call _ _ _ _ _ hcall)).trans (.putO hp)
  | _ =>
    intro fr S ex fr' S' h
    first
      | (simp [Am.execS] at h; done)
      | (simp only [Am.execS, Option.some.injEq, Prod.mk.injEq] at h
         obtain ⟨_, _, rfl⟩ := h
         exact .refl _)

theorem Keeps.unmark : ∀ {ms : List Nat} {S S' : St}, unmark S ms = some S' → Keeps S S'
  | [], S, S', h => by simp [Am.unmark] at h; subst h; exact .refl _
  | m :: ms, S, S', h => by
    rw [Am.unmark] at h
    split at h
    · simp only [Option.bind_eq_some_iff] at h
      obtain ⟨S1, h1, h2⟩ := h
      exact (Keeps.putO h1).trans (Keeps.unmark h2)
    · simp at h

theorem Keeps.callS {R : Rec} (hR : RecLen R) {f : FuncId} {args : List AV} {S S' : St} {r : AV} (h : callS c R f args S = some (r, S')) : Keeps S S' := by
  unfold Am.callS at h
  simp only [Option.bind_eq_some_iff] at h
  obtain ⟨fn, hfn, b, hb, ⟨ex, fr', S1⟩, hrun, h⟩ := h
  split at h
  · simp only [Option.bind_eq_some_iff, Option.map_eq_some_iff, Prod.mk.injEq] at h
    obtain ⟨S2, hS2, l, hl, _, rfl⟩ := h
    exact (hR.code _ _ _ _ _ _ hrun).trans (.unmark hS2)
  · simp at h

theorem run_recLen : ∀ n, RecLen (run c n)
  | 0 => ⟨fun _ _ _ _ _ _ h => by simp [run] at h, fun _ _ _ _ _ h => by simp [run] at h⟩
  | n + 1 => ⟨fun code fr S ex fr' S' h => .execS (run_recLen n) code fr S ex fr' S' h, fun f args S r S' h => .callS (run_recLen n) h⟩

end Go.Am

