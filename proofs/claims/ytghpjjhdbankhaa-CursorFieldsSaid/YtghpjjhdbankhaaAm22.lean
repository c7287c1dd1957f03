/- THE ABSTRACT MACHINE, TWENTY-THIRD FILE: operations depend on their operands, and on the objects of their footprint. -/
import Derived.Test.YtghpjjhdbankhaaAm21
set_option linter.unusedSimpArgs false
set_option linter.unusedVariables false
namespace Go.Am
open Go.RowKit
variable {P : Program} {c : Cfg}

/-! ### Operands -/
def SameOn (tm tm' : List AV) (xs : List Operand) : Prop := ∀ x ∈ xs, evalT tm x = evalT tm' x

theorem sameOn_of {tm tm' : List AV} {xs : List Operand} (h : ∀ t ∈ xs.filterMap tmpOf, tm.getD t .undef = tm'.getD t .undef) : SameOn tm tm' xs := fun x hx => by
  cases x with
  | tmp t =>
    have := h t (List.mem_filterMap.2 ⟨.tmp t, hx, rfl⟩)
    simp only [evalT]
    rw [this]
  | const v => rfl
  | global g => rfl
  | func f => rfl

theorem evalL_same {tm tm' : List AV} : ∀ {xs : List Operand}, SameOn tm tm' xs → evalL tm xs = evalL tm' xs
  | [], h => rfl
  | x :: xs, h => by
    simp only [evalL]
    rw [h x (by simp), evalL_same fun y hy => h y (by simp [hy])]

theorem evalO_same {tm tm' : List AV} {x : Option Operand} (h : SameOn tm tm' x.toList) : evalO tm x = evalO tm' x := by
  cases x with
  | none => rfl
  | some y => simp only [evalO]; rw [h y (by simp)]

theorem evalP_same {tm tm' : List AV} : ∀ {xs : List (Nat × Operand)}, SameOn tm tm' (xs.map (·.2)) → evalP tm xs = evalP tm' xs
  | [], h => rfl
  | (i, x) :: xs, h => by
    simp only [evalP]
    rw [h x (by simp), evalP_same fun y hy => h y (by simp only [List.map_cons, List.mem_cons]; exact .inr hy)]

theorem flatMap_same {α β : Type} {f g : α → List β} : ∀ {l : List α}, (∀ x ∈ l, f x = g x) → l.flatMap f = l.flatMap g
  | [], h => rfl
  | x :: l, h => by
    rw [List.flatMap_cons, List.flatMap_cons, h x (by simp), flatMap_same fun y hy => h y (by simp [hy])]

theorem refsO_same {tm tm' : List AV} {x : Operand} (h : evalT tm x = evalT tm' x) : refsO tm x = refsO tm' x := by
  unfold refsO
  rw [h]

theorem aval_same {tm tm' : List AV} {o : Oper} (S : St) (h : SameOn tm tm' o.op.operands.toList) : aval c tm o S = aval c tm' o S := by
  obtain ⟨dst, op, type, pos, after, guard⟩ := o
  simp only at h
  cases op with
  | call cl =>
    obtain ⟨callee, args, argTypes⟩ := cl
    have ha : SameOn tm tm' args.toList := fun x hx => h x (by simp only [Op.operands, Call.operands, Array.toList_append, List.mem_append]; exact .inr hx)
    cases callee with
    | builtin b =>
      cases b <;> simp only [aval] <;> first
        | rfl
        | rw [evalL_same ha]
        | (split
           · rename_i x t h1 h2
             rw [ha x (by rw [h1]; simp)]
           · rfl)
    | _ => simp only [aval]
  | move x => simp only [aval]; exact h x (by simp [Op.operands])
  | assign x => simp only [aval]; exact h x (by simp [Op.operands])
  | pick x a b =>
    simp only [aval]
    rw [h x (by simp [Op.operands])]
    split
    · rename_i t ht
      cases t
      · exact h b (by simp [Op.operands])
      · exact h a (by simp [Op.operands])
    · rfl
  | build t ps => simp only [aval]; rw [evalP_same (fun x hx => h x (by simpa [Op.operands] using hx))]
  | buildSlice t len ps =>
    have he : evalP tm ps.toList = evalP tm' ps.toList := evalP_same (fun x hx => h x (by simpa [Op.operands] using hx))
    simp only [aval, he]
  | load t a => simp only [aval]; rw [h a (by simp [Op.operands])]
  | nilCheck x => simp only [aval]; rw [h x (by simp [Op.operands])]
  | binOp op t x y yt => simp only [aval]; rw [h x (by simp [Op.operands]), h y (by simp [Op.operands])]
  | unOp op t x => simp only [aval]; rw [h x (by simp [Op.operands])]
  | convert a b x => simp only [aval]; rw [h x (by simp [Op.operands])]
  | makeFunc f first cap =>
    have h1 : evalL tm first.toList = evalL tm' first.toList := evalL_same fun x hx => h x (by simp only [Op.operands, Array.toList_append, List.mem_append]; exact .inl hx)
    have h2 : evalL tm cap.toList = evalL tm' cap.toList := evalL_same fun x hx => h x (by simp only [Op.operands, Array.toList_append, List.mem_append]; exact .inr hx)
    cases f <;> simp only [aval, h1, h2]
  | slice t x lo hi mx =>
    have h1 : evalT tm x = evalT tm' x := h x (by simp [Op.operands])
    have h2 : evalO tm lo = evalO tm' lo := evalO_same fun x hx => h x (by simp only [Op.operands, Array.toList_append, List.mem_append]; exact .inl (.inl (.inr (by simpa using hx))))
    have h3 : evalO tm hi = evalO tm' hi := evalO_same fun x hx => h x (by simp only [Op.operands, Array.toList_append, List.mem_append]; exact .inl (.inr (by simpa using hx)))
    cases mx <;> simp only [aval, h1, h2, h3]
  | fieldAddr s x f => simp only [aval]; rw [h x (by simp [Op.operands])]
  | field s x f => simp only [aval]; rw [h x (by simp [Op.operands])]
  | indexAddr t x i => simp only [aval]; rw [h x (by simp [Op.operands]), h i (by simp [Op.operands])]
  | index t x i => simp only [aval]; rw [h x (by simp [Op.operands]), h i (by simp [Op.operands])]
  | lookup t x i ok => simp only [aval]; rw [h x (by simp [Op.operands]), h i (by simp [Op.operands])]
  | extract x i => simp only [aval]; rw [h x (by simp [Op.operands])]
  | _ => simp only [aval]

theorem calm_same {R : Rec} {tm tm' : List AV} {o : Oper} (h : SameOn tm tm' o.op.operands.toList) : calm c R tm o = calm c R tm' o := by
  obtain ⟨dst, op, type, pos, after, guard⟩ := o
  simp only at h
  cases op with
  | call cl =>
    obtain ⟨callee, args, argTypes⟩ := cl
    have ha : evalL tm args.toList = evalL tm' args.toList := evalL_same fun x hx => h x (by simp only [Op.operands, Call.operands, Array.toList_append, List.mem_append]; exact .inr hx)
    cases callee with
    | value f => cases f <;> simp only [calm, ha]
    | _ => simp only [calm]
  | _ => simp only [calm]

theorem calmable_same {tm tm' : List AV} {o : Oper} (h : SameOn tm tm' o.op.operands.toList) : calmable c tm o = calmable c tm' o := by
  obtain ⟨dst, op, type, pos, after, guard⟩ := o
  simp only at h
  cases op with
  | call cl =>
    obtain ⟨callee, args, argTypes⟩ := cl
    have ha : evalL tm args.toList = evalL tm' args.toList := evalL_same fun x hx => h x (by simp only [Op.operands, Call.operands, Array.toList_append, List.mem_append]; exact .inr hx)
    cases callee with
    | value f => cases f <;> simp only [calmable, ha]
    | _ => simp only [calmable]
  | _ => simp only [calmable]

theorem aeff_same {R : Rec} {fid rid : Nat} {tm tm' : List AV} {o : Oper} (S : St) (h : SameOn tm tm' o.op.operands.toList) : aeff c R fid rid tm o S = aeff c R fid rid tm' o S := by
  obtain ⟨dst, op, type, pos, after, guard⟩ := o
  simp only at h
  cases op with
  | call cl =>
    obtain ⟨callee, args, argTypes⟩ := cl
    have ha : SameOn tm tm' args.toList := fun x hx => h x (by simp only [Op.operands, Call.operands, Array.toList_append, List.mem_append]; exact .inr hx)
    cases callee with
    | value f =>
      have hf : evalT tm f = evalT tm' f := h f (by simp [Op.operands, Call.operands])
      simp only [aeff, hf, evalL_same ha]
    | builtin b =>
      cases b <;> simp only [aeff]
      split
      · rename_i x y t u h1 h2
        rw [ha x (by rw [h1]; simp), ha y (by rw [h1]; simp)]
      · rfl
    | _ => simp only [aeff]
  | alloc e => simp only [aeff]
  | box t x => simp only [aeff]; rw [h x (by simp [Op.operands])]
  | store t a x => simp only [aeff]; rw [h a (by simp [Op.operands]), h x (by simp [Op.operands])]
  | makeSlice t l cp => simp only [aeff]; rw [h l (by simp [Op.operands]), h cp (by simp [Op.operands])]
  | slice t x lo hi mx =>
    have h1 : evalT tm x = evalT tm' x := h x (by simp [Op.operands])
    have h2 : evalO tm lo = evalO tm' lo := evalO_same fun x hx => h x (by simp only [Op.operands, Array.toList_append, List.mem_append]; exact .inl (.inl (.inr (by simpa using hx))))
    have h3 : evalO tm hi = evalO tm' hi := evalO_same fun x hx => h x (by simp only [Op.operands, Array.toList_append, List.mem_append]; exact .inl (.inr (by simpa using hx)))
    cases mx <;> simp only [aeff, h1, h2, h3]
  | _ => simp only [aeff]

theorem rfoot_same {tm tm' : List AV} {o : Oper} (h : SameOn tm tm' o.op.operands.toList) : rfoot tm o = rfoot tm' o := by
  obtain ⟨dst, op, type, pos, after, guard⟩ := o
  simp only at h
  cases op with
  | call cl =>
    obtain ⟨callee, args, argTypes⟩ := cl
    have ha : SameOn tm tm' args.toList := fun x hx => h x (by simp only [Op.operands, Call.operands, Array.toList_append, List.mem_append]; exact .inr hx)
    have : args.toList.flatMap (refsO tm) = args.toList.flatMap (refsO tm') := flatMap_same fun x hx => refsO_same (ha x hx)
    cases callee with
    | builtin b => cases b <;> simp only [rfoot, this]
    | _ => simp only [rfoot]
  | load t a => simp only [rfoot]; exact refsO_same (h a (by simp [Op.operands]))
  | slice t x lo hi mx => simp only [rfoot]; exact refsO_same (h x (by simp [Op.operands]))
  | indexAddr t x i => simp only [rfoot]; exact refsO_same (h x (by simp [Op.operands]))
  | lookup t x i ok => simp only [rfoot]; exact refsO_same (h x (by simp [Op.operands]))
  | _ => simp only [rfoot]

/-! ### Objects -/
def SameAt (S S' : St) (l : List Nat) : Prop := ∀ o ∈ l, S.get o = S'.get o

theorem rowsOf_same {S S' : St} {x : AV} (h : SameAt S S' (refs x)) : S.rowsOf x = S'.rowsOf x := by
  cases x <;> simp only [St.rowsOf]
  rename_i o g off len
  simp only [St.rows]
  rw [h o (by simp [refs])]

theorem refsO_at {S S' : St} {tm : List AV} {x : Operand} {v : AV} (h : SameAt S S' (refsO tm x)) (hv : evalT tm x = some v) : SameAt S S' (refs v) := by
  unfold refsO at h
  rw [hv] at h
  exact h

theorem load_same {S S' : St} {i : Ty} {a : AV} (h : SameAt S S' (refs a)) : S.load i a = S'.load i a := by
  cases a <;> simp only [St.load]
  · rename_i o off; rw [h o (by simp [refs])]
  · rename_i o g r off; rw [h o (by simp [refs])]

theorem asliceV_same {S S' : St} {es : Nat} {x : AV} {lo hi : Option AV} (h : SameAt S S' (refs x)) : asliceV S es x lo hi = asliceV S' es x lo hi := by
  cases x <;> simp only [asliceV]
  rename_i o g off len
  rw [h o (by simp [refs])]

theorem aindexAddr_same {S S' : St} {t : TypeId} {x i : AV} (h : SameAt S S' (refs x)) : aindexAddr c S t x i = aindexAddr c S' t x i := by
  unfold aindexAddr
  cases x with
  | sref o g off len =>
    have ho := h o (by simp [refs])
    simp only [ho]
  | _ =>
    have ho := rowsOf_same h
    simp only [ho]

theorem alookup_same {S S' : St} {t : TypeId} {x k : AV} {ok : Bool} (h : SameAt S S' (refs x)) : alookup c S t x k ok = alookup c S' t x k ok := by
  unfold alookup
  cases x with
  | map o =>
    have ho := h o (by simp [refs])
    cases kindOf c t <;> first | rfl | simp only [ho]
  | _ => cases kindOf c t <;> rfl

theorem alen_same {S S' : St} {t : TypeId} {x : AV} (h : SameAt S S' (refs x)) : alen c S t x = alen c S' t x := by
  unfold alen
  cases x with
  | map o =>
    have ho := h o (by simp [refs])
    cases kindOf c t <;> first | rfl | simp only [ho]
  | _ => cases kindOf c t <;> rfl

theorem aval_local {tm : List AV} {o : Oper} {S S' : St} (h : SameAt S S' (rfoot tm o)) : aval c tm o S = aval c tm o S' := by
  obtain ⟨dst, op, type, pos, after, guard⟩ := o
  cases op with
  | call cl =>
    obtain ⟨callee, args, argTypes⟩ := cl
    cases callee with
    | builtin b =>
      cases b <;> simp only [aval]
      simp only [rfoot] at h
      split
      · rename_i x t h1 h2
        cases hx : evalT tm x with
        | none => rfl
        | some v =>
          simp only [Option.bind_some]
          refine alen_same (refsO_at (fun o ho => h o ?_) hx)
          rw [h1]
          simpa using ho
      · rfl
    | _ => simp only [aval]
  | load t a =>
    simp only [rfoot] at h
    simp only [aval]
    cases c.ty t with
    | none => rfl
    | some i =>
      cases hx : evalT tm a with
      | none => rfl
      | some v => exact load_same (refsO_at h hx)
  | slice t x lo hi mx =>
    simp only [rfoot] at h
    cases mx with
    | some m => simp only [aval]
    | none =>
      simp only [aval]
      cases hx : evalT tm x with
      | none => rfl
      | some v =>
        have hs : ∀ es l hh, asliceV S es v l hh = asliceV S' es v l hh := fun es l hh => asliceV_same (refsO_at h hx)
        cases kindOf c t <;> first | rfl | (simp only [Option.bind_some, hs]; done) | (cases v <;> rfl)
  | indexAddr t x i =>
    simp only [rfoot] at h
    simp only [aval]
    cases hx : evalT tm x with
    | none => rfl
    | some v =>
      have hs : ∀ i, aindexAddr c S t v i = aindexAddr c S' t v i := fun i => aindexAddr_same (refsO_at h hx)
      simp only [Option.bind_some, hs]
  | lookup t x i ok =>
    simp only [rfoot] at h
    simp only [aval]
    cases hx : evalT tm x with
    | none => rfl
    | some v =>
      have hs : ∀ k, alookup c S t v k ok = alookup c S' t v k ok := fun k => alookup_same (refsO_at h hx)
      simp only [Option.bind_some, hs]
  | makeFunc f first cap => cases f <;> simp only [aval]
  | _ => simp only [aval]

end Go.Am
