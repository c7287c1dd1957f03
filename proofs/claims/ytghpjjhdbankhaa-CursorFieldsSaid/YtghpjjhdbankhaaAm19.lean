/- THE ABSTRACT MACHINE, TWENTIETH FILE: every operation; ranges over functions; code. -/
import Derived.Test.YtghpjjhdbankhaaAm18
set_option linter.unusedSimpArgs false
set_option linter.unusedVariables false
namespace Go.Am
open Go.RowKit
variable {P : Program} {c : Cfg}

/-- An operation that calls. -/
theorem call_ok (hc : CfgOk P c) {R : Rec} (hR : RecOk P R) {tm : List AV} {o : Oper} {cl : Call} {fo : Operand} {g : AV} {as : List AV} {S S' : St} {v : AV} (ho : o.op = .call cl) (hcl : cl.callee = .value fo)
    (hg : evalT tm fo = some g) (ha : evalL tm cl.args.toList = some as) (h : callV c R g as S = some (v, S')) : OpOk P tm o S v S' := by
  intro G w a rd K Q hW ht hK
  refine ⟨fun f _ => trivial, ?_⟩
  rw [Oper.semAt_eq _ _ _ (by rw [ho]; simp)]
  have hgr := evalT_rep ht hg
  have har := evalL_rep ht ha
  have hex : execOp a.eval o = (do let d ← resolve a.eval cl o.type; invoke d.target d.args) := by simp only [execOp, ho]
  rw [hex]
  unfold callV at h
  split at h
  · rename_i f first cap
    obtain ⟨vf, vc, hfv, hf1, hf2⟩ := rep_fn_inv hgr
    have hargs : RepL G w (first ++ as ++ cap) ((vf ++ cl.args.map a.eval) ++ vc).toList := by
      simp only [Array.toList_append, Array.toList_map]
      exact (hf1.append har).append hf2
    obtain ⟨c1, c2⟩ := callF_ok hc hR.call h G w _ hW hargs
    have hrun : (do let d ← resolve a.eval cl o.type; invoke d.target d.args : Sem Next).run P w = .ok (.enter f ((vf ++ cl.args.map a.eval) ++ vc)) w := by
      simp only [resolve, hcl, hfv, Deferred.ofValue, Sem.run_bind, Sem.run_pure, Result.andThen_ok, invoke, c1]
    rw [hrun, Oper.uponIn_enter]
    refine ⟨fun e => by simp [FR, Fence.wide] at e, callsIn_FR (c2.mono fun e w' ⟨G', u, he, h1, h2, h3⟩ => ?_)⟩
    subst he
    exact hK G' w' u h1 h2 h3
  · rename_i l
    cases hq : a.eval fo with
    | func t x y =>
      rw [hq] at hgr
      cases hgr with
      | yield _ b hb =>
        obtain ⟨fn, tmps, asg, body, h1, h2⟩ := yieldS_ok hR h hW hb (vs := cl.args.map a.eval) (by simpa using har)
        have hrun : (do let d ← resolve a.eval cl o.type; invoke d.target d.args : Sem Next).run P w = .ok (.round b fn tmps asg body) w := by
          simp only [resolve, hcl, hq, Deferred.ofValue, Sem.run_bind, Sem.run_pure, Result.andThen_ok, invoke, Array.empty_append, h1]
        rw [hrun, Oper.uponIn_round]
        refine ⟨fun e => by simp [FR, Fence.wide] at e, (h2 rd).mono fun e w' ⟨G', u, he, h1, h2, h3⟩ => ?_⟩
        subst he
        exact hK G' w' u h1 h2 h3
    | _ => rw [hq] at hgr; cases hgr
  · simp at h

theorem comes_congr {s s' : Sem Next} {G : Gh} {S : St} {w : World} {v : AV} {S' : St} (h : s.run P w = s'.run P w) (k : Comes1 P s' G S w v S') : Comes1 P s G S w v S' := by
  obtain ⟨nx, u, w', G', h1, h2⟩ := k
  exact ⟨nx, u, w', G', h.trans h1, h2⟩

theorem aeff_ok (hc : CfgOk P c) {R : Rec} (hR : RecOk P R) {fid rid : Nat} {tm : List AV} {o : Oper} {S S' : St} {v : AV} (h : aeff c R fid rid tm o S = some (v, S')) : OpOk P tm o S v S' := by
  obtain ⟨dst, op, type, pos, after, guard⟩ := o
  unfold aeff at h
  split at h
  all_goals rename_i hop
  all_goals (simp only at hop)
  all_goals try subst hop
  · -- alloc
    simp only [Option.bind_eq_some_iff, Option.map_eq_some_iff, Prod.mk.injEq] at h
    obtain ⟨i, hi, z, hz, rfl, rfl⟩ := h
    exact opOk_of_comes (by simp) fun G w a hW ht => comes_alloc hc hW hi hz
  · -- box
    simp only [Option.bind_eq_some_iff] at h
    obtain ⟨x, hx, h⟩ := h
    split at h
    · rename_i hl
      simp only [Option.some.injEq, Prod.mk.injEq] at h
      obtain ⟨rfl, rfl⟩ := h
      exact opOk_of_comes (by simp) fun G w a hW ht => comes_box _ hW (evalT_rep ht hx) hl
    · simp at h
  · -- store
    simp only [Option.bind_eq_some_iff, Option.map_eq_some_iff, Prod.mk.injEq] at h
    obtain ⟨i, hi, p, hp, x, hx, S1, hS, rfl, rfl⟩ := h
    exact opOk_of_comes (by simp) fun G w a hW ht => comes_store hc hW hi hS (evalT_rep ht hp) (evalT_rep ht hx)
  · -- makeSlice
    split at h
    · rename_i e hk
      simp only [Option.bind_eq_some_iff] at h
      obtain ⟨ei, he, z, hz, lv, hl, cv, hcv, h⟩ := h
      split at h
      · rename_i k n k' m
        split at h
        · rename_i hq
          simp only [Option.some.injEq, Prod.mk.injEq] at h
          obtain ⟨rfl, rfl⟩ := h
          refine opOk_of_comes (by simp) fun G w a hW ht => ?_
          have e1 := rep_int_inv (evalT_rep ht hl)
          have e2 := rep_int_inv (evalT_rep ht hcv)
          have := comes_makeSlice hc hW (k := k) (k' := k') hk he hz hq
          simp only [execOp, e1, e2]
          exact this
        · simp at h
      · simp at h
    · simp at h
  · -- slice of an array
    split at h
    · rename_i n e hk
      simp only [Option.bind_eq_some_iff] at h
      obtain ⟨ei, he, x, hx, l, hl, hh, hhh, h⟩ := h
      split at h
      · rename_i ob off
        split at h
        · rename_i cs lk hget
          simp only [Option.bind_eq_some_iff] at h
          obtain ⟨h', hb1, l', hb2, h⟩ := h
          split at h
          · rename_i hle
            simp only [Option.map_eq_some_iff, Prod.mk.injEq] at h
            obtain ⟨S1, hp, rfl, rfl⟩ := h
            exact opOk_of_comes (by simp) fun G w a hW ht => comes_sliceA hc hW hk he (evalT_rep ht hx) hget hb1 hb2 (evalO_rep ht hl) (evalO_rep ht hhh) hle hp
          · simp at h
        · simp at h
      · simp at h
    · simp at h
  · -- append
    rename_i args argTypes
    split at h
    · rename_i x y t u hx1 hx2
      have e1 : args = #[x, y] := by cases args; simp_all
      have e2 : argTypes = #[t, u] := by cases argTypes; simp_all
      subst e1 e2
      split at h
      · simp at h
      · simp at h
      · rename_i e hk hn1 hn2
        simp only [Option.bind_eq_some_iff] at h
        obtain ⟨ei, he, xa, hxa, ya, hya, ys, hys, h⟩ := h
        split at h
        · rename_i hq
          cases hu : c.ty u with
          | none => exact absurd (by rw [hu]; rfl) hn2
          | some ui =>
            refine opOk_of_comes (by simp) fun G w a hW ht => ?_
            have := comes_append (ty := type) hc hW hk he hu (fun k hk' => hn1 k (by rw [hu]; simp [hk'])) (evalT_rep ht hxa) (evalT_rep ht hya) hys hq h
            refine comes_congr ?_ this
            simp [execOp, resolve, invoke, builtin, Sem.run_bind]
        · simp at h
      · simp at h
    · simp at h
  · -- a call
    rename_i fo args argTypes
    simp only [Option.bind_eq_some_iff] at h
    obtain ⟨g, hg, as, ha, h⟩ := h
    exact call_ok hc hR rfl rfl hg ha h
  · simp at h

end Go.Am
