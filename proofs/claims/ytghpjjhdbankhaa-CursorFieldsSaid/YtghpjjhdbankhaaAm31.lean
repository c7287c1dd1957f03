/- THE ABSTRACT MACHINE, THIRTY-SECOND FILE: regions whose order is open: a step. -/
import Derived.Test.YtghpjjhdbankhaaAm30
set_option linter.unusedSimpArgs false
set_option linter.unusedVariables false
namespace Go.Am
open Go.RowKit
variable {P : Program} {c : Cfg} {R : Rec} {fid rid : Nat} {ops : Array Oper} {tm tm' : List AV} {S S' : St} {fs : List Foot} {tms : Nat → List AV} {Ss : Nat → St} {vs : Nat → AV} {ft : Nat → Foot}

structure Inv (ops : Array Oper) (tm : List AV) (S : St) (tms : Nat → List AV) (Ss : Nat → St) (ft : Nat → Foot) (L : Nat → Prop) (tmC : List AV) (C : St) : Prop where
  tlen : tmC.length = tm.length
  len : C.h.length = C.n
  base : C.base = S.base
  temps : ∀ t, Cut ops.size (fun i t => (tms i).getD t .undef) (dstIs ops) L t (tmC.getD t .undef)
  objs : ∀ o, Cut ops.size (fun i o => (Ss i).get o) (footT ft) L o (C.get o)
  num : Cut ops.size (fun i (_ : Unit) => (Ss i).n) (footN ft) L () C.n

theorem inv_step (hL : RecLen R) (t : Trace c R fid rid ops ops.toList tm S tm' S' fs tms Ss vs ft) (hS : S.h.length = S.n) (hd : DrawFacts ops) (hf : feetOk ops fs = true) {L : Nat → Prop} {tmC : List AV} {C : St} (h : Inv ops tm S tms Ss ft L tmC C)
    (hc : ∀ i j, Less ops i j → L j → L i) {i : Nat} {o : Oper} (hi : ops[i]? = some o) (hiL : ¬ L i) (hp : ∀ j, Less ops j i → L j) :
    (awanted ops tmC o = true ∧ ∃ C1, opD c R fid rid tmC o C = some (vs i, C1, ft i) ∧ Inv ops tm S tms Ss ft (fun j => L j ∨ j = i) (putT tmC o.dst (vs i)) C1) ∨
    (awanted ops tmC o = false ∧ vs i = .undef ∧ Inv ops tm S tms Ss ft (fun j => L j ∨ j = i) (putT tmC o.dst (vs i)) C) := by
  have hlt := (Array.getElem?_eq_some_iff.1 hi).1
  have hil : ops.toList[i]? = some o := by simpa using hi
  obtain ⟨s1, s2⟩ := t.step i o hil
  have hvT : ∀ j x, j < ops.size → ¬ dstIs ops j x → (fun i t => (tms i).getD t .undef) (j + 1) x = (fun i t => (tms i).getD t .undef) j x := fun j x hj hn => by
    have hjl : ops.toList[j]? = some ops[j] := by simp
    simp only [(t.step j _ hjl).1]
    exact putT_getD fun e => hn ⟨ops[j], by simp, e⟩
  have hvO : ∀ j x, j < ops.size → ¬ footT ft j x → (fun i o => (Ss i).get o) (j + 1) x = (fun i o => (Ss i).get o) j x := fun j x hj hn => ((trace_alike hL t hS hj).off x hn).2
  have hvN : ∀ j (x : Unit), j < ops.size → ¬ footN ft j x → (fun i (_ : Unit) => (Ss i).n) (j + 1) x = (fun i (_ : Unit) => (Ss i).n) j x := fun j x hj hn => ((trace_alike hL t hS hj).nonum (by unfold footN at hn; simpa using hn)).2
  have hoT := temps_ordered hd
  have hoO := objs_ordered t hf
  have hoN := nums_ordered t hf
  have hlook : ∀ u ∈ looks ops o, tmC.getD u .undef = (tms i).getD u .undef := fun u hu => Cut.look hvT hoT hc hlt hiL hp ⟨o, hi, .inl hu⟩ (h.temps u)
  have hobj : ∀ x, (ft i).F.has x → C.get x = (Ss i).get x := fun x hx => Cut.look hvO hoO hc hlt hiL hp hx (h.objs x)
  have hnum : (ft i).N = true → C.n = (Ss i).n := fun hn => Cut.look hvN hoN hc hlt hiL hp (x := ()) hn h.num
  obtain ⟨l1, l2, l3⟩ := trace_len hL t hS i (by omega)
  have hnear : Near (ft i) (Ss i) C := ⟨l1, h.len, h.base.trans l2.symm, hobj, fun x hx => hobj x (trace_TF t hlt hx), hnum⟩
  have hops : SameOn tmC (tms i) o.op.operands.toList := sameOn_of fun u hu => hlook u (by unfold looks; exact List.mem_append_left _ hu)
  have hw := awanted_same hlook
  -- the temporaries behind it
  have htemps : ∀ u, Cut ops.size (fun i t => (tms i).getD t .undef) (dstIs ops) (fun j => L j ∨ j = i) u ((putT tmC o.dst (vs i)).getD u .undef) := fun u => by
    by_cases hu : o.dst = some u
    · have := Cut.on (val := fun i t => (tms i).getD t .undef) hoT (fun j x ⟨q, h1, h2⟩ => ⟨q, h1, .inr h2⟩) hc hlt hiL hp (x := u) ⟨o, hi, hu⟩
      have he : (putT tmC o.dst (vs i)).getD u .undef = (tms (i + 1)).getD u .undef := by
        rw [s1, hu]
        exact putT_hit (h.tlen.trans l3.symm)
      rw [he]
      exact this
    · rw [putT_getD hu]
      refine Cut.off ?_ (h.temps u)
      rintro ⟨q, h1, h2⟩
      rw [hi] at h1
      cases h1
      exact hu h2
  have after : ∀ C1, Alike (ft i) (Ss i) (Ss (i + 1)) C C1 → Inv ops tm S tms Ss ft (fun j => L j ∨ j = i) (putT tmC o.dst (vs i)) C1 := fun C1 ha => by
    refine ⟨putT_length.trans h.tlen, ha.len, ha.base.trans h.base, htemps, fun x => ?_, ?_⟩
    · by_cases hx : footT ft i x
      · rw [ha.on x hx]
        refine Cut.on' (val := fun i o => (Ss i).get o) hoO hc (fun x => trace_TF t hlt) hlt hiL hp hx
      · rw [(ha.off x hx).1]
        exact Cut.off hx (h.objs x)
    · by_cases hn : footN ft i ()
      · rw [ha.num hn]
        exact Cut.on (val := fun i (_ : Unit) => (Ss i).n) hoN (fun _ _ x => x) hc hlt hiL hp hn
      · rw [(ha.nonum (by unfold footN at hn; simpa using hn)).1]
        exact Cut.off hn h.num
  rcases s2 with ⟨w1, w2⟩ | ⟨w1, w2, w3, w4⟩
  · obtain ⟨C1, q1, q2⟩ := opD_local hL w2 hnear
    exact .inl ⟨hw.trans w1, C1, by rw [opD_same C hops]; exact q1, after C1 q2⟩
  · refine .inr ⟨hw.trans w1, w2, after C ?_⟩
    rw [w3]
    exact Alike.same l1 h.len hnear.T hnear.N

end Go.Am
