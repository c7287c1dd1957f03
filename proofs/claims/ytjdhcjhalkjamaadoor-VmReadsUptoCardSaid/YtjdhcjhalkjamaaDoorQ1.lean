/- WHAT IS TAKEN AS GIVEN: strconv.Itoa, strconv.Atoi, strings.IndexAny. -/
import Derived.Test.YtjdhcjhalkjamaaDoorQ0
import Derived.Test.YtjdhcjhalkjamaaDoorQ4
import Derived.Test.YtjdhcjhalkjamaaDoorV1
import Derived.WalkKit
import Derived.ProofKit
set_option linter.unusedVariables false
set_option linter.unusedSimpArgs false
namespace Go.Am.V
open Go.Proofs Go.RowKit

/-- The pinned blocks are in w. -/
def PinW [Pin] (w : World) : Prop := ∀ b x, Pin.pin b x → w.heap[b]? = some x

/-- What the package variables hold. -/
structure VarsOk [Pin] : Prop where
  tab : ∀ w, PinW w → Lib.TabIs Tryd.prog w "internal/strconv.uint64pow10" .u64 Lib.pow10Tab
  syn : ∃ tp p, ∀ w, PinW w → w.var? Tryd.prog "strconv.ErrSyntax" = some #[.iface tp p]
  rng : ∃ tp p, ∀ w, PinW w → w.var? Tryd.prog "strconv.ErrRange" = some #[.iface tp p]

theorem ext_of [Pin] {P : Program} {f : FuncId} {F : List AV → Option AV} (he : ∀ args w, (callFunc f args).run P w = .ok (.enter f args) w)
    (h : ∀ args r, F args = some r → ∀ (G : Gh) (w : World) (vs : Array Value), PinW w → RepL G w args vs.toList → Calls P f vs w fun e w' => Below w.heap.size w w' ∧ ∃ u, e = .returned u ∧ ∀ (G : Gh) (w : World), Rep G w r u) : ExtOk P f (.val F) := by
  intro G S S' W args vs r hr hW hv
  simp only [XT.run, Option.map_eq_some_iff, Prod.mk.injEq] at hr
  obtain ⟨v, hF, rfl, rfl⟩ := hr
  refine ⟨he _ _, (h args v hF G W vs (fun b x hx => (hW.pin b x hx).1) hv).mono fun e w' ⟨hb, u, hu, hrep⟩ => ?_⟩
  have hlaid : Laid W w' := ⟨hb.size, hb.os, hb.tape, hb.output, fun k hk => hb.block k hk⟩
  obtain ⟨g1, g2⟩ := im_step hW hlaid (fun _ _ => False) (fun _ _ h => h.elim)
  exact ⟨_, u, hu, g1, g2, hrep _ _⟩

/-- A number from 0 to 999 in digits. -/
def dig (n : Nat) : List UInt8 :=
  if n < 10 then [UInt8.ofNat (48 + n)] else if n < 100 then [UInt8.ofNat (48 + n / 10), UInt8.ofNat (48 + n % 10)]
  else [UInt8.ofNat (48 + n / 10 / 10), UInt8.ofNat (48 + n / 10 % 10), UInt8.ofNat (48 + n % 10)]
theorem dig_eq {n : Nat} (h : n < 1000) : Lib.decDigits n = dig n := by
  unfold dig
  by_cases h1 : n < 10
  · rw [if_pos h1, Lib.decDigits_one h1]
  · rw [if_neg h1]
    by_cases h2 : n < 100
    · rw [if_pos h2, Lib.decDigits_two h1 h2]
    · rw [if_neg h2, Lib.decDigits, dif_neg h1, Lib.decDigits_two (by omega) (by omega)]
      rfl

def itoaF (args : List AV) : Option AV :=
  match args with
  | [.int .i64 n] => if 0 ≤ n ∧ n ≤ 255 then some (.str (dig n.toNat)) else none
  | _ => none

theorem ext_itoa [Pin] (hv : VarsOk) : ExtOk Tryd.prog 27 (.val itoaF) := by
  refine ext_of (enters_of Tryd.func27 (by kernel_rfl) rfl) fun args r hr G w vs hp hvs => ?_
  unfold itoaF at hr
  split at hr
  · rename_i n
    split at hr
    · rename_i hn
      simp only [Option.some.injEq] at hr
      subst hr
      obtain ⟨v, l, hvl, hrv, hl⟩ := hvs.uncons
      obtain rfl := hl.nil_inv
      have := rep_int hrv
      subst this
      have hvs' := arr_eq hvl
      subst hvs'
      refine (Tryd.strconv_Itoa n (by omega) (by omega) w (hv.tab w hp)).mono fun e w' ⟨he, k, os, hw⟩ => ?_
      subst he hw
      refine ⟨?_, _, rfl, fun G w => ?_⟩
      · exact ⟨rfl, rfl, rfl, by simp [Go.Sort.grow, World.drewN], fun j hj => by simp only [Go.Sort.grow]; exact Array.getElem?_append_left hj⟩
      · have : Lib.itoa n = dig n.toNat := by
          unfold Lib.itoa
          rw [if_neg (by omega), dig_eq (by omega)]
        rw [this]
        exact .str _
    · cases hr
  · cases hr

def atoiF (args : List AV) : Option AV :=
  match args with
  | [.str s] => if s.length ≤ 281474976710656 then
      (match Lib.atoiAll s with
        | .ok v => some (.tup [.int .i64 v, .nili])
        | .range => some (.tup [.int .i64 (Lib.atoiSat s), .ifc])
        | _ => some (.tup [.int .i64 0, .ifc])) else none
  | _ => none

theorem ext_atoi [Pin] (hv : VarsOk) : ExtOk Tryd.prog 37 (.val atoiF) := by
  refine ext_of (enters_of Tryd.func37 (by kernel_rfl) rfl) fun args r hr G w vs hp hvs => ?_
  unfold atoiF at hr
  split at hr
  · rename_i s
    split at hr
    · rename_i hn
      obtain ⟨v, l, hvl, hrv, hl⟩ := hvs.uncons
      obtain rfl := hl.nil_inv
      have := rep_str hrv
      subst this
      have hvs' := arr_eq hvl
      subst hvs'
      have hsz : (⟨s.toArray⟩ : ByteArray).size = s.length := by simp [ByteArray.size]
      cases hx : Lib.atoiAll s with
      | ok x =>
        rw [hx] at hr
        simp only [Option.some.injEq] at hr
        subst hr
        refine (Tryd.strconv_Atoi_ok ⟨s.toArray⟩ (by omega) x hx w).mono fun e w' ⟨he, hw⟩ => ?_
        subst he
        refine ⟨?_, _, rfl, fun G w => ?_⟩
        · rcases hw with rfl | ⟨t, rfl⟩
          · exact Below.refl _ _
          · exact Lib.bytesWorld_below _ _ _
        · exact rep_tup.2 (.cons (.int _ _) (.cons .nili (.nil _ _)))
      | range =>
        rw [hx] at hr
        simp only [Option.some.injEq] at hr
        subst hr
        obtain ⟨tp, p, hvar⟩ := hv.rng
        refine (Any.strconv_Atoi_range_var Tryd.laysC172 ⟨s.toArray⟩ (by omega) hx tp p w (hvar w hp)).mono fun e w' ⟨N, he, _, _, hb⟩ => ?_
        subst he
        exact ⟨hb, _, rfl, fun G w => rep_tup.2 (.cons (.int _ _) (.cons (.ifc _ _) (.nil _ _)))⟩
      | _ =>
        rw [hx] at hr
        simp only [Option.some.injEq] at hr
        subst hr
        obtain ⟨tp, p, hvar⟩ := hv.syn
        refine (Any.strconv_Atoi_syntax_var Tryd.laysC172 ⟨s.toArray⟩ (by omega) hx tp p w (hvar w hp)).mono fun e w' ⟨N, he, _, _, hb⟩ => ?_
        subst he
        exact ⟨hb, _, rfl, fun G w => rep_tup.2 (.cons (.int _ _) (.cons (.ifc _ _) (.nil _ _)))⟩
    · cases hr
  · cases hr

def idxOk (s : List UInt8) : Bool := decide (s.length < 4294967281)
def idxF (args : List AV) : Option AV :=
  match args with
  | [.str s, .str [32, 59]] => if idxOk s then some (.int .i64 (Lib.indexAny s [32, 59])) else none
  | _ => none
theorem ext_idx [Pin] : ExtOk Tryd.prog 36 (.val idxF) := by
  refine ext_of (enters_of Tryd.func36 (by kernel_rfl) rfl) fun args r hr G w vs hp hvs => ?_
  unfold idxF at hr
  split at hr
  · rename_i s
    split at hr
    · rename_i hn
      simp only [Option.some.injEq] at hr
      subst hr
      simp only [idxOk, decide_eq_true_eq] at hn
      obtain ⟨v, l, hvl, hrv, hl⟩ := hvs.uncons
      obtain ⟨u, l2, rfl, hru, hl2⟩ := hl.uncons
      obtain rfl := hl2.nil_inv
      have h1 := rep_str hrv
      subst h1
      have h2 := rep_str hru
      subst h2
      have hvs' := arr_eq hvl
      subst hvs'
      have hsz : (⟨s.toArray⟩ : ByteArray).size = s.length := by simp [ByteArray.size]
      have hcall : Calls Tryd.prog 36 #[.string ⟨s.toArray⟩, .string ⟨#[32, 59]⟩] w fun e w' => e = .returned (.int .i64 (Lib.indexAny s [32, 59])) ∧ Below w.heap.size w w' :=
        Any.strings_IndexAny_sp Tryd.lays153 (by kernel_rfl) ⟨s.toArray⟩ w (by omega)
      refine hcall.mono fun e w' ⟨he, hb⟩ => ?_
      subst he
      exact ⟨hb, _, rfl, fun G w => .int _ _⟩
    · cases hr
  · cases hr
end Go.Am.V
