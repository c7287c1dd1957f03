/- MAPS: what their operations come to. -/
import Derived.Test.YtbmfnoaogebjfaaDoorKL
set_option linter.unusedSimpArgs false
set_option linter.unusedVariables false
namespace Go.Am
section
variable {c : Cfg} {R : Rec} {f r : Nat} {tm : List AV} {d : Option Tmp} {ty : TypeId} {p : String} {a : Array Edge} {g : Option (Nat × Bool)} {S : St}
theorem aval_makeMap {t : TypeId} {x : Option Operand} : aval c tm ⟨d, .makeMap t x, ty, p, a, g⟩ S = none := (rfl)
theorem aval_mapUpdate {t : TypeId} {x y z : Operand} : aval c tm ⟨d, .mapUpdate t x y z, ty, p, a, g⟩ S = none := (rfl)
theorem aval_mapEntry {t : TypeId} {x y : Operand} : aval c tm ⟨d, .mapEntry t x y, ty, p, a, g⟩ S = none := (rfl)
theorem aval_entryStore {t : TypeId} {x y z : Operand} : aval c tm ⟨d, .entryStore t x y z, ty, p, a, g⟩ S = none := (rfl)
theorem aval_delete {x : Array Operand} {t : Array TypeId} : aval c tm ⟨d, .call { callee := .builtin .delete, args := x, argTypes := t }, ty, p, a, g⟩ S = none := (rfl)
theorem aeff_makeMap {t : TypeId} : aeff c R f r tm ⟨d, .makeMap t none, ty, p, a, g⟩ S = (match kindOf c t with | .map _ _ => some (.map S.n, S.push (.map [] 0)) | _ => none) := (rfl)
theorem aeff_mapUpdate {t : TypeId} {m k x : Operand} : aeff c R f r tm ⟨d, .mapUpdate t m k x, ty, p, a, g⟩ S = (evalT tm m).bind fun u => (evalT tm k).bind fun v => (evalT tm x).bind fun z => (amapUpdate c S t u v z).map fun S' => (.undef, S') := (rfl)
theorem aeff_mapEntry {t : TypeId} {m k : Operand} : aeff c R f r tm ⟨d, .mapEntry t m k, ty, p, a, g⟩ S = (evalT tm m).bind fun u => (evalT tm k).bind fun v => amapEntry c S t u v := (rfl)
theorem aeff_entryStore {t : TypeId} {m k x : Operand} : aeff c R f r tm ⟨d, .entryStore t m k x, ty, p, a, g⟩ S = (evalT tm m).bind fun u => (evalT tm k).bind fun v => (evalT tm x).bind fun z => (aentryStore S u v z).map fun S' => (.undef, S') := (rfl)
theorem aeff_delete {x y : Operand} {t u : TypeId} : aeff c R f r tm ⟨d, .call { callee := .builtin .delete, args := #[x, y], argTypes := #[t, u] }, ty, p, a, g⟩ S = (evalT tm x).bind fun v => (evalT tm y).bind fun z => (adelete c S t v z).map fun S' => (.tup [], S') := (rfl)
theorem opX_makeMap {t : TypeId} : opX c R f r tm ⟨d, .makeMap t none, ty, p, a, g⟩ S = (aeff c R f r tm ⟨d, .makeMap t none, ty, p, a, g⟩ S).map fun z => (z.1, z.2, Foot.big) := by
  unfold opX
  rw [show opQ c R tm ⟨d, .makeMap t none, ty, p, a, g⟩ S = none from rfl]
  simp [calmable, wfoot]
theorem opX_mapUpdate {t : TypeId} {m k x : Operand} : opX c R f r tm ⟨d, .mapUpdate t m k x, ty, p, a, g⟩ S = (aeff c R f r tm ⟨d, .mapUpdate t m k x, ty, p, a, g⟩ S).map fun z => (z.1, z.2, Foot.big) := by
  unfold opX
  rw [show opQ c R tm ⟨d, .mapUpdate t m k x, ty, p, a, g⟩ S = none from rfl]
  simp [calmable, wfoot]
theorem opX_mapEntry {t : TypeId} {m k : Operand} : opX c R f r tm ⟨d, .mapEntry t m k, ty, p, a, g⟩ S = (aeff c R f r tm ⟨d, .mapEntry t m k, ty, p, a, g⟩ S).map fun z => (z.1, z.2, Foot.big) := by
  unfold opX
  rw [show opQ c R tm ⟨d, .mapEntry t m k, ty, p, a, g⟩ S = none from rfl]
  simp [calmable, wfoot]
theorem opX_entryStore {t : TypeId} {m k x : Operand} : opX c R f r tm ⟨d, .entryStore t m k x, ty, p, a, g⟩ S = (aeff c R f r tm ⟨d, .entryStore t m k x, ty, p, a, g⟩ S).map fun z => (z.1, z.2, Foot.big) := by
  unfold opX
  rw [show opQ c R tm ⟨d, .entryStore t m k x, ty, p, a, g⟩ S = none from rfl]
  simp [calmable, wfoot]
theorem opX_delete {x y : Operand} {t u : TypeId} : opX c R f r tm ⟨d, .call { callee := .builtin .delete, args := #[x, y], argTypes := #[t, u] }, ty, p, a, g⟩ S = (aeff c R f r tm ⟨d, .call { callee := .builtin .delete, args := #[x, y], argTypes := #[t, u] }, ty, p, a, g⟩ S).map fun z => (z.1, z.2, Foot.big) := by
  unfold opX
  rw [show opQ c R tm ⟨d, .call { callee := .builtin .delete, args := #[x, y], argTypes := #[t, u] }, ty, p, a, g⟩ S = none from rfl]
  simp [calmable, wfoot]
end
theorem KM : type_of% @aval_makeMap ∧ type_of% @aval_mapUpdate ∧ type_of% @aval_mapEntry ∧ type_of% @aval_entryStore ∧ type_of% @aval_delete ∧ type_of% @aeff_makeMap ∧ type_of% @aeff_mapUpdate ∧ type_of% @aeff_mapEntry ∧ type_of% @aeff_entryStore ∧ type_of% @aeff_delete :=
  ⟨@aval_makeMap, @aval_mapUpdate, @aval_mapEntry, @aval_entryStore, @aval_delete, @aeff_makeMap, @aeff_mapUpdate, @aeff_mapEntry, @aeff_entryStore, @aeff_delete⟩
theorem KX : type_of% @opX_makeMap ∧ type_of% @opX_mapUpdate ∧ type_of% @opX_mapEntry ∧ type_of% @opX_entryStore ∧ type_of% @opX_delete := ⟨@opX_makeMap, @opX_mapUpdate, @opX_mapEntry, @opX_entryStore, @opX_delete⟩
end Go.Am
