/- HOW THE FUNCTIONS ARE CALLED, slices.Clone TAKEN AS GIVEN AT AN EMPTY SLICE. -/
import Derived.Test.YtghpjjhdbankhaaS1
import Derived.Test.YtghpjjhdbankhaaN0
set_option linter.unusedSimpArgs false
set_option linter.unusedVariables false
set_option maxRecDepth 20000
namespace Go.Am.B
open Go.Proofs Go.RowKit

/-- What slices.Clone makes of an empty slice. -/
def cloneE (args : List AV) (n : Nat) : Option (AV × AObj) :=
  match args with
  | [.vec []] => some (.lit [], .dead)
  | [.lit []] => some (.lit [], .dead)
  | _ => none
def ext1 (f : FuncId) : Option XT := if f = 77 ∨ f = 86 then some (.push cloneE) else none
def mode1 (f : FuncId) : CM := if [77, 86].contains f then .raw else modeOf f
def w1 : Ways := ⟨mode1, ext1, fun f r => f == 86, fun t => t == 29⟩

theorem std1 : Std1 w1 := by
  constructor
  case toStd => constructor <;> first | rfl | (exact fun f r h _ => by simpa [w1] using h) | (constructor <;> rfl)
  all_goals rfl

theorem aw27 : ((run (cfg w1) 60).call 27 [] St.nil).map Prod.fst = some (.bool true) := by kernel_rfl

theorem awake27_ok : PC (cfg w1) 27 [] (.bool true) := by
  have h := aw27
  simp only [Option.map_eq_some_iff] at h
  obtain ⟨⟨r, S⟩, h1, h2⟩ := h
  refine PC_of (args' := []) std1.e27 std1.m27 rfl ⟨r, S, lim_of_run h1, ?_⟩
  simp only at h2
  subst h2
  exact FZ_bool

theorem push_dead {G : Gh} {S : St} {w : World} (h : Wrel G S w) : Wrel G (S.push .dead) w ∧ Step G S w G (S.push .dead) w :=
  push_step h ⟨Nat.le_refl _, rfl, rfl, rfl, fun _ _ => rfl⟩ (.refl G) (fun o b hb => .inl hb) (fun b b' h1 h2 => h.fblk _ _ _ h1 h2) (fun o g s hs => .inl hs) (fun g s s' h1 h2 => h.fseg _ _ _ _ h1 h2) (fun b f hi => .inl hi) (fun b hb => hb.elim) trivial
end Go.Am.B
