/- WHAT THE ROW'S LISTED VARIABLES GIVE. -/
import Derived.Test.YtbmfnoaogebjfaaDoorK3
import Derived.Test.YtbmfnoaogebjfaaDoorRows
import Derived.Stop.LaidErr
import Derived.Lib.LaidTab
import Derived.MakeChecks
set_option linter.unusedSimpArgs false
set_option linter.unusedVariables false
set_option maxRecDepth 100000
namespace Go.Am.R
open Go.Proofs Go.RowKit Go.Proofs.YtbmfnoaogebjfaaDoor

/-- All blocks of a world, pinned. -/
@[reducible] def Pin.of (w : World) : Pin := ⟨fun b x => w.heap[b]? = some x⟩

def laidL : List (String × DataW Unit) := [("math/bits.deBruijn32tab", Rows.laid_math_bits_deBruijn32tab), ("math/bits.deBruijn64tab", Rows.laid_math_bits_deBruijn64tab), ("internal/strconv.uint64pow10", Rows.laid_internal_strconv_uint64pow10)]

theorem gTab : Tryd.prog.globalNamed "internal/strconv.uint64pow10" = some 0 := by kernel_rfl
theorem tTab : (Tryd.prog.globals[0]?).map (·.type) = some 117 := by kernel_rfl
theorem cellsT : Tryd.prog.cellsOf 117 = 20 := by kernel_rfl
theorem cellsE : Tryd.prog.cellsOf 111 = 1 := by kernel_rfl
theorem tabE : (Rows.laid_internal_strconv_uint64pow10 : DataW Unit) = Lib.tabData .u64 Lib.pow10Tab := by
  unfold Rows.laid_internal_strconv_uint64pow10 Lib.tabData Lib.pow10Tab
  rfl

theorem var_of {W w : World} {n : String} {g : Nat} {cs : Array Value} (hg : Tryd.prog.globalNamed n = some g) (h : W.var? Tryd.prog n = some cs) (hw : ∀ (b : Nat) (x : Obj), W.heap[b]? = some x → w.heap[b]? = some x) : w.var? Tryd.prog n = some cs := by
  unfold World.var? at h ⊢
  rw [hg] at h ⊢
  simp only [Option.bind_some] at h ⊢
  split at h
  · rename_i c t f hc
    rw [hw _ _ hc]
    exact h
  · cases h

theorem varsOk_of {W : World} (h : laidMetH Tryd.prog laidL W) : @VarsOk (Pin.of W) := by
  letI := Pin.of W
  rw [MakeChecks.laidMetH_plain _ _ _ (by kernel_rfl)] at h
  have h1 := h.tail.tail
  have htab : Lib.TabIs Tryd.prog W "internal/strconv.uint64pow10" .u64 Lib.pow10Tab := by
    unfold laidL at h1
    rw [tabE] at h1
    exact Lib.tabIs_of_head gTab tTab Tryd.underlying117 Tryd.underlying111 cellsE cellsT h1
  exact ⟨fun w hw => var_of gTab htab hw⟩

end Go.Am.R
