/- WHAT THE ROW'S LISTED VARIABLES GIVE. -/
import Derived.Test.YtjdhcjhalkjamaaDoorB2
import Derived.Test.YtjdhcjhalkjamaaDoorRows
import Derived.Stop.LaidErr
import Derived.Lib.LaidTab
import Derived.MakeChecks
set_option linter.unusedSimpArgs false
set_option linter.unusedVariables false
set_option maxRecDepth 100000
namespace Go.Am.V
open Go.Proofs Go.RowKit Go.Proofs.YtjdhcjhalkjamaaDoor

/-- All blocks of a world, pinned. -/
@[reducible] def Pin.of (w : World) : Pin := ⟨fun b x => w.heap[b]? = some x⟩

def laidL : List (String × DataW Unit) := [("math/bits.deBruijn32tab", Rows.laid_math_bits_deBruijn32tab), ("math/bits.deBruijn64tab", Rows.laid_math_bits_deBruijn64tab), ("internal/strconv.uint64pow10", Rows.laid_internal_strconv_uint64pow10), ("strconv.ErrRange", Rows.laid_strconv_ErrRange), ("strconv.ErrSyntax", Rows.laid_strconv_ErrSyntax)]

theorem gTab : Tryd.prog.globalNamed "internal/strconv.uint64pow10" = some 3 := by kernel_rfl
theorem gSyn : Tryd.prog.globalNamed "strconv.ErrSyntax" = some 1 := by kernel_rfl
theorem gRng : Tryd.prog.globalNamed "strconv.ErrRange" = some 2 := by kernel_rfl
theorem tTab : (Tryd.prog.globals[3]?).map (·.type) = some 128 := by kernel_rfl
theorem tSyn : (Tryd.prog.globals[1]?).map (·.type) = some 77 := by kernel_rfl
theorem tRng : (Tryd.prog.globals[2]?).map (·.type) = some 77 := by kernel_rfl
theorem cells37 : Tryd.prog.cellsOf 37 = 1 := by kernel_rfl
theorem cells128 : Tryd.prog.cellsOf 128 = 20 := by kernel_rfl
theorem cells135 : Tryd.prog.cellsOf 135 = 1 := by kernel_rfl
theorem cells9 : Tryd.prog.cellsOf 9 = 1 := by kernel_rfl
theorem star : "*" ++ "errors.errorString" = "*errors.errorString" := by decide
theorem row133 (u : TypeId) (h : Tryd.prog.typeName? 3 u = some "*errors.errorString") : u = 133 :=
  typeName_ptr_named (nm := "errors.errorString") (by rw [star]; kernel_rfl) (by kernel_rfl) (by decide) u (by rw [star]; exact h)
theorem tabE : (Rows.laid_internal_strconv_uint64pow10 : DataW Unit) = Lib.tabData .u64 Lib.pow10Tab := by
  unfold Rows.laid_internal_strconv_uint64pow10 Lib.tabData Lib.pow10Tab
  rfl

theorem var_of {W w : World} {n : String} {g : Nat} {cs : Array Value} (hg : Tryd.prog.globalNamed n = some g) (h : W.var? Tryd.prog n = some cs) (hw : ∀ (b : Nat) (x : Obj), W.heap[b]? = some x → w.heap[b]? = some x) : w.var? Tryd.prog n = some cs := by
  unfold World.var? at h ⊢
  rw [hg] at h ⊢
  simp only [Option.bind_some] at h ⊢
  split at h
  · rename_i c t f hc
    rw [hw _ _ hc]
    exact h
  · cases h

theorem varsOk_of {W : World} (h : laidMetH Tryd.prog laidL W) : @VarsOk (Pin.of W) := by
  letI := Pin.of W
  rw [MakeChecks.laidMetH_plain _ _ _ (by kernel_rfl)] at h
  have h1 := h.tail.tail
  have h2 := h1.tail
  have h3 := h2.tail
  have htab : Lib.TabIs Tryd.prog W "internal/strconv.uint64pow10" .u64 Lib.pow10Tab := by
    unfold laidL at h1
    rw [tabE] at h1
    exact Lib.tabIs_of_head gTab tTab Tryd.underlying128 Tryd.underlying37 cells37 cells128 h1
  obtain ⟨a1, s1, hv1, _⟩ := laid_sentinel h2 gRng tRng Tryd.underlying77 row133 Tryd.underlying133 Tryd.underlying135 rfl rfl Tryd.underlying9 cells135 cells9
  obtain ⟨a2, s2, hv2, _⟩ := laid_sentinel h3 gSyn tSyn Tryd.underlying77 row133 Tryd.underlying133 Tryd.underlying135 rfl rfl Tryd.underlying9 cells135 cells9
  exact ⟨fun w hw => var_of gTab htab hw, ⟨_, _, fun w hw => var_of gSyn hv2 hw⟩, ⟨_, _, fun w hw => var_of gRng hv1 hw⟩⟩

end Go.Am.V
