/- What the row's laid condition says of the library's tables and errors. -/
import Derived.Test.YtedfmjijemcpaaaDoorRow
import Derived.Test.YtedfmjijemcpaaaDoorPsJ
import Derived.Lib.LaidTab
import Derived.Stop.LaidErr
import Derived.LaidMore
import Derived.Lay
import Derived.Stop.Joined
namespace Go.Proofs.YtedfmjijemcpaaaDoor
open Go.ChangeShapes Go.WideShapes Go.ChangeAt Go.RowKit Go.Joins

theorem PW.of_laid {w : World} (h : laidMetH Tryd.prog Rows.fnExactParseMeterRow.laid w) : PW w := by
  rw [MakeChecks.laidMetH_plain _ _ _ (by kernel_rfl)] at h
  have h3 := h.tail.tail
  have e : Rows.laid_internal_strconv_uint64pow10 = (Lib.tabData .u64 Lib.pow10Tab : DataW Unit) := by kernel_rfl
  have h5 := h3.tail.tail
  have h6 := h5.tail
  have star : "*" ++ "errors.errorString" = "*errors.errorString" := by decide
  have hrow : ∀ u, Tryd.prog.typeName? 3 u = some "*errors.errorString" → u = 101 := fun u hu =>
    typeName_ptr_named (nm := "errors.errorString") (by rw [star]; kernel_rfl) (by kernel_rfl) (by decide) u (by rw [star]; exact hu)
  refine ⟨?_, ?_, ?_⟩
  · exact Lib.tabIs_of_head (g := 5) (by kernel_rfl) (by kernel_rfl) Tryd.underlying97 Tryd.underlying85 (by kernel_rfl) (by kernel_rfl) (e ▸ h3)
  · obtain ⟨a, s, hv, _⟩ := laid_sentinel h6 (g := 3) (ti := 52) (by kernel_rfl) (by kernel_rfl) Tryd.underlying52 hrow Tryd.underlying101 Tryd.underlying103 rfl rfl Tryd.underlying9 (by kernel_rfl) (by kernel_rfl)
    exact ⟨_, _, hv⟩
  · obtain ⟨a, s, hv, _⟩ := laid_sentinel h5 (g := 4) (ti := 52) (by kernel_rfl) (by kernel_rfl) Tryd.underlying52 hrow Tryd.underlying101 Tryd.underlying103 rfl rfl Tryd.underlying9 (by kernel_rfl) (by kernel_rfl)
    exact ⟨_, _, hv⟩
end Go.Proofs.YtedfmjijemcpaaaDoor
