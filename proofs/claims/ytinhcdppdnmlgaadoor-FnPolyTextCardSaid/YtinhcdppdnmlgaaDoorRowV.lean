/- What a row lays gives the walk: the error of Go's library that a failed Atoi bears. -/
import Derived.Test.YtinhcdppdnmlgaaDoorRowT
import Derived.Test.YtinhcdppdnmlgaaDoorTxG
import Derived.Stop.LaidErr
namespace Go.Proofs.YtinhcdppdnmlgaaDoor
open Go Go.RowKit Go.ChangeShapes

theorem err_star : "*" ++ "errors.errorString" = "*errors.errorString" := by decide
theorem err_row (u : TypeId) (h : Tryd.prog.typeName? 3 u = some "*errors.errorString") : u = 121 :=
  typeName_ptr_named (nm := "errors.errorString") (by rw [err_star]; kernel_rfl) (by kernel_rfl) (by decide) u (by rw [err_star]; exact h)
theorem err_of_laid {rest : List (String × DataW Unit)} {W : World} (h : laidMet Tryd.prog (("strconv.ErrSyntax", Rows.laid_strconv_ErrSyntax) :: rest) W) : ErrV W := by
  obtain ⟨a, s, hv, _⟩ := laid_sentinel (r := rest) (ti := 70) (g := 1) h (by kernel_rfl) (by kernel_rfl) Tryd.underlying70 err_row Tryd.underlying121 Tryd.underlying123 rfl rfl Tryd.underlying9 (by kernel_rfl) (by kernel_rfl)
  exact ⟨_, _, hv⟩

end Go.Proofs.YtinhcdppdnmlgaaDoor
