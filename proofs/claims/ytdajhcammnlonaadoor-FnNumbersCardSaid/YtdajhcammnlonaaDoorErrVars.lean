/- The two errors of the library, out of what a row lays. -/
import Derived.Test.YtdajhcammnlonaaDoorReadDecI
import Derived.Test.YtdajhcammnlonaaDoorRows
import Derived.Stop.LaidErr
namespace Go.Proofs.YtdajhcammnlonaaDoor
open Go.RowKit Go.ChangeShapes
set_option linter.unusedVariables false
theorem err_star : "*" ++ "errors.errorString" = "*errors.errorString" := by decide
theorem err_row (u : TypeId) (h : Tryd.prog.typeName? 3 u = some "*errors.errorString") : u = 119 :=
  typeName_ptr_named (nm := "errors.errorString") (by rw [err_star]; kernel_rfl) (by kernel_rfl) (by decide) u (by rw [err_star]; exact h)
theorem err_syn {r : List (String × DataW Unit)} {W : World} (h : laidMet Tryd.prog (("strconv.ErrSyntax", Rows.laid_strconv_ErrSyntax) :: r) W) : ∃ tp p, W.var? Tryd.prog "strconv.ErrSyntax" = some #[.iface tp p] := by
  obtain ⟨a0, s0, hv0, -, -, -⟩ := laid_sentinel (te := 121) h (by kernel_rfl : Tryd.prog.globalNamed "strconv.ErrSyntax" = some 4) (by kernel_rfl : (Tryd.prog.globals[4]?).map (·.type) = some 73) Tryd.underlying73 err_row Tryd.underlying119 Tryd.underlying121 rfl rfl Tryd.underlying9 (by kernel_rfl) (by kernel_rfl)
  exact ⟨_, _, hv0⟩
theorem err_rng {r : List (String × DataW Unit)} {W : World} (h : laidMet Tryd.prog (("strconv.ErrRange", Rows.laid_strconv_ErrRange) :: r) W) : ∃ tp p, W.var? Tryd.prog "strconv.ErrRange" = some #[.iface tp p] := by
  obtain ⟨a0, s0, hv0, -, -, -⟩ := laid_sentinel (te := 121) h (by kernel_rfl : Tryd.prog.globalNamed "strconv.ErrRange" = some 5) (by kernel_rfl : (Tryd.prog.globals[5]?).map (·.type) = some 73) Tryd.underlying73 err_row Tryd.underlying119 Tryd.underlying121 rfl rfl Tryd.underlying9 (by kernel_rfl) (by kernel_rfl)
  exact ⟨_, _, hv0⟩
end Go.Proofs.YtdajhcammnlonaaDoor
