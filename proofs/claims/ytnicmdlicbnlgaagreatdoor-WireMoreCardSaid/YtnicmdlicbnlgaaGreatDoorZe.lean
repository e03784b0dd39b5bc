/-
  What the row's list gives of the error that strconv hands out.
-/
import Derived.Test.YtnicmdlicbnlgaaGreatDoorRow
import Derived.Test.YtnicmdlicbnlgaaGreatDoorRn
import Derived.Stop.LaidErr
namespace Go.Proofs.YtnicmdlicbnlgaaGreatDoor
open Go.RowKit Go.ChangeShapes Go.WideShapes Go.ChangeAt Go.Joins Go.Deep
set_option linter.unusedVariables false

theorem star : "*" ++ "errors.errorString" = "*errors.errorString" := by decide
theorem rowErr (u : TypeId) (h : Tryz.prog.typeName? 3 u = some "*errors.errorString") : u = 204 :=
  typeName_ptr_named (P := Tryz.prog) (nm := "errors.errorString") (by rw [star]; kernel_rfl) (by kernel_rfl) (by decide) u (by rw [star]; exact h)
theorem syn_of {W : World} {r : List (String × DataW Unit)} (h : laidMet Tryz.prog (("strconv.ErrSyntax", (Rows.laid_strconv_ErrSyntax : DataW Unit)) :: r) W) : ∃ te pe, W.cell? ⟨5, 0, none⟩ = some (.iface te pe) := by
  obtain ⟨a, s, hv, _, _, _⟩ := laid_sentinel (g := 5) (ti := 97) (tp := 204) (te := 206) (ts := 9) h (by kernel_rfl) (by kernel_rfl) Tryz.underlying97 rowErr Tryz.underlying204 Tryz.underlying206 rfl rfl Tryz.underlying9 (by kernel_rfl) (by kernel_rfl)
  exact ⟨_, _, by simpa using World.var?_cell (g := 5) (by kernel_rfl) hv 0⟩
end Go.Proofs.YtnicmdlicbnlgaaGreatDoor
