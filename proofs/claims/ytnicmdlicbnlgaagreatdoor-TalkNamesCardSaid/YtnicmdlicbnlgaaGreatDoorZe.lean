/-
  What the row's list gives of the error that strconv hands out.
-/
import Derived.Test.YtnicmdlicbnlgaaGreatDoorRow
import Derived.Test.YtnicmdlicbnlgaaGreatDoorRn
import Derived.Stop.LaidErr
namespace Go.Proofs.YtnicmdlicbnlgaaGreatDoor
open Go.RowKit Go.ChangeShapes Go.WideShapes Go.ChangeAt Go.Joins Go.Deep
set_option linter.unusedVariables false

theorem star : "*" ++ "errors.errorString" = "*errors.errorString" := by decide
theorem rowErr (u : TypeId) (h : Tryz.prog.typeName? 3 u = some "*errors.errorString") : u = 204 :=
  typeName_ptr_named (P := Tryz.prog) (nm := "errors.errorString") (by rw [star]; kernel_rfl) (by kernel_rfl) (by decide) u (by rw [star]; exact h)
theorem syn_of {W : World} {r : List (String × DataW Unit)} (h : laidMet Tryz.prog (("strconv.ErrSyntax", (Rows.laid_strconv_ErrSyntax : DataW Unit)) :: r) W) : ∃ te pe, W.cell? ⟨5, 0, none⟩ = some (.iface te pe) := by
  obtain ⟨a, s, hv, _, _, _⟩ := laid_sentinel (g := 5) (ti := 97) (tp := 204) (te := 206) (ts := 9) h (by kernel_rfl) (by kernel_rfl) Tryz.underlying97 rowErr Tryz.underlying204 Tryz.underlying206 rfl rfl Tryz.underlying9 (by kernel_rfl) (by kernel_rfl)
  exact ⟨_, _, by simpa using World.var?_cell (g := 5) (by kernel_rfl) hv 0⟩
set_option maxRecDepth 100000 in
theorem open_cuts {H : Type} {enc : TypeId × Value → H} {W : World} {r : Reach} {b0 : Nat} {spare : Nat → Bool} {held : Bool} {v : Value} {d : DataW H} {p : List MemPlace}
    (hv : Value.okWide Tryz.prog W r b0 44 v) (h : DataW.Trod enc Tryz.prog W 0 spare held 44 v d p) :
    ∃ (a : Option Addr) (g off n cap : Nat) (zs : List Int), v = .slice a n cap ∧ zs.length = n ∧ (0 < n → a = some ⟨g, off, none⟩) ∧ ∀ i (h : i < zs.length), W.cell? ⟨g, off + i, none⟩ = some (.int .i64 zs[i]) := by
  obtain ⟨a0, len0, cap0, rfl⟩ := okWide_slice (P := Tryz.prog) Tryz.underlying44 hv
  obtain ⟨fuel, hf⟩ := h
  rcases open_ints (P := Tryz.prog) Tryz.underlying44 Tryz.underlying3 (by kernel_rfl) hf with ⟨hcs, _⟩ | ⟨a, len, cap, zs, hcs, -, hl, -, hz, -, hcell, -⟩
  · simp [Value.cells] at hcs
    obtain ⟨rfl, rfl, rfl⟩ := hcs
    exact ⟨none, 0, 0, 0, 0, [], rfl, rfl, fun h => absurd h (by omega), fun i h => by simp at h⟩
  · simp [Value.cells] at hcs
    obtain ⟨rfl, rfl, rfl⟩ := hcs
    have hlz : len0 ≤ zs.length := by rw [hz]; split <;> omega
    rcases Nat.eq_zero_or_pos len0 with h0 | h0
    · subst h0
      exact ⟨some a, 0, 0, 0, cap0, [], rfl, rfl, fun h => absurd h (by omega), fun i h => by simp at h⟩
    · have hp : a = ⟨a.block, a.off, none⟩ := Lib.plain_of_cell (by simpa [Addr.add] using hcell 0 (by omega))
      refine ⟨some a, a.block, a.off, len0, cap0, zs.take len0, rfl, by simp; omega, fun _ => by rw [← hp], fun i hi => ?_⟩
      have hi' : i < len0 := by rw [List.length_take] at hi; omega
      have := hcell i (by omega)
      rw [hp, Addr.add_lit] at this
      rw [this]
      simp [List.getD, show i < zs.length by omega]
end Go.Proofs.YtnicmdlicbnlgaaGreatDoor
