/-
  Arguments opened: a slice of strings, a slice of bools.
-/
import Derived.Test.YtnicmdlicbnlgaaGreatDoorZe
import Derived.Deep.Slices
namespace Go.Proofs.YtnicmdlicbnlgaaGreatDoor
open Go.RowKit Go.ChangeShapes Go.WideShapes Go.ChangeAt Go.Joins Go.Deep
set_option linter.unusedVariables false

theorem cells_str : Tryz.prog.cellsOf 9 = 1 := by kernel_rfl
theorem cells_bool : Tryz.prog.cellsOf 4 = 1 := by kernel_rfl
theorem sum_bulk {H : Type} (D : Nat → DataW H) (l : List ByteArray) : ∀ (k : Nat), (∀ i (h : i < l.length), l[i].size ≤ Rows.uptoBulk (D (k + i))) → (l.map (·.size)).sum ≤ Rows.uptoBulkAll ((List.range l.length).map fun i => D (k + i)) := by
  induction l with
  | nil => intro k _; simp
  | cons x t ih =>
    intro k h
    have h1 := ih (k + 1) (fun i hi => by
      have := h (i + 1) (by simpa using hi)
      rw [show k + 1 + i = k + (i + 1) by omega]
      simpa using this)
    have h0 := h 0 (by simp)
    rw [List.map_cons, List.sum_cons, List.length_cons, List.range_succ_eq_map, List.map_cons, List.map_map, bulk_cons]
    have e : ((fun i => D (k + i)) ∘ Nat.succ) = fun i => D (k + 1 + i) := by funext i; simp only [Function.comp]; congr 1; omega
    rw [e]
    simp only [Nat.add_zero, List.getElem_cons_zero] at h0 ⊢
    omega
set_option maxRecDepth 100000 in
theorem open_strs1 {H : Type} {enc : TypeId × Value → H} {W : World} {r : Reach} {b0 : Nat} {spare : Nat → Bool} {held : Bool} {v : Value} {d : DataW H} {p : List MemPlace}
    (hv : Value.okWide Tryz.prog W r b0 22 v) (h : DataW.Trod enc Tryz.prog W 0 spare held 22 v d p) :
    ∃ (a : Option Addr) (g off n cap : Nat) (l : List ByteArray), v = .slice a n cap ∧ l.length = n ∧ (0 < n → a = some ⟨g, off, none⟩) ∧ (∀ i (h : i < l.length), W.cell? ⟨g, off + i, none⟩ = some (.string l[i])) ∧ (l.map (·.size)).sum ≤ Rows.uptoBulk d ∧ n ≤ Rows.uptoBulk d := by
  obtain ⟨a0, len0, cap0, rfl⟩ := okWide_slice (P := Tryz.prog) Tryz.underlying22 hv
  obtain ⟨fuel, hf⟩ := h
  rcases open_slice1 (P := Tryz.prog) Tryz.underlying22 cells_str hf with ⟨hcs, _⟩ | ⟨a, len, cap, m, n, V, D, Pl, hcs, -, hl, -, hm, hx, hcell⟩
  · simp [Value.cells] at hcs
    obtain ⟨rfl, rfl, rfl⟩ := hcs
    exact ⟨none, 0, 0, 0, 0, [], rfl, rfl, fun h => absurd h (by omega), fun i h => by simp at h, by simp, by omega⟩
  · simp [Value.cells] at hcs
    obtain ⟨rfl, rfl, rfl⟩ := hcs
    have hlm : len0 ≤ m := by rw [hm]; split <;> omega
    have one : ∀ i, i < len0 → ∃ s : ByteArray, V i = .string s ∧ D i = .lit (.string s.data.toList) := fun i hi => by
      obtain ⟨s, h1, h2, _⟩ := DataW.trod_string Tryz.underlying9 (hcell i (by omega)).2
      simp only [List.cons.injEq, and_true] at h1
      simp only [Prod.mk.injEq] at h2
      exact ⟨s, h1, h2.1⟩
    obtain ⟨F, hF⟩ : ∃ F : Nat → ByteArray, ∀ i, i < len0 → V i = .string (F i) ∧ D i = .lit (.string (F i).data.toList) :=
      ⟨fun i => if hi : i < len0 then Classical.choose (one i hi) else ⟨#[]⟩, fun i hi => by simp only [hi, dif_pos]; exact Classical.choose_spec (one i hi)⟩
    simp only [Prod.mk.injEq] at hx
    have hbulk : Rows.uptoBulkAll ((List.range len0).map D) ≤ Rows.uptoBulk d := by rw [hx.1, bulk_slice]; omega
    have hcount := bulk_count ((List.range len0).map D)
    have hs := sum_bulk D ((List.range len0).map F) 0 (fun i hi => by
      have hi' : i < len0 := by simpa using hi
      simp only [List.getElem_map, List.getElem_range, Nat.zero_add]
      rw [(hF i hi').2, bulk_str]
      omega)
    simp only [List.length_map, List.length_range, Nat.zero_add] at hs hcount
    replace hs : (((List.range len0).map F).map (·.size)).sum ≤ Rows.uptoBulkAll ((List.range len0).map D) := hs
    rcases Nat.eq_zero_or_pos len0 with h0 | h0
    · subst h0
      exact ⟨some a, 0, 0, 0, cap0, [], rfl, rfl, fun h => absurd h (by omega), fun i h => by simp at h, by simp, by omega⟩
    · have hp : a = ⟨a.block, a.off, none⟩ := Lib.plain_of_cell (by have := (hcell 0 (by omega)).1; simpa [Addr.add] using this)
      refine ⟨some a, a.block, a.off, len0, cap0, (List.range len0).map F, rfl, by simp, fun _ => by rw [← hp], fun i hi => ?_, by omega, by omega⟩
      have hi' : i < len0 := by simpa using hi
      have := (hcell i (by omega)).1
      rw [hp, Addr.add_lit, (hF i hi').1] at this
      rw [this]
      simp
set_option maxRecDepth 100000 in
theorem open_bools1 {H : Type} {enc : TypeId × Value → H} {W : World} {r : Reach} {b0 : Nat} {spare : Nat → Bool} {held : Bool} {v : Value} {d : DataW H} {p : List MemPlace}
    (hv : Value.okWide Tryz.prog W r b0 23 v) (h : DataW.Trod enc Tryz.prog W 0 spare held 23 v d p) :
    ∃ (a : Option Addr) (g off n cap : Nat) (l : List Bool), v = .slice a n cap ∧ l.length = n ∧ (0 < n → a = some ⟨g, off, none⟩) ∧ (∀ i (h : i < l.length), W.cell? ⟨g, off + i, none⟩ = some (.bool l[i])) ∧ n ≤ Rows.uptoBulk d := by
  obtain ⟨a0, len0, cap0, rfl⟩ := okWide_slice (P := Tryz.prog) Tryz.underlying23 hv
  obtain ⟨fuel, hf⟩ := h
  rcases open_slice1 (P := Tryz.prog) Tryz.underlying23 cells_bool hf with ⟨hcs, _⟩ | ⟨a, len, cap, m, n, V, D, Pl, hcs, -, hl, -, hm, hx, hcell⟩
  · simp [Value.cells] at hcs
    obtain ⟨rfl, rfl, rfl⟩ := hcs
    exact ⟨none, 0, 0, 0, 0, [], rfl, rfl, fun h => absurd h (by omega), fun i h => by simp at h, by omega⟩
  · simp [Value.cells] at hcs
    obtain ⟨rfl, rfl, rfl⟩ := hcs
    have hlm : len0 ≤ m := by rw [hm]; split <;> omega
    have one : ∀ i, i < len0 → ∃ s : Bool, V i = .bool s := fun i hi => by
      obtain ⟨s, h1, _⟩ := DataW.trod_bool Tryz.underlying4 (hcell i (by omega)).2
      simp only [List.cons.injEq, and_true] at h1
      exact ⟨s, h1⟩
    obtain ⟨F, hF⟩ : ∃ F : Nat → Bool, ∀ i, i < len0 → V i = .bool (F i) :=
      ⟨fun i => if hi : i < len0 then Classical.choose (one i hi) else false, fun i hi => by simp only [hi, dif_pos]; exact Classical.choose_spec (one i hi)⟩
    simp only [Prod.mk.injEq] at hx
    have hbulk : Rows.uptoBulkAll ((List.range len0).map D) ≤ Rows.uptoBulk d := by rw [hx.1, bulk_slice]; omega
    have hcount := bulk_count ((List.range len0).map D)
    simp only [List.length_map, List.length_range] at hcount
    rcases Nat.eq_zero_or_pos len0 with h0 | h0
    · subst h0
      exact ⟨some a, 0, 0, 0, cap0, [], rfl, rfl, fun h => absurd h (by omega), fun i h => by simp at h, by omega⟩
    · have hp : a = ⟨a.block, a.off, none⟩ := Lib.plain_of_cell (by have := (hcell 0 (by omega)).1; simpa [Addr.add] using this)
      refine ⟨some a, a.block, a.off, len0, cap0, (List.range len0).map F, rfl, by simp, fun _ => by rw [← hp], fun i hi => ?_, by omega⟩
      have hi' : i < len0 := by simpa using hi
      have := (hcell i (by omega)).1
      rw [hp, Addr.add_lit, hF i hi'] at this
      rw [this]
      simp
end Go.Proofs.YtnicmdlicbnlgaaGreatDoor
