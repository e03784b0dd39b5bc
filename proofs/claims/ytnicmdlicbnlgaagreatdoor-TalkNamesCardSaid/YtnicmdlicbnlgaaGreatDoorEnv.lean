/-
  What the library's own variables hold, and that it stays while only new memory is written.
-/
import Derived.Test.YtnicmdlicbnlgaaGreatDoorProg
import Derived.WalkKit
import Derived.Lib.LaidTab
import Derived.Lib.ItoaNum
import Derived.WalkSmall
import Derived.Shelf.Strings.CaseAny
import Derived.Lib.Hide
namespace Go.Proofs.YtnicmdlicbnlgaaGreatDoor
open Go.RowKit
set_option linter.unusedVariables false

/-- The variables of Go's library that the calls read: as they were laid. -/
structure Env (w : World) : Prop where
  cases : Lib.CaseVar 1 Lib.caseA w
  utf : Lib.Utf8Tabs 2 3 w
  pow : Lib.TabIs Tryz.prog w "internal/strconv.uint64pow10" .u64 Lib.pow10Tab
  most : ∃ m, w.cell? ⟨0, 0, none⟩ = some (.int .i64 m)

theorem lt_of_cell {w : World} {a : Addr} {v : Value} (h : w.cell? a = some v) : a.block < w.heap.size := by
  unfold World.cell? at h
  by_cases hb : a.block < w.heap.size
  · exact hb
  · rw [Array.getElem?_eq_none (by omega)] at h
    cases h
theorem Env.below {w w' : World} (h : Env w) (hb : Below w.heap.size w w') : Env w' := by
  obtain ⟨h1, h2, h3, ⟨m, h4⟩⟩ := h
  exact ⟨Lib.CaseVar_below h1 hb, Proofs.Utf8Tabs_below h2 hb, var?_below hb (g := 4) (by kernel_rfl) (lt_of_cell (Lib.TabIs.cell h3 (g := 4) (by kernel_rfl) 0 (by decide))) h3, ⟨m, (hb.cell (p := ⟨0, 0, none⟩) (lt_of_cell h4)).trans h4⟩⟩

theorem cell_old (w : World) (o : Obj) (a : Addr) (h : a.block < w.heap.size) : (w.alloc o).cell? a = w.cell? a :=
  World.cell?_of_block (w := w) (Below.heap_alloc w o a.block h)
theorem cell_new (w : World) (cs : Array Value) (t : TypeId) (fz : Nat × Nat) (off : Nat) : (w.alloc (.cells cs t fz)).cell? ⟨w.heap.size, off, none⟩ = cs[off]? := by
  have : (w.alloc (.cells cs t fz)).heap[w.heap.size]? = some (.cells cs t fz) := by
    show (w.heap.push _)[w.heap.size]? = _
    simp
  unfold World.cell?
  rw [this]
  rfl
theorem bl_alloc {w a : World} (h : Below w.heap.size w a) (o : Obj) : Below w.heap.size w (a.alloc o) := h.alloc h.size o
theorem bl_drew {w a : World} (h : Below w.heap.size w a) (n : Nat) : Below w.heap.size w (a.drewN n) := h.trans ⟨rfl, rfl, rfl, Nat.le_refl _, fun _ _ => rfl⟩
theorem bl_trans {w a b : World} (h : Below w.heap.size w a) (k : Below a.heap.size a b) : Below w.heap.size w b := h.trans (k.mono h.size)
theorem ret_bool {a b : Bool} (h : a = b) : Ending.returned (.bool a) = .returned (.bool b) := by rw [h]
theorem ret_int {k : IntKind} {a b : Int} (h : a = b) : Ending.returned (.int k a) = .returned (.int k b) := by rw [h]
theorem ret_str {a b : ByteArray} (h : a = b) : Ending.returned (.string a) = .returned (.string b) := by rw [h]
theorem ret_two {k : IntKind} {s : ByteArray} {n : Int} {p : List UInt8 × Int} (h : (s, n) = (⟨p.1.toArray⟩, p.2)) : Ending.returned (.tuple #[.string s, .int k n]) = .returned (.tuple #[.string ⟨p.1.toArray⟩, .int k p.2]) := by cases h; rfl
theorem iterPos_of {w : World} {k : Nat} {s : ByteArray} {p : Nat} (h : w.heap[k]? = some (.stringIter s p)) : w.iterPos k = p := by simp [World.iterPos, h]
end Go.Proofs.YtnicmdlicbnlgaaGreatDoor
