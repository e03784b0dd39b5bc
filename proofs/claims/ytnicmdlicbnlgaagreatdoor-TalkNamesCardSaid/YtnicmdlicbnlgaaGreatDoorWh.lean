/-
  Walks: a reader gives a request out.
-/
import Derived.Test.YtnicmdlicbnlgaaGreatDoorRs
namespace Go.Proofs.YtnicmdlicbnlgaaGreatDoor
open Go.RowKit
set_option linter.unusedVariables false
set_option linter.unusedSimpArgs false

theorem Turned.alloc {N : Nat} {K : Nat → Prop} {w w' : World} (h : Turned N K w w') (hN : N ≤ w'.heap.size) (o : Obj) : Turned N K w (w'.alloc o) :=
  h.below ((Below.refl _ _).alloc hN o)
theorem Turned.drew {N : Nat} {K : Nat → Prop} {w w' : World} (h : Turned N K w w') : Turned N K w w'.drew := ⟨h.os, h.tape, h.output, h.size, h.block⟩
theorem Blk.alloc {w : World} {g : Nat} {t : TypeId} {cs : Array Value} (h : Blk w g t cs) (o : Obj) : Blk (w.alloc o) g t cs := (Below.heap_alloc w o g h.lt).trans h
theorem Turned.setR0 {N : Nat} {R : Nat} {w w' : World} (h : Turned N (fun k => k = R) w w') (i : Nat) (v : Value) : Turned N (fun k => k = R) w (w'.setCell ⟨R, i, none⟩ v) := h.set_ (.inl rfl) v
theorem whole_cells (s : RS) (bv hv yv : Value) (wr used taken u : Int) :
    ((((((((((((((((((rdCells s bv hv yv wr used taken).setIfInBounds 14 (.int .i64 u)).setIfInBounds 0 (.bool true)).setIfInBounds 1 bv).setIfInBounds 2 (.int .i64 0)).setIfInBounds 3 (.string ⟨#[]⟩)).setIfInBounds 4 (.string ⟨#[]⟩)).setIfInBounds 5 (.slice none 0 0)).setIfInBounds 6 (.string ⟨#[]⟩)).setIfInBounds 7 (.bool false)).setIfInBounds 8 (.int .i64 0)).setIfInBounds 9 (.int .i64 1024)).setIfInBounds 10 (.int .i64 (-1))).setIfInBounds 11 (.bool false)).setIfInBounds 12 (.slice none 0 0)).setIfInBounds 13 (.int .i64 0)).setIfInBounds 14 (.int .i64 u)).setIfInBounds 15 (.int .i64 0)) = rdCells RS.init bv (.slice none 0 0) (.slice none 0 0) 0 u 0 := by
  simp [rdCells, RS.init]
theorem Blk.drew {w : World} {g : Nat} {t : TypeId} {cs : Array Value} (h : Blk w g t cs) : Blk w.drew g t cs := h
/-- What giving out leaves. -/
def WholePost (w : World) (R : Nat) (s : RS) (bv hv : Value) (used taken : Int) (en : Ending) (w' : World) : Prop :=
  en = .returned (.agg #[.string s.m, .string s.p, hv, .string ⟨s.body.toArray⟩, .bool s.close]) ∧ Turned w.heap.size (fun k => k = R) w w' ∧
    Blk w' R 50 (rdCells RS.init bv (.slice none 0 0) (.slice none 0 0) 0 (used + taken) 0)
set_option maxRecDepth 100000 in
set_option maxHeartbeats 3200000 in
theorem rk_whole (N : Nat) (K : Nat → Prop) (R : Nat) (fed : Bool) (s : RS) (b : List UInt8) (bv hv yv : Value) (used taken : Int) (w : World) (h : RdAt N K w R fed s b bv hv yv 0 used taken)
    (h0 : 0 ≤ taken) (hT : taken ≤ 1000000000) (hu : 0 ≤ used) (hU : used ≤ 1000000000) :
    Calls Tryz.prog 44 #[.pointer (some ⟨R, 0, none⟩)] w (WholePost w R s bv hv used taken) := by
  have hst : ∀ o1 o2, (convert 48 9 yv).run Tryz.prog ((w.alloc o1).alloc o2) = .ok (.string ⟨s.body.toArray⟩) ((w.alloc o1).alloc o2) := fun o1 o2 =>
    own_string ((h.body.alloc o1).alloc o2) 9 Tryz.underlying9
  obtain ⟨A, cap, hbv, hcap, -⟩ := h.bytes
  subst hbv
  obtain ⟨Hv, ch, hhv⟩ := own_slice h.heads
  subst hhv
  have c0 : w.cell? ⟨R, 0, none⟩ = some (.bool true) := h.blk.cell 0
  have c1 : w.cell? ⟨R, 1, none⟩ = some (.slice A b.length cap) := h.blk.cell 1
  have c2 : w.cell? ⟨R, 2, none⟩ = some (.int .i64 (s.state : Int)) := h.blk.cell 2
  have c3 : w.cell? ⟨R, 3, none⟩ = some (.string s.m) := h.blk.cell 3
  have c4 : w.cell? ⟨R, 4, none⟩ = some (.string s.p) := h.blk.cell 4
  have c5 : w.cell? ⟨R, 5, none⟩ = some (.slice Hv s.hs.length ch) := h.blk.cell 5
  have c6 : w.cell? ⟨R, 6, none⟩ = some (.string ⟨#[]⟩) := h.blk.cell 6
  have c7 : w.cell? ⟨R, 7, none⟩ = some (.bool s.close) := h.blk.cell 7
  have c8 : w.cell? ⟨R, 8, none⟩ = some (.int .i64 (s.many : Int)) := h.blk.cell 8
  have c9 : w.cell? ⟨R, 9, none⟩ = some (.int .i64 (s.left : Int)) := h.blk.cell 9
  have c10 : w.cell? ⟨R, 10, none⟩ = some (.int .i64 s.long) := h.blk.cell 10
  have c11 : w.cell? ⟨R, 11, none⟩ = some (.bool s.chunks) := h.blk.cell 11
  have c12 : w.cell? ⟨R, 12, none⟩ = some yv := h.blk.cell 12
  have c13 : w.cell? ⟨R, 13, none⟩ = some (.int .i64 0) := h.blk.cell 13
  have c14 : w.cell? ⟨R, 14, none⟩ = some (.int .i64 used) := h.blk.cell 14
  have c15 : w.cell? ⟨R, 15, none⟩ = some (.int .i64 taken) := h.blk.cell 15
  have fr : ∀ i, w.frozen? ⟨R, i, none⟩ = false := h.blk.frozen
  have hRlt : R < w.heap.size := h.blk.lt
  have H := Lib.hid h; clear h
  generalize hQ : WholePost w R s (.slice A b.length cap) (.slice Hv s.hs.length ch) used taken = Q
  have HQ := Lib.hid hQ; clear hQ
  go_enter Tryz.func44, Tryz.ntmps44
  go_wp2_with fail
  go_region
  all_goals go_wp2_with fail
  all_goals go_region
  all_goals go_wp2_with fail
  have hB := H.out.blk
  refine bodyPost_ret (v := .agg #[.string s.m, .string s.p, .slice Hv s.hs.length ch, .string ⟨s.body.toArray⟩, .bool s.close]) (by simp [results, Tryz.results44, go_sem]) rfl ?_
  rw [← HQ.out]
  refine ⟨rfl, ?_, ?_⟩
  · refine Turned.drew (Turned.drew (Turned.alloc (Turned.alloc ?_ ?_ _) ?_ _))
    · iterate 17 refine Turned.setR0 ?_ _ _
      exact Turned.refl _ _ _
    · simp
    · simp
  · refine Blk.drew (Blk.drew (Blk.alloc (Blk.alloc ?_ _) _))
    have := ((((((((((((((((hB.set_ 14 (.int .i64 (used + taken))).set_ 0 (.bool true)).set_ 1 (.slice A b.length cap)).set_ 2 (.int .i64 0)).set_ 3 (.string ⟨#[]⟩)).set_ 4 (.string ⟨#[]⟩)).set_ 5 (.slice none 0 0)).set_ 6 (.string ⟨#[]⟩)).set_ 7 (.bool false)).set_ 8 (.int .i64 0)).set_ 9 (.int .i64 1024)).set_ 10 (.int .i64 (-1))).set_ 11 (.bool false)).set_ 12 (.slice none 0 0)).set_ 13 (.int .i64 0)).set_ 14 (.int .i64 (used + taken))).set_ 15 (.int .i64 0)
    rw [whole_cells] at this
    exact this
end Go.Proofs.YtnicmdlicbnlgaaGreatDoor
