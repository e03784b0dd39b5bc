/-
  Walks: Reason and Answer, of wire and of the reference.
-/
import Derived.Test.YtnicmdlicbnlgaaGreatDoorMem
import Derived.Test.YtnicmdlicbnlgaaGreatDoorShelf
import Derived.Test.YtnicmdlicbnlgaaGreatDoorRf2
import Derived.WalkKit
import Derived.WalkSpells
import Derived.WalkLawsBesides
import Derived.BigQuiet
import Derived.Deep.QuietTactic
import Derived.Lib.Hide
namespace Go.Proofs.YtnicmdlicbnlgaaGreatDoor
open Go.RowKit
set_option linter.unusedVariables false
set_option linter.unusedSimpArgs false

def reasonB (c : Int) : List UInt8 :=
  if c = 200 then [79, 75]
  else if c = 400 then [66, 97, 100, 32, 82, 101, 113, 117, 101, 115, 116]
  else if c = 401 then [85, 110, 97, 117, 116, 104, 111, 114, 105, 122, 101, 100]
  else if c = 403 then [70, 111, 114, 98, 105, 100, 100, 101, 110]
  else if c = 404 then [78, 111, 116, 32, 70, 111, 117, 110, 100]
  else if c = 405 then [77, 101, 116, 104, 111, 100, 32, 78, 111, 116, 32, 65, 108, 108, 111, 119, 101, 100]
  else if c = 409 then [67, 111, 110, 102, 108, 105, 99, 116]
  else if c = 413 then [67, 111, 110, 116, 101, 110, 116, 32, 84, 111, 111, 32, 76, 97, 114, 103, 101]
  else if c = 431 then [82, 101, 113, 117, 101, 115, 116, 32, 72, 101, 97, 100, 101, 114, 32, 70, 105, 101, 108, 100, 115, 32, 84, 111, 111, 32, 76, 97, 114, 103, 101]
  else if c = 507 then [73, 110, 115, 117, 102, 102, 105, 99, 105, 101, 110, 116, 32, 83, 116, 111, 114, 97, 103, 101]
  else [85, 110, 107, 110, 111, 119, 110]
def reasonIs (c : Int) : Bool :=
  if c = 200 then true
  else if c = 400 then true
  else if c = 401 then true
  else if c = 403 then true
  else if c = 404 then true
  else if c = 405 then true
  else if c = 409 then true
  else if c = 413 then true
  else if c = 431 then true
  else if c = 507 then true
  else false
def reasonS (c : Int) : ByteArray := if reasonIs c then ⟨(reasonB c).toArray⟩ else ⟨#[]⟩

set_option maxRecDepth 100000 in
set_option maxHeartbeats 1000000 in
theorem rf_Reason (c : Int) (w : World) : Calls Tryz.prog 88 #[.int .i64 c] w fun e w' => e = .returned (.string ⟨(reasonB c).toArray⟩) ∧ w = w' := by
  by_cases h200 : c = 200
  · subst h200
    go_enter Tryz.func88, Tryz.ntmps88
    go_wp2
    go_ret
    exact ⟨rfl, rfl⟩
  have e200 : (c == 200) = false := by simpa using h200
  by_cases h400 : c = 400
  · subst h400
    go_enter Tryz.func88, Tryz.ntmps88
    go_wp2
    go_ret
    exact ⟨rfl, rfl⟩
  have e400 : (c == 400) = false := by simpa using h400
  by_cases h401 : c = 401
  · subst h401
    go_enter Tryz.func88, Tryz.ntmps88
    go_wp2
    go_ret
    exact ⟨rfl, rfl⟩
  have e401 : (c == 401) = false := by simpa using h401
  by_cases h403 : c = 403
  · subst h403
    go_enter Tryz.func88, Tryz.ntmps88
    go_wp2
    go_ret
    exact ⟨rfl, rfl⟩
  have e403 : (c == 403) = false := by simpa using h403
  by_cases h404 : c = 404
  · subst h404
    go_enter Tryz.func88, Tryz.ntmps88
    go_wp2
    go_ret
    exact ⟨rfl, rfl⟩
  have e404 : (c == 404) = false := by simpa using h404
  by_cases h405 : c = 405
  · subst h405
    go_enter Tryz.func88, Tryz.ntmps88
    go_wp2
    go_ret
    exact ⟨rfl, rfl⟩
  have e405 : (c == 405) = false := by simpa using h405
  by_cases h409 : c = 409
  · subst h409
    go_enter Tryz.func88, Tryz.ntmps88
    go_wp2
    go_ret
    exact ⟨rfl, rfl⟩
  have e409 : (c == 409) = false := by simpa using h409
  by_cases h413 : c = 413
  · subst h413
    go_enter Tryz.func88, Tryz.ntmps88
    go_wp2
    go_ret
    exact ⟨rfl, rfl⟩
  have e413 : (c == 413) = false := by simpa using h413
  by_cases h431 : c = 431
  · subst h431
    go_enter Tryz.func88, Tryz.ntmps88
    go_wp2
    go_ret
    exact ⟨rfl, rfl⟩
  have e431 : (c == 431) = false := by simpa using h431
  by_cases h507 : c = 507
  · subst h507
    go_enter Tryz.func88, Tryz.ntmps88
    go_wp2
    go_ret
    exact ⟨rfl, rfl⟩
  have e507 : (c == 507) = false := by simpa using h507
  have hr : reasonB c = [85, 110, 107, 110, 111, 119, 110] := by simp only [reasonB, h200, h400, h401, h403, h404, h405, h409, h413, h431, h507, if_false]
  have HR := Lib.hid hr; clear hr h200 h400 h401 h403 h404 h405 h409 h413 h431 h507
  go_enter Tryz.func88, Tryz.ntmps88
  go_wp2
  go_ret
  exact ⟨ret_str (by rw [HR.out]), rfl⟩

theorem heap_map (w : World) (es : Array MapEntry) (c : Nat) : (w.alloc (.map es c)).heap[w.heap.size]? = some (.map es c) := by
  show (w.heap.push _)[w.heap.size]? = _
  simp
theorem alloc_set (w : World) (o o' : Obj) : { w.alloc o with heap := (w.alloc o).heap.setIfInBounds w.heap.size o' } = w.alloc o' := by
  simp only [World.alloc]
  congr 1
  apply Array.ext'
  simp [Array.setIfInBounds, Array.toList_push]
theorem chk_int (b : Bool) (n : Nat) (k : IntKind) (z : Int) (w : World) : (Instr.checkKey b (n + 1) 3 (.int k z)).run Tryz.prog w = .ok () w := by
  rw [Instr.checkKey]
  have hk := run_underlying Tryz.underlying3
  simp [hk]
theorem chk_int' (b : Bool) (k : IntKind) (z : Int) (w : World) : (Instr.checkKey b 10000 3 (.int k z)).run Tryz.prog w = .ok () w := chk_int b 9999 k z w
theorem ins_run (w : World) (es : Array MapEntry) (c : Nat) (k : Int) (v : Value) (h : Instr.findNow (.int .i64) (.int .i64 k) es.toList 0 = some none) :
    (Instr.mapUpdate 89 (.map (some w.heap.size)) (.int .i64 k) v).run Tryz.prog (w.alloc (.map es c)) = .ok () (w.alloc (.map (es.push { key := .int .i64 k, val := v, born := c }) (c + 1))) := by
  have hu := run_underlying Tryz.underlying89
  have hk := run_underlying Tryz.underlying3
  unfold Instr.mapUpdate
  simp only [Sem.run_bind, hu, Result.andThen, getObj, Sem.run, heap_map, chk_int', Instr.findKey, hk, h, Sem.run_pure, setObj]
  congr 1
  exact alloc_set w _ _
theorem look_run (w : World) (c : Int) (es : Array MapEntry) (cl : Nat) (i : Nat) (v : Value) (h : Instr.findNow (.int .i64) (.int .i64 c) es.toList 0 = some (some (i, v))) :
    (Instr.lookup 89 (.map (some w.heap.size)) (.int .i64 c) true).run Tryz.prog (w.alloc (.map es cl)) = .ok (.tuple #[v, .bool true]) (w.alloc (.map es cl)) := by
  have hu := run_underlying Tryz.underlying89
  have hk := run_underlying Tryz.underlying3
  unfold Instr.lookup
  simp only [Sem.run_bind, hu, Result.andThen, getObj, Sem.run, heap_map, chk_int', Instr.findKey, hk, h, Sem.run_pure, Tryz.zeroValue9, if_true]
theorem look_none (w : World) (c : Int) (es : Array MapEntry) (cl : Nat) (h : Instr.findNow (.int .i64) (.int .i64 c) es.toList 0 = some none) :
    (Instr.lookup 89 (.map (some w.heap.size)) (.int .i64 c) true).run Tryz.prog (w.alloc (.map es cl)) = .ok (.tuple #[.string ⟨#[]⟩, .bool false]) (w.alloc (.map es cl)) := by
  have hu := run_underlying Tryz.underlying89
  have hk := run_underlying Tryz.underlying3
  unfold Instr.lookup
  simp only [Sem.run_bind, hu, Result.andThen, getObj, Sem.run, heap_map, chk_int', Instr.findKey, hk, h, Sem.run_pure, Tryz.zeroValue9, if_true]

def wordsE : Array MapEntry := #[{ key := .int .i64 200, val := .string ⟨#[79, 75]⟩, born := 0 }, { key := .int .i64 400, val := .string ⟨#[66, 97, 100, 32, 82, 101, 113, 117, 101, 115, 116]⟩, born := 1 }, { key := .int .i64 401, val := .string ⟨#[85, 110, 97, 117, 116, 104, 111, 114, 105, 122, 101, 100]⟩, born := 2 }, { key := .int .i64 403, val := .string ⟨#[70, 111, 114, 98, 105, 100, 100, 101, 110]⟩, born := 3 }, { key := .int .i64 404, val := .string ⟨#[78, 111, 116, 32, 70, 111, 117, 110, 100]⟩, born := 4 }, { key := .int .i64 405, val := .string ⟨#[77, 101, 116, 104, 111, 100, 32, 78, 111, 116, 32, 65, 108, 108, 111, 119, 101, 100]⟩, born := 5 }, { key := .int .i64 409, val := .string ⟨#[67, 111, 110, 102, 108, 105, 99, 116]⟩, born := 6 }, { key := .int .i64 413, val := .string ⟨#[67, 111, 110, 116, 101, 110, 116, 32, 84, 111, 111, 32, 76, 97, 114, 103, 101]⟩, born := 7 }, { key := .int .i64 431, val := .string ⟨#[82, 101, 113, 117, 101, 115, 116, 32, 72, 101, 97, 100, 101, 114, 32, 70, 105, 101, 108, 100, 115, 32, 84, 111, 111, 32, 76, 97, 114, 103, 101]⟩, born := 8 }, { key := .int .i64 507, val := .string ⟨#[73, 110, 115, 117, 102, 102, 105, 99, 105, 101, 110, 116, 32, 83, 116, 111, 114, 97, 103, 101]⟩, born := 9 }]
set_option maxRecDepth 100000 in
theorem words_find (c : Int) : (reasonIs c = true ∧ ∃ i, Instr.findNow (.int .i64) (.int .i64 c) wordsE.toList 0 = some (some (i, .string ⟨(reasonB c).toArray⟩))) ∨ (reasonIs c = false ∧ reasonB c = [85, 110, 107, 110, 111, 119, 110] ∧ Instr.findNow (.int .i64) (.int .i64 c) wordsE.toList 0 = some none) := by
  by_cases h200 : c = 200
  · subst h200; exact .inl ⟨rfl, 0, rfl⟩
  by_cases h400 : c = 400
  · subst h400; exact .inl ⟨rfl, 1, rfl⟩
  by_cases h401 : c = 401
  · subst h401; exact .inl ⟨rfl, 2, rfl⟩
  by_cases h403 : c = 403
  · subst h403; exact .inl ⟨rfl, 3, rfl⟩
  by_cases h404 : c = 404
  · subst h404; exact .inl ⟨rfl, 4, rfl⟩
  by_cases h405 : c = 405
  · subst h405; exact .inl ⟨rfl, 5, rfl⟩
  by_cases h409 : c = 409
  · subst h409; exact .inl ⟨rfl, 6, rfl⟩
  by_cases h413 : c = 413
  · subst h413; exact .inl ⟨rfl, 7, rfl⟩
  by_cases h431 : c = 431
  · subst h431; exact .inl ⟨rfl, 8, rfl⟩
  by_cases h507 : c = 507
  · subst h507; exact .inl ⟨rfl, 9, rfl⟩
  refine .inr ⟨by simp only [reasonIs, h200, h400, h401, h403, h404, h405, h409, h413, h431, h507, if_false], by simp only [reasonB, h200, h400, h401, h403, h404, h405, h409, h413, h431, h507, if_false], ?_⟩
  have e200 : (c == 200) = false := by simpa using h200
  have e400 : (c == 400) = false := by simpa using h400
  have e401 : (c == 401) = false := by simpa using h401
  have e403 : (c == 403) = false := by simpa using h403
  have e404 : (c == 404) = false := by simpa using h404
  have e405 : (c == 405) = false := by simpa using h405
  have e409 : (c == 409) = false := by simpa using h409
  have e413 : (c == 413) = false := by simpa using h413
  have e431 : (c == 431) = false := by simpa using h431
  have e507 : (c == 507) = false := by simpa using h507
  simp only [wordsE, Instr.findNow, Instr.sameNow, if_true, e200, e400, e401, e403, e404, e405, e409, e413, e431, e507]

set_option maxRecDepth 100000 in
set_option maxHeartbeats 1000000 in
theorem wr_Reason (c : Int) (w : World) : Calls Tryz.prog 23 #[.int .i64 c] w fun e w' => e = .returned (.string ⟨(reasonB c).toArray⟩) ∧ Below w.heap.size w w' := by
  have hmm := @run_makeMap Tryz.prog
  have i200 := ins_run w #[] 0 200 (.string ⟨#[79, 75]⟩) rfl
  have i400 := ins_run w #[{ key := .int .i64 200, val := .string ⟨#[79, 75]⟩, born := 0 }] 1 400 (.string ⟨#[66, 97, 100, 32, 82, 101, 113, 117, 101, 115, 116]⟩) rfl
  have i401 := ins_run w #[{ key := .int .i64 200, val := .string ⟨#[79, 75]⟩, born := 0 }, { key := .int .i64 400, val := .string ⟨#[66, 97, 100, 32, 82, 101, 113, 117, 101, 115, 116]⟩, born := 1 }] 2 401 (.string ⟨#[85, 110, 97, 117, 116, 104, 111, 114, 105, 122, 101, 100]⟩) rfl
  have i403 := ins_run w #[{ key := .int .i64 200, val := .string ⟨#[79, 75]⟩, born := 0 }, { key := .int .i64 400, val := .string ⟨#[66, 97, 100, 32, 82, 101, 113, 117, 101, 115, 116]⟩, born := 1 }, { key := .int .i64 401, val := .string ⟨#[85, 110, 97, 117, 116, 104, 111, 114, 105, 122, 101, 100]⟩, born := 2 }] 3 403 (.string ⟨#[70, 111, 114, 98, 105, 100, 100, 101, 110]⟩) rfl
  have i404 := ins_run w #[{ key := .int .i64 200, val := .string ⟨#[79, 75]⟩, born := 0 }, { key := .int .i64 400, val := .string ⟨#[66, 97, 100, 32, 82, 101, 113, 117, 101, 115, 116]⟩, born := 1 }, { key := .int .i64 401, val := .string ⟨#[85, 110, 97, 117, 116, 104, 111, 114, 105, 122, 101, 100]⟩, born := 2 }, { key := .int .i64 403, val := .string ⟨#[70, 111, 114, 98, 105, 100, 100, 101, 110]⟩, born := 3 }] 4 404 (.string ⟨#[78, 111, 116, 32, 70, 111, 117, 110, 100]⟩) rfl
  have i405 := ins_run w #[{ key := .int .i64 200, val := .string ⟨#[79, 75]⟩, born := 0 }, { key := .int .i64 400, val := .string ⟨#[66, 97, 100, 32, 82, 101, 113, 117, 101, 115, 116]⟩, born := 1 }, { key := .int .i64 401, val := .string ⟨#[85, 110, 97, 117, 116, 104, 111, 114, 105, 122, 101, 100]⟩, born := 2 }, { key := .int .i64 403, val := .string ⟨#[70, 111, 114, 98, 105, 100, 100, 101, 110]⟩, born := 3 }, { key := .int .i64 404, val := .string ⟨#[78, 111, 116, 32, 70, 111, 117, 110, 100]⟩, born := 4 }] 5 405 (.string ⟨#[77, 101, 116, 104, 111, 100, 32, 78, 111, 116, 32, 65, 108, 108, 111, 119, 101, 100]⟩) rfl
  have i409 := ins_run w #[{ key := .int .i64 200, val := .string ⟨#[79, 75]⟩, born := 0 }, { key := .int .i64 400, val := .string ⟨#[66, 97, 100, 32, 82, 101, 113, 117, 101, 115, 116]⟩, born := 1 }, { key := .int .i64 401, val := .string ⟨#[85, 110, 97, 117, 116, 104, 111, 114, 105, 122, 101, 100]⟩, born := 2 }, { key := .int .i64 403, val := .string ⟨#[70, 111, 114, 98, 105, 100, 100, 101, 110]⟩, born := 3 }, { key := .int .i64 404, val := .string ⟨#[78, 111, 116, 32, 70, 111, 117, 110, 100]⟩, born := 4 }, { key := .int .i64 405, val := .string ⟨#[77, 101, 116, 104, 111, 100, 32, 78, 111, 116, 32, 65, 108, 108, 111, 119, 101, 100]⟩, born := 5 }] 6 409 (.string ⟨#[67, 111, 110, 102, 108, 105, 99, 116]⟩) rfl
  have i413 := ins_run w #[{ key := .int .i64 200, val := .string ⟨#[79, 75]⟩, born := 0 }, { key := .int .i64 400, val := .string ⟨#[66, 97, 100, 32, 82, 101, 113, 117, 101, 115, 116]⟩, born := 1 }, { key := .int .i64 401, val := .string ⟨#[85, 110, 97, 117, 116, 104, 111, 114, 105, 122, 101, 100]⟩, born := 2 }, { key := .int .i64 403, val := .string ⟨#[70, 111, 114, 98, 105, 100, 100, 101, 110]⟩, born := 3 }, { key := .int .i64 404, val := .string ⟨#[78, 111, 116, 32, 70, 111, 117, 110, 100]⟩, born := 4 }, { key := .int .i64 405, val := .string ⟨#[77, 101, 116, 104, 111, 100, 32, 78, 111, 116, 32, 65, 108, 108, 111, 119, 101, 100]⟩, born := 5 }, { key := .int .i64 409, val := .string ⟨#[67, 111, 110, 102, 108, 105, 99, 116]⟩, born := 6 }] 7 413 (.string ⟨#[67, 111, 110, 116, 101, 110, 116, 32, 84, 111, 111, 32, 76, 97, 114, 103, 101]⟩) rfl
  have i431 := ins_run w #[{ key := .int .i64 200, val := .string ⟨#[79, 75]⟩, born := 0 }, { key := .int .i64 400, val := .string ⟨#[66, 97, 100, 32, 82, 101, 113, 117, 101, 115, 116]⟩, born := 1 }, { key := .int .i64 401, val := .string ⟨#[85, 110, 97, 117, 116, 104, 111, 114, 105, 122, 101, 100]⟩, born := 2 }, { key := .int .i64 403, val := .string ⟨#[70, 111, 114, 98, 105, 100, 100, 101, 110]⟩, born := 3 }, { key := .int .i64 404, val := .string ⟨#[78, 111, 116, 32, 70, 111, 117, 110, 100]⟩, born := 4 }, { key := .int .i64 405, val := .string ⟨#[77, 101, 116, 104, 111, 100, 32, 78, 111, 116, 32, 65, 108, 108, 111, 119, 101, 100]⟩, born := 5 }, { key := .int .i64 409, val := .string ⟨#[67, 111, 110, 102, 108, 105, 99, 116]⟩, born := 6 }, { key := .int .i64 413, val := .string ⟨#[67, 111, 110, 116, 101, 110, 116, 32, 84, 111, 111, 32, 76, 97, 114, 103, 101]⟩, born := 7 }] 8 431 (.string ⟨#[82, 101, 113, 117, 101, 115, 116, 32, 72, 101, 97, 100, 101, 114, 32, 70, 105, 101, 108, 100, 115, 32, 84, 111, 111, 32, 76, 97, 114, 103, 101]⟩) rfl
  have i507 := ins_run w #[{ key := .int .i64 200, val := .string ⟨#[79, 75]⟩, born := 0 }, { key := .int .i64 400, val := .string ⟨#[66, 97, 100, 32, 82, 101, 113, 117, 101, 115, 116]⟩, born := 1 }, { key := .int .i64 401, val := .string ⟨#[85, 110, 97, 117, 116, 104, 111, 114, 105, 122, 101, 100]⟩, born := 2 }, { key := .int .i64 403, val := .string ⟨#[70, 111, 114, 98, 105, 100, 100, 101, 110]⟩, born := 3 }, { key := .int .i64 404, val := .string ⟨#[78, 111, 116, 32, 70, 111, 117, 110, 100]⟩, born := 4 }, { key := .int .i64 405, val := .string ⟨#[77, 101, 116, 104, 111, 100, 32, 78, 111, 116, 32, 65, 108, 108, 111, 119, 101, 100]⟩, born := 5 }, { key := .int .i64 409, val := .string ⟨#[67, 111, 110, 102, 108, 105, 99, 116]⟩, born := 6 }, { key := .int .i64 413, val := .string ⟨#[67, 111, 110, 116, 101, 110, 116, 32, 84, 111, 111, 32, 76, 97, 114, 103, 101]⟩, born := 7 }, { key := .int .i64 431, val := .string ⟨#[82, 101, 113, 117, 101, 115, 116, 32, 72, 101, 97, 100, 101, 114, 32, 70, 105, 101, 108, 100, 115, 32, 84, 111, 111, 32, 76, 97, 114, 103, 101]⟩, born := 8 }] 9 507 (.string ⟨#[73, 110, 115, 117, 102, 102, 105, 99, 105, 101, 110, 116, 32, 83, 116, 111, 114, 97, 103, 101]⟩) rfl
  simp only [List.push_toArray, List.nil_append, List.cons_append, Nat.reduceAdd] at i200 i400 i401 i403 i404 i405 i409 i413 i431 i507
  rcases words_find c with ⟨h1, i, h2⟩ | ⟨h1, h3, h2⟩
  · have hl := look_run w c wordsE 10 i _ h2
    unfold wordsE at hl
    have H1 := Lib.hid h1; clear h1 h2
    go_enter Tryz.func23, Tryz.ntmps23
    go_wp2
    go_ret
    exact ⟨rfl, (bl_alloc (Below.refl _ _) _)⟩
  · have hl := look_none w c wordsE 10 h2
    unfold wordsE at hl
    have H1 := Lib.hid h1; clear h1 h2
    have H3 := Lib.hid h3; clear h3
    go_enter Tryz.func23, Tryz.ntmps23
    go_wp2
    go_ret
    exact ⟨ret_str (by rw [H3.out]), (bl_alloc (Below.refl _ _) _)⟩

def answerP (code : Int) (body : List UInt8) (last : Bool) : List UInt8 × Int :=
  if code < 200 || 599 < code then ([], 2) else if 1048576 < body.length then ([], 3)
  else ([72, 84, 84, 80, 47, 49, 46, 49, 32] ++ Lib.itoa code ++ [32] ++ reasonB code ++ [13, 10, 99, 111, 110, 116, 101, 110, 116, 45, 116, 121, 112, 101, 58, 32, 97, 112, 112, 108, 105, 99, 97, 116, 105, 111, 110, 47, 106, 115, 111, 110, 13, 10, 99, 111, 110, 116, 101, 110, 116, 45, 108, 101, 110, 103, 116, 104, 58, 32] ++ Lib.itoa (body.length : Int) ++ [13, 10] ++ (if last then [99, 111, 110, 110, 101, 99, 116, 105, 111, 110, 58, 32, 99, 108, 111, 115, 101, 13, 10] else []) ++ [13, 10] ++ body, 0)
theorem reason_len (c : Int) : (reasonB c).length ≤ 40 := by
  unfold reasonB
  repeat' split
  all_goals decide
theorem answer_low {code : Int} {body : List UInt8} {last : Bool} (h : code < 200) : ((⟨#[]⟩ : ByteArray), (2 : Int)) = (⟨(answerP code body last).1.toArray⟩, (answerP code body last).2) := by
  unfold answerP
  rw [if_pos (by simp [h])]
theorem answer_high {code : Int} {body : List UInt8} {last : Bool} (h : 599 < code) : ((⟨#[]⟩ : ByteArray), (2 : Int)) = (⟨(answerP code body last).1.toArray⟩, (answerP code body last).2) := by
  unfold answerP
  rw [if_pos (by simp [h])]
theorem answer_long {code : Int} {body : ByteArray} {last : Bool} (h1 : 200 ≤ code) (h2 : code ≤ 599) (h : 1048576 < body.size) : ((⟨#[]⟩ : ByteArray), (3 : Int)) = (⟨(answerP code body.data.toList last).1.toArray⟩, (answerP code body.data.toList last).2) := by
  have : 1048576 < body.data.toList.length := by simpa using h
  unfold answerP
  rw [if_neg (by simp; omega), if_pos this]
theorem answer_done {code : Int} {body s : ByteArray} {last : Bool} {cl : ByteArray} (h1 : 200 ≤ code) (h2 : code ≤ 599) (h : ¬ 1048576 < body.size) (hc : cl.data.toList = if last then [99, 111, 110, 110, 101, 99, 116, 105, 111, 110, 58, 32, 99, 108, 111, 115, 101, 13, 10] else [])
    (hs : s = (⟨#[72, 84, 84, 80, 47, 49, 46, 49, 32]⟩ : ByteArray) ++ ⟨(Lib.itoa code).toArray⟩ ++ ⟨#[32]⟩ ++ ⟨(reasonB code).toArray⟩ ++ ⟨#[13, 10, 99, 111, 110, 116, 101, 110, 116, 45, 116, 121, 112, 101, 58, 32, 97, 112, 112, 108, 105, 99, 97, 116, 105, 111, 110, 47, 106, 115, 111, 110, 13, 10, 99, 111, 110, 116, 101, 110, 116, 45, 108, 101, 110, 103, 116, 104, 58, 32]⟩ ++ ⟨(Lib.itoa (body.size : Int)).toArray⟩ ++ ⟨#[13, 10]⟩ ++ cl ++ ⟨#[13, 10]⟩ ++ body) :
    (s, (0 : Int)) = (⟨(answerP code body.data.toList last).1.toArray⟩, (answerP code body.data.toList last).2) := by
  have h3 : ¬ 1048576 < body.data.toList.length := by simpa using h
  have h4 : body.data.toList.length = body.size := by simp
  unfold answerP
  rw [if_neg (by simp; omega), if_neg h3, h4, ← hc, hs]
  refine Prod.ext ?_ rfl
  apply ByteArray.ext
  apply Array.ext'
  simp [ByteArray.data_append]

theorem app_nil (a : ByteArray) : a ++ (⟨#[]⟩ : ByteArray) = a := by
  apply ByteArray.ext
  simp [ByteArray.data_append]
theorem an_itoa (n : Int) (w : World) (h0 : 0 ≤ n) (h1 : n ≤ 1000000000) (he : Env w) :
    Calls Tryz.prog 53 #[.int .i64 n] w fun e w' => e = .returned (.string ⟨(Lib.itoa n).toArray⟩) ∧ Below w.heap.size w w' :=
  (Tryz.strconv_Itoa n (by omega) (by omega) w he.pow).mono fun e w' ⟨h, k, os, hw⟩ => ⟨h, by
    subst hw
    exact ⟨rfl, rfl, rfl, by simp [Sort.grow], fun j hj => by simp [Sort.grow, Array.getElem?_append, hj]⟩⟩

set_option maxRecDepth 100000 in
set_option maxHeartbeats 1000000 in
theorem wr_Answer (code : Int) (body : ByteArray) (last : Bool) (w : World) (he : Env w) (hb : body.size ≤ 140737488355328) : Calls Tryz.prog 38 #[.int .i64 code, .string body, .bool last] w
    fun e w' => e = .returned (.tuple #[.string ⟨(answerP code body.data.toList last).1.toArray⟩, .int .i64 (answerP code body.data.toList last).2]) ∧ Below w.heap.size w w' := by
  by_cases c1 : code < 200
  · go_enter Tryz.func38, Tryz.ntmps38
    go_wp2_with fail
    go_ret2
    exact ⟨ret_two (answer_low c1), Below.refl _ _⟩
  · by_cases c2 : 599 < code
    · go_enter Tryz.func38, Tryz.ntmps38
      go_wp2_with fail
      go_ret2
      exact ⟨ret_two (answer_high c2), Below.refl _ _⟩
    · by_cases c3 : 1048576 < body.size
      · go_enter Tryz.func38, Tryz.ntmps38
        go_wp2_with fail
        go_ret2
        exact ⟨ret_two (answer_long (by omega) (by omega) c3), Below.refl _ _⟩
      · have l1 := itoa_len code (by omega)
        have l2 := itoa_len (body.size : Int) (by omega)
        have l3 := reason_len code
        cases last
        all_goals
          go_enter Tryz.func38, Tryz.ntmps38
          go_wp2_with fail
          refine (an_itoa _ _ (by omega) (by omega) he).mono ?_
          rintro e w1 ⟨rfl, hb1⟩
          go_wp2_with fail
          refine (wr_Reason _ _).mono ?_
          rintro e w2 ⟨rfl, hb2⟩
          have he2 := he.below (bl_trans hb1 hb2)
          go_wp2_with fail
          refine (an_itoa _ _ (by omega) (by omega) he2).mono ?_
          rintro e w3 ⟨rfl, hb3⟩
          go_wp2_with fail
          go_ret2
          first
            | exact ⟨ret_two (answer_done (cl := ⟨#[]⟩) (by omega) (by omega) c3 rfl rfl), bl_trans (bl_trans hb1 hb2) hb3⟩
            | exact ⟨ret_two (answer_done (cl := ⟨#[]⟩) (by omega) (by omega) c3 rfl (by rw [app_nil])), bl_trans (bl_trans hb1 hb2) hb3⟩
            | exact ⟨ret_two (answer_done (cl := ⟨#[99, 111, 110, 110, 101, 99, 116, 105, 111, 110, 58, 32, 99, 108, 111, 115, 101, 13, 10]⟩) (by omega) (by omega) c3 rfl rfl), bl_trans (bl_trans hb1 hb2) hb3⟩
theorem eq_below {f : FuncId} {args : Array Value} {w : World} {v : Value} (h : Calls Tryz.prog f args w fun e w' => e = .returned v ∧ w = w') : Calls Tryz.prog f args w fun e w' => e = .returned v ∧ Below w.heap.size w w' :=
  h.mono fun e w' ⟨h1, h2⟩ => ⟨h1, h2 ▸ Below.refl _ _⟩
set_option maxRecDepth 100000 in
set_option maxHeartbeats 1000000 in
theorem rf_Answer (code : Int) (body : ByteArray) (last : Bool) (w : World) (hb : body.size ≤ 140737488355328) : Calls Tryz.prog 61 #[.int .i64 code, .string body, .bool last] w
    fun e w' => e = .returned (.tuple #[.string ⟨(answerP code body.data.toList last).1.toArray⟩, .int .i64 (answerP code body.data.toList last).2]) ∧ Below w.heap.size w w' := by
  by_cases c1 : code < 200
  · go_enter Tryz.func61, Tryz.ntmps61
    go_wp2_with fail
    go_ret2
    exact ⟨ret_two (answer_low c1), Below.refl _ _⟩
  · by_cases c2 : 599 < code
    · go_enter Tryz.func61, Tryz.ntmps61
      go_wp2_with fail
      go_ret2
      exact ⟨ret_two (answer_high c2), Below.refl _ _⟩
    · by_cases c3 : 1048576 < body.size
      · go_enter Tryz.func61, Tryz.ntmps61
        go_wp2_with fail
        go_ret2
        exact ⟨ret_two (answer_long (by omega) (by omega) c3), Below.refl _ _⟩
      · have l1 := itoa_len code (by omega)
        have l2 := itoa_len (body.size : Int) (by omega)
        have l3 := reason_len code
        cases last
        all_goals
          go_enter Tryz.func61, Tryz.ntmps61
          go_wp2_with fail
          refine (eq_below (rf_digits_all 100000000 _ _ (by omega) (by omega) (by omega))).mono ?_
          rintro e w1 ⟨rfl, hb1⟩
          go_wp2_with fail
          refine (eq_below (rf_Reason _ _)).mono ?_
          rintro e w2 ⟨rfl, hb2⟩
          go_wp2_with fail
          refine (eq_below (rf_digits_all 100000000 _ _ (by omega) (by omega) (by omega))).mono ?_
          rintro e w3 ⟨rfl, hb3⟩
          go_wp2_with fail
          go_ret2
          first
            | exact ⟨ret_two (answer_done (cl := ⟨#[]⟩) (by omega) (by omega) c3 rfl rfl), bl_trans (bl_trans hb1 hb2) hb3⟩
            | exact ⟨ret_two (answer_done (cl := ⟨#[]⟩) (by omega) (by omega) c3 rfl (by rw [app_nil])), bl_trans (bl_trans hb1 hb2) hb3⟩
            | exact ⟨ret_two (answer_done (cl := ⟨#[99, 111, 110, 110, 101, 99, 116, 105, 111, 110, 58, 32, 99, 108, 111, 115, 101, 13, 10]⟩) (by omega) (by omega) c3 rfl rfl), bl_trans (bl_trans hb1 hb2) hb3⟩
end Go.Proofs.YtnicmdlicbnlgaaGreatDoor
