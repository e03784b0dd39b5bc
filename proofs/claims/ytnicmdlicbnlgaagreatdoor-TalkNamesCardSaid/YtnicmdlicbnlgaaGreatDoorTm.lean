/-
  Walks: a connection looks at what comes next.
-/
import Derived.Test.YtnicmdlicbnlgaaGreatDoorTk
namespace Go.Proofs.YtnicmdlicbnlgaaGreatDoor
open Go.RowKit
set_option linter.unusedVariables false
set_option linter.unusedSimpArgs false

theorem chkE (b : Bool) (n : Nat) (k : IntKind) (z : Int) (w : World) : (Instr.checkKey b (n + 1) 26 (.int k z)).run Tryz.prog w = .ok () w := by
  rw [Instr.checkKey]
  have hk := run_underlying Tryz.underlying26
  simp [hk]
theorem chkE' (b : Bool) (k : IntKind) (z : Int) (w : World) : (Instr.checkKey b 10000 26 (.int k z)).run Tryz.prog w = .ok () w := chkE b 9999 k z w
theorem insE (w : World) (es : Array MapEntry) (c : Nat) (k : Int) (v : Value) (h : Instr.findNow (.int .i64) (.int .i64 k) es.toList 0 = some none) :
    (Instr.mapUpdate 130 (.map (some w.heap.size)) (.int .i64 k) v).run Tryz.prog (w.alloc (.map es c)) = .ok () (w.alloc (.map (es.push { key := .int .i64 k, val := v, born := c }) (c + 1))) := by
  have hu := run_underlying Tryz.underlying130
  have hk := run_underlying Tryz.underlying26
  unfold Instr.mapUpdate
  simp only [Sem.run_bind, hu, Result.andThen, getObj, Sem.run, heap_map, chkE', Instr.findKey, hk, h, Sem.run_pure, setObj]
  congr 1
  exact alloc_set w _ _
theorem lookE (w : World) (c : Int) (es : Array MapEntry) (cl : Nat) (i : Nat) (v : Value) (h : Instr.findNow (.int .i64) (.int .i64 c) es.toList 0 = some (some (i, v))) :
    (Instr.lookup 130 (.map (some w.heap.size)) (.int .i64 c) false).run Tryz.prog (w.alloc (.map es cl)) = .ok v (w.alloc (.map es cl)) := by
  have hu := run_underlying Tryz.underlying130
  have hk := run_underlying Tryz.underlying26
  unfold Instr.lookup
  simp only [Sem.run_bind, hu, Result.andThen, getObj, Sem.run, heap_map, chkE', Instr.findKey, hk, h, Sem.run_pure, Tryz.zeroValue3, if_false, Bool.false_eq_true]
theorem lookE0 (w : World) (c : Int) (es : Array MapEntry) (cl : Nat) (h : Instr.findNow (.int .i64) (.int .i64 c) es.toList 0 = some none) :
    (Instr.lookup 130 (.map (some w.heap.size)) (.int .i64 c) false).run Tryz.prog (w.alloc (.map es cl)) = .ok (.int .i64 0) (w.alloc (.map es cl)) := by
  have hu := run_underlying Tryz.underlying130
  have hk := run_underlying Tryz.underlying26
  unfold Instr.lookup
  simp only [Sem.run_bind, hu, Result.andThen, getObj, Sem.run, heap_map, chkE', Instr.findKey, hk, h, Sem.run_pure, Tryz.zeroValue3, if_false, Bool.false_eq_true]
def codesE : Array MapEntry := #[{ key := .int .i64 280, val := .int .i64 400, born := 0 }, { key := .int .i64 281, val := .int .i64 413, born := 1 }, { key := .int .i64 282, val := .int .i64 431, born := 2 }]
def LookPost (N : Nat) (S : Nat → Prop) (w : World) (T : Nat) (wait : Option (Rq × Int)) (F : List UInt8) (k : Nat) (out : List UInt8) (over : Bool) (en : Ending) (w' : World) : Prop :=
  Turned N S w w' ∧ ∃ (fp : Nat → Prop) (R : Nat) (va vw pv bv : Value) (told : List Rq), en = .returned va ∧ TalkIn N S fp w' T R va vw pv bv (nextP F k) wait F told out over ∧ Lst F told (k + isReq (nextP F k))
set_option maxRecDepth 100000 in
set_option maxHeartbeats 3200000 in
theorem tk_look (N : Nat) (S : Nat → Prop) (w : World) (T : Nat) (wait : Option (Rq × Int)) (F : List UInt8) (k : Nat) (out : List UInt8) (over : Bool) (B : Nat) (he : EnvAt B w) (hBN : B ≤ N) (hBS : ∀ g, S g → B ≤ g) (h : TalkAt N S w T wait F k out over) (hF : F.length ≤ 1000000) :
    Calls Tryz.prog 59 #[.pointer (some ⟨T, 0, none⟩)] w (LookPost N S w T wait F k out over) := by
  obtain ⟨fp, R, va, vw, pv, bv, ah, told, h, hnx, hlist⟩ := h
  obtain ⟨Q, hQ⟩ : ∃ Q : Ending → World → Prop, Q = LookPost N S w T wait F k out over := ⟨_, rfl⟩
  rw [← hQ]
  have HF : Hid (∀ W fp R va vw pv bv told, Turned N S w W → TalkIn N S fp W T R va vw pv bv (nextP F k) wait F told out over → Lst F told (k + isReq (nextP F k)) → Q (.returned va) W) := fun W fp R va vw pv bv told h1 h2 h3 => by rw [hQ]; exact ⟨h1, fp, R, va, vw, pv, bv, told, rfl, h2, h3⟩
  clear hQ
  have c0 : w.cell? ⟨T, 0, none⟩ = some (.pointer (some ⟨R, 0, none⟩)) := h.blk.cell 0
  have c1 : w.cell? ⟨T, 1, none⟩ = some va := h.blk.cell 1
  have hTlt : T < w.heap.size := h.blk.lt
  match ah, h, hnx, hlist with
  | some (q, c), h, hnx, hlist =>
    have hx : nextP F k = some (q, c) := by rcases hnx with e | e; cases e; exact e.symm
    obtain ⟨A, hv, rfl, hA, _⟩ := h.ahead
    have HH : Hid (Q (.returned (.pointer (some ⟨A, 0, none⟩))) w) := HF.out w fp R _ vw pv bv told (Turned.refl _ _ _) (by rw [hx]; exact h) (by rw [hx]; exact hlist)
    clear h hnx hx hA HF he hlist
    go_enter Tryz.func59, Tryz.ntmps59
    go_wp2_with fail
    exact HH.out
  | none, h, hnx, hlist =>
    obtain rfl : va = .pointer none := h.ahead
    have HN := Lib.hid (tl_next fp w R F told B he (Nat.le_trans hBN h.low) (fun g hg => (h.fs g hg).elim (hBS g) fun h2 => by omega) h.tell hF)
    have H := Lib.hid h
    have HLI := Lib.hid hlist
    clear h hnx he hlist
    go_enter Tryz.func59, Tryz.ntmps59
    go_wp2_with fail
    refine HN.out.mono ?_
    rintro en w1 ⟨hT1, hor⟩
    have hm : ∀ k, k < w.heap.size → ¬ fp k → w1.heap[k]? = w.heap[k]? := hT1.block
    have hB1 : Blk w1 T 66 #[.pointer (some ⟨R, 0, none⟩), .pointer none, vw, pv, bv, .bool over] := (hT1.block T hTlt H.out.tn).trans H.out.blk
    have d1 : w1.cell? ⟨T, 1, none⟩ = some (.pointer none) := hB1.cell 1
    have f1 := hB1.frozen 1
    have hTlt1 : T < w1.heap.size := hB1.lt
    have HT1 := Lib.hid hT1
    rcases hor with ⟨e, rfl, hA, ha1, ha2⟩ | ⟨q, hq, rfl, hA, hown, hqb, lr, hal⟩
    · have HNX : Hid (TalkIn N S _ w1 T R (.pointer none) vw pv bv none wait F told out over) := H.out.turn hT1 hA (fun g hg => hg)
      have hlen : (allP F).1[k]? = none := by
        have h1 := HLI.out.1
        rw [ha1] at h1 ⊢
        have h2 := congrArg List.length h1
        simp [isReq] at h2
        exact List.getElem?_eq_none (by omega)
      have herr := all_err F
      have hcode : nextP F k = if 0 < codeP e then some (rq0, codeP e) else none := by unfold nextP; rw [hlen, ha2]
      rw [ha2] at herr
      have HCODE := Lib.hid hcode
      have HTU : Hid (Turned N S w w1) := H.out.turned hT1
      have HREF : Hid (∀ W c A, 0 < codeP e → codeP e = c → Below w1.heap.size w1 W → w1.heap.size ≤ A → Blk W A 95 #[.string ⟨#[]⟩, .string ⟨#[]⟩, .slice none 0 0, .string ⟨#[]⟩, .bool false, .int .i64 c] → Q (.returned (.pointer (some ⟨A, 0, none⟩))) (W.setCell ⟨T, 1, none⟩ (.pointer (some ⟨A, 0, none⟩)))) := fun W c A h1 h2 hW hA2 hB2 => by
        have hx : nextP F k = some (rq0, c) := by rw [HCODE.out, if_pos h1, h2]
        refine HF.out _ (fun g => (fp g ∨ w.heap.size ≤ g) ∧ g < w1.heap.size) R _ vw pv bv told ((HTU.out.trans (Turned.of_below hW (HNX.out.low))).set_ (a := ⟨T, 1, none⟩) H.out.ts _) ?_ ?_
        · rw [hx]
          exact HNX.out.lookNew hW hA2 hB2 (World.ownsRow_nil _ _ _ _) (fun g hg => by simp [Value.ownBlock] at hg)
        · rw [hx]
          have h3 := HLI.out
          have h4 : isReq (some (rq0, c)) = 0 := by
            have : c ≠ 0 := by omega
            unfold isReq
            split
            · rename_i heq; cases heq; exact absurd rfl this
            · rfl
          rw [h4]
          exact h3
      clear hT1 hA ha1 ha2 hm hB1 c0 c1 hlen hcode
      unfold zeroReq
      have hmm := @run_makeMap Tryz.prog
      have i1 := insE (w1.alloc (Obj.cells zeroCells5 33)) #[] 0 280 (.int .i64 400) rfl
      have i2 := insE (w1.alloc (Obj.cells zeroCells5 33)) #[{ key := .int .i64 280, val := .int .i64 400, born := 0 }] 1 281 (.int .i64 413) rfl
      have i3 := insE (w1.alloc (Obj.cells zeroCells5 33)) #[{ key := .int .i64 280, val := .int .i64 400, born := 0 }, { key := .int .i64 281, val := .int .i64 413, born := 1 }] 2 282 (.int .i64 431) rfl
      have l0 := lookE0 (w1.alloc (Obj.cells zeroCells5 33)) 0 codesE 3 rfl
      have l1 := lookE (w1.alloc (Obj.cells zeroCells5 33)) 280 codesE 3 0 _ rfl
      have l2 := lookE (w1.alloc (Obj.cells zeroCells5 33)) 281 codesE 3 1 _ rfl
      have l3 := lookE (w1.alloc (Obj.cells zeroCells5 33)) 282 codesE 3 2 _ rfl
      unfold codesE zeroCells5 at *
      simp only [List.push_toArray, List.nil_append, List.cons_append, Nat.reduceAdd, World.size_alloc] at i1 i2 i3 l0 l1 l2 l3
      have hT2 : T < w1.heap.size + 1 := by omega
      have hT3 : T < w1.heap.size + 1 + 1 := by omega
      rcases herr with rfl | rfl | rfl | rfl
      · have hx : Hid (nextP F k = none) := by show nextP F k = none; rw [HCODE.out]; rfl
        go_wp2_with fail
        refine HF.out _ (fun g => fp g ∨ w.heap.size ≤ g) R (.pointer none) vw pv bv told (HTU.out.trans (Turned.of_below (bl_alloc (bl_alloc (Below.refl _ _) _) _) HNX.out.low)) ?_ ?_
        · rw [hx.out]
          exact HNX.out.below (bl_alloc (bl_alloc (Below.refl _ _) _) _)
        · rw [hx.out]; exact HLI.out
      · have hx : codeP 280 = 400 := rfl
        have HX := Lib.hid hx; clear hx
        go_wp2_with fail
        have hh := HREF.out (((w1.alloc (Obj.cells zeroCells5 33)).alloc (Obj.map codesE 3)).alloc (Obj.cells #[.string ⟨#[]⟩, .string ⟨#[]⟩, .slice none 0 0, .string ⟨#[]⟩, .bool false, .int .i64 400] 95)) 400 (w1.heap.size + 1 + 1) (by rw [HX.out]; decide) HX.out (bl_alloc (bl_alloc (bl_alloc (Below.refl _ _) _) _) _) (by omega) (by
        have := Blk.new ((w1.alloc (Obj.cells zeroCells5 33)).alloc (Obj.map codesE 3)) 95 #[.string ⟨#[]⟩, .string ⟨#[]⟩, .slice none 0 0, .string ⟨#[]⟩, .bool false, .int .i64 400]
        rwa [World.size_alloc, World.size_alloc] at this)
        rw [World.setCell_alloc_past _ _ _ _ (by simp; omega), World.setCell_alloc_past _ _ _ _ (by simp; omega), World.setCell_alloc_past _ _ _ _ hTlt1] at hh
        exact hh
      · have hx : codeP 281 = 413 := rfl
        have HX := Lib.hid hx; clear hx
        go_wp2_with fail
        have hh := HREF.out (((w1.alloc (Obj.cells zeroCells5 33)).alloc (Obj.map codesE 3)).alloc (Obj.cells #[.string ⟨#[]⟩, .string ⟨#[]⟩, .slice none 0 0, .string ⟨#[]⟩, .bool false, .int .i64 413] 95)) 413 (w1.heap.size + 1 + 1) (by rw [HX.out]; decide) HX.out (bl_alloc (bl_alloc (bl_alloc (Below.refl _ _) _) _) _) (by omega) (by
        have := Blk.new ((w1.alloc (Obj.cells zeroCells5 33)).alloc (Obj.map codesE 3)) 95 #[.string ⟨#[]⟩, .string ⟨#[]⟩, .slice none 0 0, .string ⟨#[]⟩, .bool false, .int .i64 413]
        rwa [World.size_alloc, World.size_alloc] at this)
        rw [World.setCell_alloc_past _ _ _ _ (by simp; omega), World.setCell_alloc_past _ _ _ _ (by simp; omega), World.setCell_alloc_past _ _ _ _ hTlt1] at hh
        exact hh
      · have hx : codeP 282 = 431 := rfl
        have HX := Lib.hid hx; clear hx
        go_wp2_with fail
        have hh := HREF.out (((w1.alloc (Obj.cells zeroCells5 33)).alloc (Obj.map codesE 3)).alloc (Obj.cells #[.string ⟨#[]⟩, .string ⟨#[]⟩, .slice none 0 0, .string ⟨#[]⟩, .bool false, .int .i64 431] 95)) 431 (w1.heap.size + 1 + 1) (by rw [HX.out]; decide) HX.out (bl_alloc (bl_alloc (bl_alloc (Below.refl _ _) _) _) _) (by omega) (by
        have := Blk.new ((w1.alloc (Obj.cells zeroCells5 33)).alloc (Obj.map codesE 3)) 95 #[.string ⟨#[]⟩, .string ⟨#[]⟩, .slice none 0 0, .string ⟨#[]⟩, .bool false, .int .i64 431]
        rwa [World.size_alloc, World.size_alloc] at this)
        rw [World.setCell_alloc_past _ _ _ _ (by simp; omega), World.setCell_alloc_past _ _ _ _ (by simp; omega), World.setCell_alloc_past _ _ _ _ hTlt1] at hh
        exact hh
    · obtain ⟨Hq, cq, rfl⟩ := own_slice hown
      have hlen : told.length < (allP F).1.length := by rw [hal]; simp
      have hk : k = told.length := by
        have h1 := congrArg List.length HLI.out.1
        simp [isReq] at h1
        omega
      have hget : (allP F).1[k]? = some q := by rw [hal, hk]; simp
      have hx : nextP F k = some (q, 0) := by unfold nextP; rw [hget]
      have hli : Lst F (told ++ [q]) (k + 1) := by
        refine ⟨?_, .inl (by omega)⟩
        rw [List.take_add_one, hget]
        have h1 := HLI.out.1
        simp only [isReq, Nat.add_zero] at h1
        rw [← h1]
        rfl
      have hN1 := H.out.turn hT1 hA (fun g hg => hg.1)
      have HNX := Lib.hid hN1
      have HTU : Hid (Turned N S w w1) := H.out.turned hT1
      have HREF : Hid (∀ W A, Below w1.heap.size w1 W → w1.heap.size ≤ A → Blk W A 95 #[.string q.m, .string q.p, .slice Hq q.hs.length cq, .string q.body, .bool q.close, .int .i64 0] → Q (.returned (.pointer (some ⟨A, 0, none⟩))) (W.setCell ⟨T, 1, none⟩ (.pointer (some ⟨A, 0, none⟩)))) := fun W A hW hA2 hB2 => by
        have hlow := H.out.low
        refine HF.out _ (fun g => ((fp g ∨ w.heap.size ≤ g) ∧ (Value.slice Hq q.hs.length cq).ownBlock ≠ some g) ∧ g < w1.heap.size) R _ vw pv bv (told ++ [q]) ((HTU.out.trans (Turned.of_below hW (HNX.out.low))).set_ (a := ⟨T, 1, none⟩) H.out.ts _) ?_ ?_
        · rw [hx]
          exact HNX.out.lookNew hW hA2 hB2 hown fun g hg => ⟨fun h1 => h1.2 hg, (hqb g hg).elim (H.out.fs g) fun h2 => .inr (by omega)⟩
        · rw [hx]; exact hli
      clear hT1 hA hal hm hB1 c0 c1 hlen hk hget hx hli hN1 hqb hown
      unfold rqVal
      have hmm := @run_makeMap Tryz.prog
      have i1 := insE (w1.alloc (Obj.cells #[.string q.m, .string q.p, .slice Hq q.hs.length cq, .string q.body, .bool q.close] 33)) #[] 0 280 (.int .i64 400) rfl
      have i2 := insE (w1.alloc (Obj.cells #[.string q.m, .string q.p, .slice Hq q.hs.length cq, .string q.body, .bool q.close] 33)) #[{ key := .int .i64 280, val := .int .i64 400, born := 0 }] 1 281 (.int .i64 413) rfl
      have i3 := insE (w1.alloc (Obj.cells #[.string q.m, .string q.p, .slice Hq q.hs.length cq, .string q.body, .bool q.close] 33)) #[{ key := .int .i64 280, val := .int .i64 400, born := 0 }, { key := .int .i64 281, val := .int .i64 413, born := 1 }] 2 282 (.int .i64 431) rfl
      have l0 := lookE0 (w1.alloc (Obj.cells #[.string q.m, .string q.p, .slice Hq q.hs.length cq, .string q.body, .bool q.close] 33)) 0 codesE 3 rfl
      unfold codesE at *
      simp only [List.push_toArray, List.nil_append, List.cons_append, Nat.reduceAdd, World.size_alloc] at i1 i2 i3 l0
      have hT2 : T < w1.heap.size + 1 := by omega
      have hT3 : T < w1.heap.size + 1 + 1 := by omega
      go_wp2_with fail
      have hh := HREF.out (((w1.alloc (Obj.cells #[.string q.m, .string q.p, .slice Hq q.hs.length cq, .string q.body, .bool q.close] 33)).alloc (Obj.map codesE 3)).alloc (Obj.cells #[.string q.m, .string q.p, .slice Hq q.hs.length cq, .string q.body, .bool q.close, .int .i64 0] 95)) (w1.heap.size + 1 + 1) (bl_alloc (bl_alloc (bl_alloc (Below.refl _ _) _) _) _) (by omega) (by
        have := Blk.new ((w1.alloc (Obj.cells #[.string q.m, .string q.p, .slice Hq q.hs.length cq, .string q.body, .bool q.close] 33)).alloc (Obj.map codesE 3)) 95 #[.string q.m, .string q.p, .slice Hq q.hs.length cq, .string q.body, .bool q.close, .int .i64 0]
        rwa [World.size_alloc, World.size_alloc] at this)
      rw [World.setCell_alloc_past _ _ _ _ (by simp; omega), World.setCell_alloc_past _ _ _ _ (by simp; omega), World.setCell_alloc_past _ _ _ _ hTlt1] at hh
      exact hh
end Go.Proofs.YtnicmdlicbnlgaaGreatDoor
