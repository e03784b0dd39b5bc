/-
  Walk: a connection's Take.
-/
import Derived.Test.YtnicmdlicbnlgaaGreatDoorTg
namespace Go.Proofs.YtnicmdlicbnlgaaGreatDoor
open Go.RowKit
set_option linter.unusedVariables false
set_option linter.unusedSimpArgs false

section
variable {N N' : Nat} {S S' fp : Nat → Prop} {w w' : World} {T R : Nat} {va vw pv bv : Value} {ah wait : Option (Rq × Int)} {F : List UInt8} {k : Nat} {told : List Rq} {out : List UInt8} {over : Bool}
/-- Seen where new blocks have been laid beside it. -/
theorem TalkIn.move (h : TalkIn N S fp w T R va vw pv bv ah wait F told out over) (hb : Below w.heap.size w w') : TalkIn w'.heap.size (fun g => (S g ∨ N ≤ g) ∧ g < w.heap.size) (fun g => fp g ∧ g < w.heap.size) w' T R va vw pv bv ah wait F told out over :=
  ⟨(h.tell.mono fun g hl hg => ⟨hg, hl⟩).below hb, (hb.block T h.blk.lt).trans h.blk, h.ahead.keep fun g hg hl => ⟨hb.block g hl, fun h1 => hg.1 h1.1, .inl ⟨hg.2, hl⟩⟩, h.waits.keep fun g hg hl => ⟨hb.block g hl, fun h1 => hg.1 h1.1, .inl ⟨hg.2, hl⟩⟩,
    fun h1 => h.tn h1.1, .inl ⟨h.ts, h.blk.lt⟩, fun g hg => .inl ⟨h.fs g hg.1, hg.2⟩, h.addr, own_keep h.buf fun g hg => hb.block g (h.buf.lt g hg).2, fun g hg => ⟨fun h1 => (h.bn g hg).1 h1.1, .inl ⟨(h.bn g hg).2, (h.buf.lt g hg).2⟩⟩, h.bz, Nat.le_refl _⟩
theorem TalkIn.weaken (h : TalkIn N S fp w T R va vw pv bv ah wait F told out over) (hS : ∀ g, (S g ∨ N ≤ g) → S' g ∨ N' ≤ g) (hN : N' ≤ w.heap.size) : TalkIn N' S' fp w T R va vw pv bv ah wait F told out over :=
  ⟨h.tell, h.blk, h.ahead.keep fun g hg hl => ⟨rfl, hg.1, hS g hg.2⟩, h.waits.keep fun g hg hl => ⟨rfl, hg.1, hS g hg.2⟩, h.tn, hS T h.ts, fun g hg => hS g (h.fs g hg), h.addr, h.buf, fun g hg => ⟨(h.bn g hg).1, hS g (h.bn g hg).2⟩, h.bz, hN⟩
theorem TalkAt.move (h : TalkAt N S w T wait F k out over) (hb : Below w.heap.size w w') : TalkAt w'.heap.size (fun g => (S g ∨ N ≤ g) ∧ g < w.heap.size) w' T wait F k out over := by
  obtain ⟨fp, R, va, vw, pv, bv, ah, told, h, h2⟩ := h
  exact ⟨_, R, va, vw, pv, bv, ah, told, h.move hb, h2⟩
theorem TalkAt.weaken (h : TalkAt N S w T wait F k out over) (hS : ∀ g, (S g ∨ N ≤ g) → S' g ∨ N' ≤ g) (hN : N' ≤ w.heap.size) : TalkAt N' S' w T wait F k out over := by
  obtain ⟨fp, R, va, vw, pv, bv, ah, told, h, h2⟩ := h
  exact ⟨fp, R, va, vw, pv, bv, ah, told, h.weaken hS hN, h2⟩
/-- Back to where it was seen from. -/
theorem TalkAt.back {W : World} (h0 : N ≤ W.heap.size) (hb : Below W.heap.size W w) (h : TalkAt w.heap.size (fun g => (S g ∨ N ≤ g) ∧ g < W.heap.size) w' T wait F k out over) (ht : Turned w.heap.size (fun g => (S g ∨ N ≤ g) ∧ g < W.heap.size) w w') : Turned N S W w' ∧ TalkAt N S w' T wait F k out over := by
  have hz := hb.size
  refine ⟨(Turned.of_below hb h0).trans (ht.more (Nat.le_trans h0 hz) fun g hg h1 => h1.1.resolve_right (by omega)), h.weaken (fun g hg => ?_) (by have := ht.size; omega)⟩
  rcases hg with hg | hg
  · exact hg.1
  · exact .inr (by omega)
theorem TalkAt.setOther (h : TalkAt N S w T wait F k out over) {a : Addr} (ha : ¬ (S a.block ∨ N ≤ a.block)) (v : Value) : TalkAt N S (w.setCell a v) T wait F k out over :=
  h.keep (fun g hg _ => Below.heap_setCell _ _ _ _ (fun e => ha (e ▸ hg))) (by rw [size_set]; exact Nat.le_refl _)
end
def readyP (wait : Option (Rq × Int)) (F : List UInt8) (k : Nat) (over : Bool) : Bool := !over && wait.isNone && (nextP F k).isSome
set_option maxRecDepth 100000 in
set_option maxHeartbeats 1600000 in
theorem tk_take_no (N : Nat) (S : Nat → Prop) (w : World) (T : Nat) (wait : Option (Rq × Int)) (F : List UInt8) (k : Nat) (out : List UInt8) (over : Bool) (B : Nat) (he : EnvAt B w) (hBN : B ≤ N) (hBS : ∀ g, S g → B ≤ g) (h : TalkAt N S w T wait F k out over) (hF : F.length ≤ 1000000) (hr : readyP wait F k over = false) :
    Calls Tryz.prog 28 #[.pointer (some ⟨T, 0, none⟩)] w (TalkGoes N S w T wait F k out over (.tuple #[zeroReq, .int .i64 0, .int .i64 6])) := by
  obtain ⟨W1, hW1⟩ : ∃ W1, W1 = w.alloc (Obj.cells zeroCells5 33) := ⟨_, rfl⟩
  have hB1 : Below w.heap.size w W1 := by rw [hW1]; exact bl_alloc (Below.refl _ _) _
  have hz1 : W1.heap.size = w.heap.size + 1 := by rw [hW1]; simp
  have hRB : Blk W1 w.heap.size 33 zeroCells5 := by rw [hW1]; exact Blk.new _ _ _
  have hM := h.move hB1
  have hlow := h.low
  have hR := tk_ready _ _ W1 T wait F k out over B (he.below hB1 he.le) (by omega) (fun g hg => hg.1.elim (hBS g) fun h2 => by omega) hM hF
  unfold readyP at hr
  rw [hr] at hR
  have HR := Lib.hid hR
  have HN : Hid (Calls Tryz.prog 55 #[.pointer (some ⟨T, 0, none⟩)] W1 fun e w' => e = .returned (.bool false) ∧ W1 = w') := by
    obtain ⟨fp, R, va, vw, pv, bv, ah, told, h, hn, hl⟩ := hM
    exact tk_none h.blk
  have HQ : Hid (∀ en w2, TalkGoes W1.heap.size (fun g => (S g ∨ N ≤ g) ∧ g < w.heap.size) W1 T wait F k out over (.bool false) en w2 → en = .returned (.bool false) ∧ Blk w2 w.heap.size 33 zeroCells5 ∧
      TalkGoes N S w T wait F k out over (.tuple #[zeroReq, .int .i64 0, .int .i64 6]) (.returned (.tuple #[zeroReq, .int .i64 0, .int .i64 6])) (((((w2.setCell ⟨w.heap.size, 0, none⟩ (.string ⟨#[]⟩)).setCell ⟨w.heap.size, 1, none⟩ (.string ⟨#[]⟩)).setCell ⟨w.heap.size, 2, none⟩ (.slice none 0 0)).setCell ⟨w.heap.size, 3, none⟩ (.string ⟨#[]⟩)).setCell ⟨w.heap.size, 4, none⟩ (.bool false))) := fun en w2 ⟨hen, ht, ha⟩ => by
    have hno : ¬ (((S w.heap.size ∨ N ≤ w.heap.size) ∧ w.heap.size < w.heap.size) ∨ W1.heap.size ≤ w.heap.size) := by
      rintro (h1 | h1)
      · exact absurd h1.2 (by omega)
      · omega
    obtain ⟨b1, b2⟩ := TalkAt.back hlow hB1 ha ht
    refine ⟨hen, (ht.block w.heap.size (by omega) fun h1 => hno (.inl h1)).trans hRB, rfl, ?_, ?_⟩
    · iterate 5 refine Turned.set_ ?_ (.inr hlow) _
      exact b1
    · refine TalkAt.weaken (N := W1.heap.size) (S := fun g => (S g ∨ N ≤ g) ∧ g < w.heap.size) ?_ (fun g hg => ?_) (by simp only [size_set]; have := ht.size; omega)
      · iterate 5 refine TalkAt.setOther ?_ hno _
        exact ha
      · rcases hg with hg | hg
        · exact hg.1
        · exact .inr (by omega)
  generalize TalkGoes N S w T wait F k out over (.tuple #[zeroReq, .int .i64 0, .int .i64 6]) = Q at HQ ⊢
  generalize TalkGoes W1.heap.size (fun g => (S g ∨ N ≤ g) ∧ g < w.heap.size) W1 T wait F k out over (.bool false) = Q1 at HQ HR
  clear h hM hR hRB hB1 hz1 hr
  obtain ⟨RB, hRB⟩ : ∃ RB, RB = w.heap.size := ⟨_, rfl⟩
  unfold zeroCells5 at hW1
  rw [← hRB] at HQ
  go_enter Tryz.func28, Tryz.ntmps28
  go_wp2_with fail
  rw [← hW1, ← hRB]
  clear hW1 hRB
  refine HN.out.mono ?_
  rintro en w1 ⟨rfl, rfl⟩
  go_wp2_with fail
  refine HR.out.mono ?_
  rintro en w2 hq1
  obtain ⟨rfl, hb, hq⟩ := HQ.out en w2 hq1
  have z0 : w2.cell? ⟨RB, 0, none⟩ = some (.string ⟨#[]⟩) := hb.cell 0
  have z1 : w2.cell? ⟨RB, 1, none⟩ = some (.string ⟨#[]⟩) := hb.cell 1
  have z2 : w2.cell? ⟨RB, 2, none⟩ = some (.slice none 0 0) := hb.cell 2
  have z3 : w2.cell? ⟨RB, 3, none⟩ = some (.string ⟨#[]⟩) := hb.cell 3
  have z4 : w2.cell? ⟨RB, 4, none⟩ = some (.bool false) := hb.cell 4
  have f0 := hb.frozen 0
  have f1 := hb.frozen 1
  have f2 := hb.frozen 2
  have f3 := hb.frozen 3
  have f4 := hb.frozen 4
  have HQ2 := Lib.hid hq
  clear hq1 hq hb
  go_wp2_with fail
  refine bodyPost_ret (v := .tuple #[.agg #[.string ⟨#[]⟩, .string ⟨#[]⟩, .slice none 0 0, .string ⟨#[]⟩, .bool false], .int .i64 0, .int .i64 6]) (by simp [results, Tryz.results28, go_sem, z0, z1, z2, z3, z4, f0, f1, f2, f3, f4]) rfl ?_
  exact HQ2.out
end Go.Proofs.YtnicmdlicbnlgaaGreatDoor
