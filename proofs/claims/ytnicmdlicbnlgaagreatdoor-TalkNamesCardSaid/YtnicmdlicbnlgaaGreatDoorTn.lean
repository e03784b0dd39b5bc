/-
  Walks: a connection's none, Over, Ready, Feed, New.
-/
import Derived.Test.YtnicmdlicbnlgaaGreatDoorTm
namespace Go.Proofs.YtnicmdlicbnlgaaGreatDoor
open Go.RowKit
set_option linter.unusedVariables false
set_option linter.unusedSimpArgs false

theorem tk_none {w : World} {T R : Nat} {va vw pv bv : Value} {ob : Bool} (h : Blk w T 66 #[.pointer (some ⟨R, 0, none⟩), va, vw, pv, bv, .bool ob]) :
    Calls Tryz.prog 55 #[.pointer (some ⟨T, 0, none⟩)] w fun e w' => e = .returned (.bool false) ∧ w = w' := by
  have c0 : w.cell? ⟨T, 0, none⟩ = some (.pointer (some ⟨R, 0, none⟩)) := h.cell 0
  clear h
  go_enter Tryz.func55, Tryz.ntmps55
  go_wp2_with fail
  go_ret
  exact ⟨rfl, rfl⟩
theorem tk_over (N : Nat) (S : Nat → Prop) (w : World) (T : Nat) (wait : Option (Rq × Int)) (F : List UInt8) (k : Nat) (out : List UInt8) (over : Bool) (h : TalkAt N S w T wait F k out over) :
    Calls Tryz.prog 30 #[.pointer (some ⟨T, 0, none⟩)] w fun e w' => e = .returned (.bool over) ∧ w = w' := by
  obtain ⟨fp, R, va, vw, pv, bv, ah, told, h, -, -⟩ := h
  have c5 : w.cell? ⟨T, 5, none⟩ = some (.bool over) := h.blk.cell 5
  have HN := Lib.hid (tk_none h.blk)
  clear h
  go_enter Tryz.func30, Tryz.ntmps30
  go_wp2_with fail
  refine HN.out.mono ?_
  rintro en w1 ⟨rfl, rfl⟩
  cases over <;> (go_wp2_with fail; go_ret; exact ⟨rfl, rfl⟩)
def TalkGoes (N : Nat) (S : Nat → Prop) (w : World) (T : Nat) (wait : Option (Rq × Int)) (F : List UInt8) (k : Nat) (out : List UInt8) (over : Bool) (v : Value) (en : Ending) (w' : World) : Prop :=
  en = .returned v ∧ Turned N S w w' ∧ TalkAt N S w' T wait F k out over
set_option maxRecDepth 100000 in
set_option maxHeartbeats 1600000 in
theorem tk_ready (N : Nat) (S : Nat → Prop) (w : World) (T : Nat) (wait : Option (Rq × Int)) (F : List UInt8) (k : Nat) (out : List UInt8) (over : Bool) (B : Nat) (he : EnvAt B w) (hBN : B ≤ N) (hBS : ∀ g, S g → B ≤ g) (h : TalkAt N S w T wait F k out over) (hF : F.length ≤ 1000000) :
    Calls Tryz.prog 33 #[.pointer (some ⟨T, 0, none⟩)] w (TalkGoes N S w T wait F k out over (.bool (!over && wait.isNone && (nextP F k).isSome))) := by
  have HK := Lib.hid (tk_look N S w T wait F k out over B he hBN hBS h hF)
  have H := Lib.hid h
  obtain ⟨fp, R, va, vw, pv, bv, ah, told, h, -, -⟩ := h
  have c2 : w.cell? ⟨T, 2, none⟩ = some vw := h.blk.cell 2
  have c5 : w.cell? ⟨T, 5, none⟩ = some (.bool over) := h.blk.cell 5
  have HN := Lib.hid (tk_none h.blk)
  have hw := h.waits
  clear h he
  cases over with
  | true =>
    clear hw
    have HQ : Hid (TalkGoes N S w T wait F k out true (.bool false) (.returned (.bool false)) w) := ⟨rfl, Turned.refl _ _ _, H.out⟩
    rw [show (!true && wait.isNone && (nextP F k).isSome) = false by simp]
    generalize TalkGoes N S w T wait F k out true (.bool false) = Q at HQ ⊢
    go_enter Tryz.func33, Tryz.ntmps33
    go_wp2_with fail
    refine HN.out.mono ?_
    rintro en w1 ⟨rfl, rfl⟩
    go_wp2_with fail
    exact HQ.out
  | false =>
    cases wait with
    | some x =>
      obtain ⟨q, c⟩ := x
      obtain ⟨A, hv, rfl, -⟩ := hw
      have HQ : Hid (TalkGoes N S w T (some (q, c)) F k out false (.bool false) (.returned (.bool false)) w) := ⟨rfl, Turned.refl _ _ _, H.out⟩
      rw [show (!false && (some (q, c)).isNone && (nextP F k).isSome) = false by simp]
      generalize TalkGoes N S w T (some (q, c)) F k out false (.bool false) = Q at HQ ⊢
      clear H HK
      go_enter Tryz.func33, Tryz.ntmps33
      go_wp2_with fail
      refine HN.out.mono ?_
      rintro en w1 ⟨rfl, rfl⟩
      go_wp2_with fail
      exact HQ.out
    | none =>
      obtain rfl : vw = .pointer none := hw
      have HQ : Hid (∀ W b, Turned N S w W → TalkAt N S W T none F k out false → b = (nextP F k).isSome → TalkGoes N S w T none F k out false (.bool (!false && (none : Option (Rq × Int)).isNone && (nextP F k).isSome)) (.returned (.bool b)) W) := fun W b h1 h2 h3 => ⟨by rw [h3]; rfl, h1, h2⟩
      generalize TalkGoes N S w T none F k out false (.bool (!false && (none : Option (Rq × Int)).isNone && (nextP F k).isSome)) = Q at HQ ⊢
      go_enter Tryz.func33, Tryz.ntmps33
      go_wp2_with fail
      refine HN.out.mono ?_
      rintro en w1 ⟨rfl, rfl⟩
      go_wp2_with fail
      refine HK.out.mono ?_
      rintro en w2 ⟨hT, fp2, R2, va2, vw2, pv2, bv2, told2, rfl, hIn, hLi⟩
      have hah := hIn.ahead
      have HT2 := Lib.hid hT
      have HA2 : Hid (TalkAt N S w2 T none F k out false) := ⟨fp2, R2, va2, vw2, pv2, bv2, _, told2, hIn, .inr rfl, hLi⟩
      clear hT hIn hLi
      cases hx : nextP F k with
      | none =>
        rw [hx] at hah
        obtain rfl : va2 = .pointer none := hah
        have HX : Hid (false = (nextP F k).isSome) := by show false = _; rw [hx]; rfl
        clear hx
        go_wp2_with fail
        exact HQ.out _ _ HT2.out HA2.out HX.out
      | some x =>
        obtain ⟨q, c⟩ := x
        rw [hx] at hah
        obtain ⟨A, hv, rfl, -⟩ := hah
        have HX : Hid (true = (nextP F k).isSome) := by show true = _; rw [hx]; rfl
        clear hx
        go_wp2_with fail
        exact HQ.out _ _ HT2.out HA2.out HX.out
set_option maxHeartbeats 1600000 in
theorem tk_feed (N : Nat) (S : Nat → Prop) (w : World) (T : Nat) (wait : Option (Rq × Int)) (F : List UInt8) (k : Nat) (out : List UInt8) (x : ByteArray) (hx : x.size ≤ 16384) (h : TalkAt N S w T wait F k out false) (hF : F.length ≤ 1000000) :
    Calls Tryz.prog 27 #[.pointer (some ⟨T, 0, none⟩), .string x] w (TalkGoes N S w T wait (F ++ x.data.toList) k out false (.int .i64 0)) := by
  obtain ⟨fp, R, va, vw, pv, bv, ah, told, h, hn, hl⟩ := h
  have c0 : w.cell? ⟨T, 0, none⟩ = some (.pointer (some ⟨R, 0, none⟩)) := h.blk.cell 0
  have c5 : w.cell? ⟨T, 5, none⟩ = some (.bool false) := h.blk.cell 5
  have HN := Lib.hid (tk_none h.blk)
  have HFD := Lib.hid (tl_feed fp w R F told x h.tell hx hF)
  have HQ : Hid (∀ W, Turned w.heap.size fp w W → TellAt (fun k => fp k ∨ w.heap.size ≤ k) W R (F ++ x.data.toList) told → TalkGoes N S w T wait (F ++ x.data.toList) k out false (.int .i64 0) (.returned (.int .i64 0)) W) := fun W h1 h2 =>
    ⟨rfl, h.turned h1, _, R, va, vw, pv, bv, ah, told, h.turn h1 h2 (fun g hg => hg), by
      rcases hn with e | e
      · exact .inl e
      · cases ah with
        | none => exact .inl rfl
        | some y => exact .inr (next_more _ e.symm).symm, hl.more _⟩
  generalize TalkGoes N S w T wait (F ++ x.data.toList) k out false (.int .i64 0) = Q at HQ ⊢
  clear h hn hl
  go_enter Tryz.func27, Tryz.ntmps27
  go_wp2_with fail
  refine HN.out.mono ?_
  rintro en w1 ⟨rfl, rfl⟩
  go_wp2_with fail
  refine HFD.out.mono ?_
  rintro en w2 ⟨rfl, h1, h2⟩
  have HR := Lib.hid (HQ.out _ h1 h2)
  clear h1 h2
  go_wp2_with fail
  exact HR.out
theorem tk_feed_over (N : Nat) (S : Nat → Prop) (w : World) (T : Nat) (wait : Option (Rq × Int)) (F : List UInt8) (k : Nat) (out : List UInt8) (x : ByteArray) (hx : x.size ≤ 16384) (h : TalkAt N S w T wait F k out true) :
    Calls Tryz.prog 27 #[.pointer (some ⟨T, 0, none⟩), .string x] w fun e w' => e = .returned (.int .i64 8) ∧ w = w' := by
  obtain ⟨fp, R, va, vw, pv, bv, ah, told, h, -, -⟩ := h
  have c5 : w.cell? ⟨T, 5, none⟩ = some (.bool true) := h.blk.cell 5
  have HN := Lib.hid (tk_none h.blk)
  clear h
  go_enter Tryz.func27, Tryz.ntmps27
  go_wp2_with fail
  refine HN.out.mono ?_
  rintro en w1 ⟨rfl, rfl⟩
  go_wp2_with fail
  go_ret
  exact ⟨rfl, rfl⟩
theorem tk_feed_long (N : Nat) (S : Nat → Prop) (w : World) (T : Nat) (wait : Option (Rq × Int)) (F : List UInt8) (k : Nat) (out : List UInt8) (over : Bool) (x : ByteArray) (hx : 16384 < x.size) (h : TalkAt N S w T wait F k out over) :
    Calls Tryz.prog 27 #[.pointer (some ⟨T, 0, none⟩), .string x] w fun e w' => e = .returned (.int .i64 3) ∧ w = w' := by
  obtain ⟨fp, R, va, vw, pv, bv, ah, told, h, -, -⟩ := h
  have HN := Lib.hid (tk_none h.blk)
  clear h
  go_enter Tryz.func27, Tryz.ntmps27
  go_wp2_with fail
  refine HN.out.mono ?_
  rintro en w1 ⟨rfl, rfl⟩
  go_wp2_with fail
  go_ret
  exact ⟨rfl, rfl⟩
/-- A new one: its reader's block, and its own. -/
theorem tk_new (w : World) : Calls Tryz.prog 26 #[] w fun e w' => e = .returned (.pointer (some ⟨w.heap.size + 1, 0, none⟩)) ∧
    w' = (w.alloc (.cells (rdCells RS.init (.slice none 0 0) (.slice none 0 0) (.slice none 0 0) 0 0 0) 50)).alloc (.cells #[.pointer (some ⟨w.heap.size, 0, none⟩), .pointer none, .pointer none, .pointer none, .slice none 0 0, .bool false] 66) := by
  have HN := Lib.hid (rk_new w)
  go_enter Tryz.func26, Tryz.ntmps26
  go_wp2_with fail
  refine HN.out.mono ?_
  rintro en w1 ⟨rfl, hw1⟩
  have hz : w1.heap.size = w.heap.size + 1 := by rw [hw1]; simp
  have HW := Lib.hid hw1; clear hw1
  have HZ := Lib.hid hz; clear hz
  go_wp2_with fail
  go_ret
  exact ⟨by rw [HZ.out]; rfl, by rw [HW.out]⟩
theorem TalkAt.new (w : World) : TalkAt (w.heap.size + 2) (fun g => g = w.heap.size ∨ g = w.heap.size + 1) ((w.alloc (.cells (rdCells RS.init (.slice none 0 0) (.slice none 0 0) (.slice none 0 0) 0 0 0) 50)).alloc (.cells #[.pointer (some ⟨w.heap.size, 0, none⟩), .pointer none, .pointer none, .pointer none, .slice none 0 0, .bool false] 66)) (w.heap.size + 1) none [] 0 [] false := by
  have h1 := (TellAt.new w).below (bl_alloc (Below.refl _ _) (.cells #[.pointer (some ⟨w.heap.size, 0, none⟩), .pointer none, .pointer none, .pointer none, .slice none 0 0, .bool false] 66))
  have h2 := Blk.new (w.alloc (.cells (rdCells RS.init (.slice none 0 0) (.slice none 0 0) (.slice none 0 0) 0 0 0) 50)) 66 #[.pointer (some ⟨w.heap.size, 0, none⟩), .pointer none, .pointer none, .pointer none, .slice none 0 0, .bool false]
  rw [World.size_alloc] at h2
  refine ⟨_, w.heap.size, .pointer none, .pointer none, .pointer none, .slice none 0 0, none, [], ⟨h1, h2, rfl, rfl, by omega, .inl (.inr rfl), fun g hg => .inl (.inl hg), .inl rfl, World.ownsRow_nil _ _ _ _, fun g hg => by simp [Value.ownBlock] at hg, fun _ => rfl, by simp⟩, .inl rfl, by simp [isReq], .inl (by simp [isReq])⟩
end Go.Proofs.YtnicmdlicbnlgaaGreatDoor
