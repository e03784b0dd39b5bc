/-
  Walks: docketlaw28's rest.
-/
import Derived.Test.YtnicmdlicbnlgaaGreatDoorAg
namespace Go.Proofs.YtnicmdlicbnlgaaGreatDoor
open Go.RowKit
set_option linter.unusedVariables false
set_option linter.unusedSimpArgs false

theorem AgentAt.form {N : Nat} {S : Nat → Prop} {w : World} {R : Nat} {v : Value} {F : List UInt8} {told : List Rq} (h : AgentAt N S w R v F told) : ∃ X c, v = .slice X told.length c := by
  obtain ⟨s, b, bv, hv, yv, wrong, used, taken, ts, h1, h2, h3, h4, h5, h6, h7, h8, h9⟩ := h
  obtain ⟨X, c, hX⟩ := own_slice h6.1
  exact ⟨X, c, by rw [hX, ← h7]; simp⟩
theorem AgGot.parts {N : Nat} {S : Nat → Prop} {w : World} {R : Nat} {v : Value} {F : List UInt8} {told : List Rq} {ts : List (Rq × Value)} {q : Rq} {hq : Value} (h : AgGot N S w R v F told ts q hq) :
    w.ownsRow 0 33 5 v ts.length (toldCells ts) ∧ ts.length = told.length ∧ told.length < (allP F).1.length ∧ (∃ A c, hq = .slice A q.hs.length c) := by
  obtain ⟨s, b, bv, hv, yv, wrong, used, taken, h1, h2, h3, h4, h5, h6, h7, h8, h9, h10, h11, l, h12⟩ := h
  refine ⟨h6.1, by rw [← h7]; simp, by rw [h12]; simp, own_slice h10⟩
def lenV : Value → Nat
  | .slice _ n _ => n
  | _ => 0
def AgRel (N : Nat) (S : Nat → Prop) (w : World) (R : Nat) (F : List UInt8) (v : Value) (wr : World) : Prop := ∃ told, AgentAt N S wr R v F told ∧ Turned N S w wr
def RestPost (N : Nat) (S : Nat → Prop) (w : World) (R : Nat) (F : List UInt8) (en : Ending) (w' : World) : Prop :=
  ∃ v', en = .returned (.tuple #[v', .int .i64 (allP F).2.2]) ∧ AgentAt N S w' R v' F (allP F).1 ∧ Turned N S w w'
theorem told_len {N : Nat} {S : Nat → Prop} {w : World} {R : Nat} {v : Value} {F : List UInt8} {told : List Rq} (h : AgentAt N S w R v F told) : lenV v = told.length := by
  obtain ⟨X, c, rfl⟩ := h.form
  rfl
set_option maxRecDepth 100000 in
set_option maxHeartbeats 3200000 in
theorem lw_rest (N : Nat) (S : Nat → Prop) (w : World) (R : Nat) (v : Value) (F : List UInt8) (told : List Rq) (B : Nat) (most : Int) (he : EnvAt B w) (hBN : B ≤ N) (hBS : ∀ k, S k → B ≤ k) (h : AgentAt N S w R v F told) (hF : F.length ≤ 1000000) (hm : ((allP F).1.length : Int) < most) (hm2 : most ≤ 2000000) :
    Calls Tryz.prog 21 #[.pointer (some ⟨R, 0, none⟩), v, .int .i64 most] w (RestPost N S w R F) := by
  obtain ⟨i0, hi, hz0, hz1, hz2⟩ := info_parts info_req
  have hst : AgRel N S w R F v w := ⟨told, h, Turned.refl _ _ _⟩
  have HST := Lib.hid hst; clear hst
  have hlenF := (all_len F).2
  obtain ⟨L, hL⟩ : ∃ L, L = (allP F).1.length := ⟨_, rfl⟩
  rw [← hL] at hm hlenF
  have HL := Lib.hid hL; clear hL
  have HE := Lib.hid he; clear he
  have HBS := Lib.hid hBS; clear hBS
  clear h
  generalize hQ : RestPost N S w R F = Q
  have HQ := Lib.hid hQ; clear hQ
  go_enter Tryz.func21, Tryz.ntmps21
  go_wp2_with fail
  go_loopw [1] (fun l wr => AgRel N S w R F l wr) (fun l wr => L + 1 - lenV l)
  case atStart => exact HST.out
  case round =>
    obtain ⟨told', hA, hTw⟩ := hrel
    obtain ⟨X, c, rfl⟩ := hA.form
    have HC := Lib.hid (ag_next N S wr R _ F told' B (HE.out.turned hTw hBN HBS.out) hBN HBS.out hA hF)
    have HTw := Lib.hid hTw; clear hTw
    clear hA
    go_wp2_with fail
    refine HC.out.mono ?_
    rintro en w2 ⟨hT, hor⟩
    rcases hor with ⟨e, rfl, hA2, ha1, ha2⟩ | ⟨q, hq, ts, rfl, hG⟩
    · have HF : Hid (∀ W, Below w2.heap.size w2 W → Q (.returned (.tuple #[.slice X told'.length c, .int .i64 e])) W) := fun W hW => by
        rw [← HQ.out]
        have hA3 := hA2.below hW
        refine ⟨_, by rw [ha2], by rw [ha1]; exact hA3, HTw.out.trans (hT.trans (Turned.of_below hW ?_))⟩
        obtain ⟨s', b', bv', hv', yv', wr', us', tk', ts', k1, _⟩ := hA2
        exact k1.low
      clear hT hA2 ha1 ha2 HC
      unfold zeroReq
      go_wp2_with fail
      first
        | exact HF.out _ (bl_alloc (Below.refl _ _) _)
        | (go_ret2; exact HF.out _ (bl_alloc (Below.refl _ _) _))
    · obtain ⟨hown, hlen, hlt, A, c2, rfl⟩ := hG.parts
      have HLT : told'.length < L := by rw [HL.out]; exact hlt
      have HG := Lib.hid hG; clear hG
      have HT := Lib.hid hT; clear hT
      have HO := Lib.hid hown; clear hown
      have HLE := Lib.hid hlen; clear hlen hlt HC
      unfold rqVal
      go_wp2_with (at_builtin; refine wpList_append_any _ rfl (.tmp 27) (.tmp 29) 28 rfl 0 33 i0 _ 5 80 Tryz.underlying28 hi hz0 hz1 hz2 rfl (by decide) (.slice X told'.length c) ts.length (toldCells ts) rfl ((HO.out.alloc _).alloc _) _ (some ⟨w2.heap.size + 1, 0, none⟩) 1 1 (toldCells [(q, .slice A q.hs.length c2)]) rfl (reads_new5 _ _ _ _ _ _ _) (five_cells _ _ _ _) (by have := HLE.out; simp only [maxLen]; omega) (by have := HLE.out; omega) (Nat.zero_le _) ?_)
      intro v' w' hown hgrow hat
      have hG2 := HG.out.below (bl_alloc (bl_alloc (Below.refl _ w2) (Obj.cells #[.string q.m, .string q.p, .slice A q.hs.length c2, .string q.body, .bool q.close] 33)) (Obj.cells #[.string q.m, .string q.p, .slice A q.hs.length c2, .string q.body, .bool q.close] 33))
      obtain ⟨hA3, hT3⟩ := hG2.push hown hgrow (hat.imp id fun h => by simpa using h)
      have hlow : N ≤ w2.heap.size := by
        obtain ⟨s', b', bv', hv', yv', wr', us', tk', k1, _⟩ := HG.out
        exact k1.low
      have HN : Hid (AgRel N S w R F v' w') := ⟨told' ++ [q], hA3, HTw.out.trans (HT.out.trans ((Turned.of_below (bl_alloc (bl_alloc (Below.refl _ w2) _) _) hlow).trans hT3))⟩
      have HM : Hid (L + 1 - lenV v' < L + 1 - lenV (.slice X told'.length c)) := by
        show L + 1 - lenV v' < L + 1 - lenV (.slice X told'.length c)
        rw [told_len hA3, List.length_append]
        show L + 1 - (told'.length + 1) < L + 1 - told'.length
        omega
      clear hown hgrow hat hG2 hA3 hT3
      go_wp2_with fail
      go_roundw
      case rel => exact HN.out
      case measure => exact HM.out
end Go.Proofs.YtnicmdlicbnlgaaGreatDoor
