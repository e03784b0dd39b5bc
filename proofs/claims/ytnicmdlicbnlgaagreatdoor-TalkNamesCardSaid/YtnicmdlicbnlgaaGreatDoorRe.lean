/-
  Walks: a reader takes 13 and 10.
-/
import Derived.Test.YtnicmdlicbnlgaaGreatDoorRn
namespace Go.Proofs.YtnicmdlicbnlgaaGreatDoor
open Go.RowKit
set_option linter.unusedVariables false
set_option linter.unusedSimpArgs false

/-- What taking 13 and 10 leaves. -/
def EndPost (N : Nat) (K : Nat → Prop) (w : World) (R : Nat) (fed : Bool) (s : RS) (b : List UInt8) (hv yv : Value) (used taken : Int) (o : Ln) (en : Ending) (w' : World) : Prop :=
  ∃ (b' : List UInt8) (bv' : Value) (wr t' : Int), RdAt N K w' R fed s b' bv' hv yv wr used t' ∧ Turned N K w w' ∧ 0 ≤ t' ∧ t' + b'.length = taken + b.length ∧
    (match o with
    | .wait => en = .returned (.bool false) ∧ b' = b ∧ wr = 0
    | .bad => en = .returned (.bool false) ∧ wr = 280
    | .got l r => en = .returned (.bool true) ∧ b' = r ∧ wr = 0)
/-- The first j bytes are 13 and 10's. -/
def EndTo (b : List UInt8) (j : Nat) : Prop := (1 ≤ j → b[0]? = some 13) ∧ (2 ≤ j → b[1]? = some 10)
theorem end_to (b : List UInt8) (h : EndTo b 2) : endAt b = .got [] (b.drop 2) ∧ 2 ≤ b.length := by
  have h0 := h.1 (by omega)
  have h1 := h.2 (by omega)
  match b, h0, h1 with
  | x :: y :: t, h0, h1 =>
    simp at h0 h1
    subst h0; subst h1
    exact ⟨rfl, by simp⟩
  | [x], h0, h1 => simp at h1
  | [], h0, h1 => simp at h1
theorem end_wait (b : List UInt8) (j : Nat) (hj : j < 2) (h : EndTo b j) (hb : b.length ≤ j) : endAt b = .wait := by
  match b, hb with
  | [], hb => rfl
  | [x], hb =>
    have h0 := h.1 (by simpa using hb)
    simp at h0
    subst h0
    rfl
  | x :: y :: t, hb => simp at hb; omega
theorem end_bad (b : List UInt8) (j : Nat) (hj : j < 2) (h : EndTo b j) (hb : j < b.length) (hne : b[j] ≠ if j = 0 then 13 else 10) : endAt b = .bad := by
  match b, hb with
  | [x], hb =>
    obtain rfl : j = 0 := by simp at hb; omega
    have : x ≠ 13 := by simpa using hne
    simp [endAt, this]
  | x :: y :: t, hb =>
    rcases (show j = 0 ∨ j = 1 by omega) with rfl | rfl
    · have : x ≠ 13 := by simpa using hne
      simp [endAt, this]
    · have h0 := h.1 (by omega)
      simp at h0
      subst h0
      have : y ≠ 10 := by simpa using hne
      simp [endAt, this]
theorem end_next (b : List UInt8) (j : Nat) (hj : j < 2) (h : EndTo b j) (hb : j < b.length) (he : b[j] = if j = 0 then 13 else 10) : EndTo b (j + 1) := by
  rcases (show j = 0 ∨ j = 1 by omega) with rfl | rfl
  · refine ⟨fun _ => ?_, fun h => by omega⟩
    rw [List.getElem?_eq_getElem hb, he]; rfl
  · refine ⟨fun _ => h.1 (by omega), fun _ => ?_⟩
    rw [List.getElem?_eq_getElem hb, he]; rfl
set_option maxRecDepth 100000 in
set_option maxHeartbeats 1600000 in
theorem rk_end (N : Nat) (K : Nat → Prop) (R : Nat) (fed : Bool) (s : RS) (b : List UInt8) (bv hv yv : Value) (used taken : Int) (w : World) (h : RdAt N K w R fed s b bv hv yv 0 used taken)
    (h0 : 0 ≤ taken) (hT : taken + b.length ≤ 1000000000) :
    Calls Tryz.prog 46 #[.pointer (some ⟨R, 0, none⟩)] w (EndPost N K w R fed s b hv yv used taken (endAt b)) := by
  obtain ⟨A, cap, hbv, hcap, -⟩ := h.bytes
  subst hbv
  have c1 : w.cell? ⟨R, 1, none⟩ = some (.slice A b.length cap) := h.blk.cell 1
  have f1 := h.blk.frozen 1
  have f13 := h.blk.frozen 13
  have f15 := h.blk.frozen 15
  have c13 : w.cell? ⟨R, 13, none⟩ = some (.int .i64 0) := h.blk.cell 13
  have c15 : w.cell? ⟨R, 15, none⟩ = some (.int .i64 taken) := h.blk.cell 15
  have hRlt : R < w.heap.size := h.blk.lt
  have H := Lib.hid h; clear h
  obtain ⟨W1, hcv, hB1, n0, n1⟩ := crlf w
  have cc1 := (hB1.cell (p := ⟨R, 1, none⟩) hRlt).trans c1
  have cc13 := (hB1.cell (p := ⟨R, 13, none⟩) hRlt).trans c13
  have cc15 := (hB1.cell (p := ⟨R, 15, none⟩) hRlt).trans c15
  have ff1 := (hB1.frozen (p := ⟨R, 1, none⟩) hRlt).trans f1
  have ff13 := (hB1.frozen (p := ⟨R, 13, none⟩) hRlt).trans f13
  have ff15 := (hB1.frozen (p := ⟨R, 15, none⟩) hRlt).trans f15
  have pW : endAt b = .wait → EndPost N K w R fed s b hv yv used taken (endAt b) (.returned (.bool false)) W1 := fun hl => by
    rw [hl]
    exact ⟨b, _, 0, taken, H.out.below hB1, Turned.of_below hB1 H.out.low, h0, rfl, rfl, rfl, rfl⟩
  have pB : endAt b = .bad → EndPost N K w R fed s b hv yv used taken (endAt b) (.returned (.bool false)) (W1.setCell ⟨R, 13, none⟩ (.int .i64 280)) := fun hl => by
    rw [hl]
    exact ⟨b, _, 280, taken, (H.out.below hB1).wrong_ 280, Turned.setR H.out (Turned.of_below hB1 H.out.low) _ _, h0, rfl, rfl, rfl⟩
  have pG : endAt b = .got [] (b.drop 2) → 2 ≤ b.length → EndPost N K w R fed s b hv yv used taken (endAt b) (.returned (.bool true)) ((W1.setCell ⟨R, 1, none⟩ (cutV A b.length cap 2)).setCell ⟨R, 15, none⟩ (.int .i64 (taken + ((2 : Nat) : Int)))) := fun hl hb => by
    have hlen : (b.drop 2).length = b.length - 2 := List.length_drop
    rw [hl]
    have := (H.out.below hB1).skip 2 hb
    refine ⟨b.drop 2, _, 0, _, this, ?_, by omega, by rw [hlen]; omega, rfl, rfl, rfl⟩
    exact Turned.setR H.out (Turned.setR H.out (Turned.of_below hB1 H.out.low) _ _) _ _
  have PW := Lib.hid pW; clear pW
  have PB := Lib.hid pB; clear pB
  have PG := Lib.hid pG; clear pG
  generalize hQ : EndPost N K w R fed s b hv yv used taken (endAt b) = Q at PW PB PG ⊢
  clear hQ
  have HB1 := Lib.hid hB1; clear hB1
  go_enter Tryz.func46, Tryz.ntmps46
  go_wp2_with fail
  go_loop [8] (fun i => ∃ j : Nat, j ≤ 2 ∧ i = .int .i64 j ∧ Hid (EndTo b j)) (fun i => 2 - (intOf i).toNat)
  case atStart => exact ⟨0, by omega, rfl, ⟨fun h => by omega, fun h => by omega⟩⟩
  case round =>
    obtain ⟨j, hj, rfl, HJ⟩ := hrel
    by_cases hj2 : j < 2
    · by_cases hb : j < b.length
      · obtain ⟨g, off, hA, hcell⟩ := H.out.bytes.byte hb
        subst hA
        have hcell' := (HB1.out.cell (p := ⟨g, off + j, none⟩) (lt_of_cell hcell)).trans hcell
        obtain ⟨c, hc⟩ : ∃ c, c = b[j] := ⟨_, rfl⟩
        rw [← hc] at hcell'
        clear hcell
        have HC := Lib.hid hc; clear hc
        rcases (show j = 0 ∨ j = 1 by omega) with rfl | rfl
        · have hne : ¬ b = [] := by rintro rfl; simp at hb
          have hne0 : ¬ b.length = 0 := by omega
          rw [Nat.add_zero] at hcell'
          by_cases hx : (c.toNat : Int) = 13
          · have HN : Hid (EndTo b (0 + 1)) := end_next b 0 (by omega) HJ.out hb (by rw [← HC.out, byte13 hx]; rfl)
            go_wp2_with fail
            go_round
            case rel => exact ⟨1, by omega, by go_num, HN⟩
            case measure => simp [intOf]
          · have HN := Lib.hid (end_bad b 0 (by omega) HJ.out hb (by rw [← HC.out]; exact fun h => hx (by rw [h]; rfl)))
            go_wp2_with fail
            refine (rk_fail _ _ _ _ (by simpa using cc13) (by simpa using ff13)).mono ?_
            rintro en w2 ⟨rfl, rfl⟩
            go_wp2_with fail
            exact PB.out HN.out
        · by_cases hx : (c.toNat : Int) = 10
          · have HN : Hid (EndTo b (1 + 1)) := end_next b 1 (by omega) HJ.out hb (by rw [← HC.out, byte10 hx]; rfl)
            go_wp2_with fail
            go_round
            case rel => exact ⟨2, by omega, by go_num, HN⟩
            case measure => simp [intOf]
          · have HN := Lib.hid (end_bad b 1 (by omega) HJ.out hb (by rw [← HC.out]; exact fun h => hx (by rw [h]; rfl)))
            go_wp2_with fail
            refine (rk_fail _ _ _ _ (by simpa using cc13) (by simpa using ff13)).mono ?_
            rintro en w2 ⟨rfl, rfl⟩
            go_wp2_with fail
            exact PB.out HN.out
      · have hbi : (b.length : Int) ≤ (j : Int) := by omega
        have HN := Lib.hid (end_wait b j hj2 HJ.out (by omega))
        rcases (show j = 0 ∨ j = 1 by omega) with rfl | rfl
        · have hb0 : b.length = 0 := by omega
          go_wp2_with fail
          exact PW.out HN.out
        · have hb0 : b.length ≤ 1 := by omega
          go_wp2_with fail
          exact PW.out HN.out
    · obtain rfl : j = 2 := by omega
      obtain ⟨e1, e2⟩ := end_to b HJ.out
      have HE := Lib.hid e1; clear e1
      go_wp2_with fail
      refine (rk_skip R A b.length cap 2 _ taken _ rfl (by omega) (by omega) h0 (by omega) (by simpa using cc1) (by simpa using ff1) (by simpa using cc15) (by simpa using ff15)).mono ?_
      rintro en w2 ⟨rfl, rfl⟩
      go_wp2_with fail
      exact PG.out HE.out e2
end Go.Proofs.YtnicmdlicbnlgaaGreatDoor
