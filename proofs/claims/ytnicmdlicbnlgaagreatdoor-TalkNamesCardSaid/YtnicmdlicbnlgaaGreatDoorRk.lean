/-
  Walks: a reader's fail, skip, headed.
-/
import Derived.Test.YtnicmdlicbnlgaaGreatDoorRd
import Derived.Test.YtnicmdlicbnlgaaGreatDoorPq
import Derived.WalkKit
import Derived.WalkSpells
import Derived.WalkLawsBesides
import Derived.BigQuiet
import Derived.Deep.QuietTactic
import Derived.Lib.QuietBelow
namespace Go.Proofs.YtnicmdlicbnlgaaGreatDoor
open Go.RowKit
set_option linter.unusedVariables false
set_option linter.unusedSimpArgs false

theorem set_ne (w : World) (R i j : Nat) (v : Value) {u : Value} (h : i ≠ j) (hc : w.cell? ⟨R, j, none⟩ = some u) : (w.setCell ⟨R, i, none⟩ v).cell? ⟨R, j, none⟩ = some u :=
  (World.cell?_setCell_other _ _ _ _ (by simp [Ne.symm h, h])).trans hc
theorem set_fr (w : World) (R i j : Nat) (v : Value) (hc : w.frozen? ⟨R, j, none⟩ = false) : (w.setCell ⟨R, i, none⟩ v).frozen? ⟨R, j, none⟩ = false :=
  (World.frozen?_setCell _ _ _ _).trans hc
set_option maxHeartbeats 400000 in
theorem rk_fail (R : Nat) (e : Int) (w : World) (v : Value) (c : w.cell? ⟨R, 13, none⟩ = some v) (f : w.frozen? ⟨R, 13, none⟩ = false) :
    Calls Tryz.prog 67 #[.pointer (some ⟨R, 0, none⟩), .int .i64 e] w fun en w' => en = .returned (.bool false) ∧ w' = w.setCell ⟨R, 13, none⟩ (.int .i64 e) := by
  go_enter Tryz.func67, Tryz.ntmps67
  go_wp2
  go_ret
  exact ⟨rfl, rfl⟩
set_option maxHeartbeats 400000 in
theorem rk_skip (R : Nat) (A : Option Addr) (n cap k : Nat) (kk t : Int) (w : World) (hkk : kk = (k : Int)) (hk : k ≤ n) (hn : n ≤ 1000000000) (h0 : 0 ≤ t) (ht : t ≤ 1000000000)
    (c1 : w.cell? ⟨R, 1, none⟩ = some (.slice A n cap)) (f1 : w.frozen? ⟨R, 1, none⟩ = false) (c15 : w.cell? ⟨R, 15, none⟩ = some (.int .i64 t)) (f15 : w.frozen? ⟨R, 15, none⟩ = false) :
    Calls Tryz.prog 70 #[.pointer (some ⟨R, 0, none⟩), .int .i64 kk] w fun en w' => en = .returned (.tuple #[]) ∧ w' = (w.setCell ⟨R, 1, none⟩ (cutV A n cap k)).setCell ⟨R, 15, none⟩ (.int .i64 (t + k)) := by
  subst hkk
  unfold cutV
  go_enter Tryz.func70, Tryz.ntmps70
  go_wp2
  all_goals (go_end0; exact ⟨rfl, by simp [*]⟩)
/-- What a step of the reader leaves: told by 'stepP'. -/
def StepPost (N : Nat) (K : Nat → Prop) (w : World) (R : Nat) (fed : Bool) (s : RS) (b : List UInt8) (used taken : Int) (o : Out) (en : Ending) (w' : World) : Prop :=
  ∃ (s' : RS) (b' : List UInt8) (bv' hv' yv' : Value) (wr t' : Int), RdAt N K w' R fed s' b' bv' hv' yv' wr used t' ∧ Turned N K w w' ∧ 0 ≤ t' ∧ t' + b'.length = taken + b.length ∧
    (match o with
    | .wait => en = .returned (.bool false) ∧ s' = s ∧ b' = b ∧ wr = 0
    | .fail e => en = .returned (.bool false) ∧ wr = e
    | .on s1 r => en = .returned (.bool true) ∧ s' = s1 ∧ b' = r ∧ wr = 0
    | .whole _ _ => False)
set_option maxHeartbeats 800000 in
theorem rk_headed (N : Nat) (K : Nat → Prop) (R : Nat) (fed : Bool) (s : RS) (b : List UInt8) (bv hv yv : Value) (used taken : Int) (w : World) (h : RdAt N K w R fed s b bv hv yv 0 used taken) (h0 : 0 ≤ taken) (hl : -1 ≤ s.long) (hh : s.long ≤ 9999999) :
    Calls Tryz.prog 68 #[.pointer (some ⟨R, 0, none⟩)] w (StepPost N K w R fed s b used taken (headedP s b)) := by
  have c2 : w.cell? ⟨R, 2, none⟩ = some (.int .i64 (s.state : Int)) := h.blk.cell 2
  have c10 : w.cell? ⟨R, 10, none⟩ = some (.int .i64 s.long) := h.blk.cell 10
  have c11 : w.cell? ⟨R, 11, none⟩ = some (.bool s.chunks) := h.blk.cell 11
  have c13 : w.cell? ⟨R, 13, none⟩ = some (.int .i64 0) := h.blk.cell 13
  have f2 := h.blk.frozen 2
  have f13 := h.blk.frozen 13
  have H := Lib.hid h; clear h
  obtain ⟨ch, hch⟩ : ∃ x, x = s.chunks := ⟨_, rfl⟩
  obtain ⟨lg, hlg⟩ : ∃ x, x = s.long := ⟨_, rfl⟩
  rw [← hch] at c11
  rw [← hlg] at c10 hl hh
  have HC := Lib.hid hch; clear hch
  have HG := Lib.hid hlg; clear hlg
  have post1 : ∀ e, headedP s b = .fail e → StepPost N K w R fed s b used taken (headedP s b) (.returned (.bool false)) (w.setCell ⟨R, 13, none⟩ (.int .i64 e)) := fun e he => by
    rw [he]
    exact ⟨s, b, bv, hv, yv, e, taken, H.out.wrong_ e, Turned.setR H.out (Turned.refl _ _ _) _ _, h0, rfl, rfl, rfl⟩
  have post2 : ∀ k : Nat, headedP s b = .on { s with state := k } b → StepPost N K w R fed s b used taken (headedP s b) (.returned (.bool true)) (w.setCell ⟨R, 2, none⟩ (.int .i64 (k : Int))) := fun k he => by
    rw [he]
    exact ⟨{ s with state := k }, b, bv, hv, yv, 0, taken, H.out.store 2 _ rfl rfl rfl, Turned.setR H.out (Turned.refl _ _ _) _ _, h0, rfl, rfl, rfl, rfl, rfl⟩
  have P1 := Lib.hid post1; clear post1
  have P2 := Lib.hid post2; clear post2
  generalize hQ : StepPost N K w R fed s b used taken (headedP s b) = Q at P1 P2 ⊢
  have HQ := Lib.hid hQ; clear hQ
  by_cases hl8 : 8192 < lg
  all_goals by_cases hl0 : 0 ≤ lg
  all_goals cases ch
  all_goals try (exfalso; omega)
  all_goals
    go_enter Tryz.func68, Tryz.ntmps68
    go_wp2_with (go_at_call 67; refine (rk_fail _ _ _ _ c13 f13).mono ?_; rintro e w' ⟨rfl, rfl⟩)
    have T1 : (decide (0 ≤ lg) = true ∧ 0 ≤ lg) ∨ (decide (0 ≤ lg) = false ∧ lg < 0) := by by_cases h : 0 ≤ lg <;> simp [h] <;> omega
    have T2 : ∀ {α : Type} (x y : α), ((if 8192 < lg then x else y) = x ∧ 8192 < lg) ∨ ((if 8192 < lg then x else y) = y ∧ lg ≤ 8192) := fun x y => by by_cases h : 8192 < lg <;> simp [h] <;> omega
    first
      | (refine P1.out _ ?_; unfold headedP; rw [← HC.out, ← HG.out]; rcases T1 with ⟨t1, t1'⟩ | ⟨t1, t1'⟩ <;> rcases T2 (Out.fail 281) (Out.fail 281) with ⟨_, t2⟩ | ⟨_, t2⟩ <;> first | (exfalso; omega) | (rw [t1]; (try rw [if_pos t2]); rfl) | (rw [t1]; (try rw [if_neg (Int.not_lt.2 t2)]); rfl))
      | (refine P2.out _ ?_; unfold headedP; rw [← HC.out, ← HG.out]; rcases T1 with ⟨t1, t1'⟩ | ⟨t1, t1'⟩ <;> rcases T2 (Out.fail 281) (Out.fail 281) with ⟨_, t2⟩ | ⟨_, t2⟩ <;> first | (exfalso; omega) | (rw [t1]; (try rw [if_pos t2]); rfl) | (rw [t1]; (try rw [if_neg (Int.not_lt.2 t2)]); rfl))
end Go.Proofs.YtnicmdlicbnlgaaGreatDoor
