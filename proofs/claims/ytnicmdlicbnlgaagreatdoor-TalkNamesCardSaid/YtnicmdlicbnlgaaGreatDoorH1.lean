/-
  Walks: a reader's header where there may be no more of them.
-/
import Derived.Test.YtnicmdlicbnlgaaGreatDoorFi
namespace Go.Proofs.YtnicmdlicbnlgaaGreatDoor
open Go.RowKit
set_option linter.unusedVariables false
set_option linter.unusedSimpArgs false

theorem StepPost.bool {N : Nat} {K : Nat → Prop} {w w' : World} {R : Nat} {fed : Bool} {s : RS} {b : List UInt8} {used taken : Int} {o : Out} {en : Ending} (h : StepPost N K w R fed s b used taken o en w') : ∃ x, en = .returned (.bool x) := by
  obtain ⟨s2, b2, bv2, hv2, yv2, wr2, t2, q1, q2, q3, q4, q5⟩ := h
  cases o with
  | wait => exact ⟨_, q5.1⟩
  | fail e => exact ⟨_, q5.1⟩
  | on s1 r => exact ⟨_, q5.1⟩
  | whole q r => exact q5.elim
/-- A step behind what a line has left. -/
theorem StepPost.after {N : Nat} {K : Nat → Prop} {w w1 w' : World} {R : Nat} {fed : Bool} {s : RS} {b b' : List UInt8} {used taken t' : Int} {o : Out} {en : Ending} (h : StepPost N K w1 R fed s b' used t' o en w') (ht : Turned N K w w1) (hl : t' + b'.length = taken + b.length) (ho : o ≠ .wait) :
    StepPost N K w R fed s b used taken o en w' := by
  obtain ⟨s2, b2, bv2, hv2, yv2, wr2, t2, q1, q2, q3, q4, q5⟩ := h
  refine ⟨s2, b2, bv2, hv2, yv2, wr2, t2, q1, ht.trans q2, q3, by omega, ?_⟩
  cases o with
  | wait => exact absurd rfl ho
  | fail e => exact q5
  | on s1 r => exact q5
  | whole q r => exact q5
theorem headedP_go (s : RS) (r : List UInt8) : headedP s r ≠ .wait := by
  unfold headedP
  repeat' split
  all_goals (intro h; cases h)
theorem step1 (s : RS) (b : List UInt8) (h : s.state = 1) : stepP s b = (if manyBad s b then .fail 282 else match lineAt s.left b with
    | .wait => .wait
    | .bad => .fail 282
    | .got l r => if l = [] then headedP s r else headP s l r) := by
  rcases s with ⟨st, m, p, hs, cl, many, left, long, chunks, body⟩
  simp only at h
  subst h
  rfl
theorem many_cases (s : RS) (b : List UInt8) (hm : s.many = 32) :
    (b.length = 0 ∧ manyBad s b = false ∧ lineAt s.left b = .wait) ∨
    (∃ h : 0 < b.length, ¬ b[0] = 13 ∧ manyBad s b = true) ∨
    (∃ h : 0 < b.length, b.length = 1 ∧ b[0] = 13 ∧ manyBad s b = false ∧ lineAt s.left b = .wait) ∨
    (∃ h : 1 < b.length, b[0] = 13 ∧ ¬ b[1] = 10 ∧ manyBad s b = true) ∨
    (∃ h : 1 < b.length, b[0] = 13 ∧ b[1] = 10 ∧ manyBad s b = false ∧ lineAt s.left b = .got [] (b.drop 2)) := by
  match b with
  | [] => left; exact ⟨rfl, by simp [manyBad], by simp [lineAt, lineP, thereP]⟩
  | [x] =>
    right
    by_cases hx : x = 13
    · right; left
      exact ⟨by simp, rfl, hx, by simp [manyBad, hx], by simp [lineAt, lineP, thereP, hx]⟩
    · left
      exact ⟨by simp, hx, by simp [manyBad, hm, hx]⟩
  | x :: y :: t =>
    right
    by_cases hx : x = 13
    · right; right
      by_cases hy : y = 10
      · right
        exact ⟨by simp, hx, hy, by simp [manyBad, hx, hy], by simp [lineAt, lineP, hx, hy]⟩
      · left
        exact ⟨by simp, hx, hy, by simp [manyBad, hm, hx, hy]⟩
    · left
      exact ⟨by simp, hx, by simp [manyBad, hm, hx]⟩
theorem ne13 {c : UInt8} (h : ¬ c = 13) : ¬ (c.toNat : Int) = 13 := fun e => h (byte13 e)
theorem ne10 {c : UInt8} (h : ¬ c = 10) : ¬ (c.toNat : Int) = 10 := fun e => h (byte10 e)
set_option maxRecDepth 100000 in
set_option maxHeartbeats 3200000 in
theorem rk_head_32 (N : Nat) (K : Nat → Prop) (R : Nat) (fed : Bool) (s : RS) (b : List UInt8) (bv hv yv : Value) (used taken : Int) (w : World) (h : RdAt N K w R fed s b bv hv yv 0 used taken) (B : Nat) (he : EnvAt B w) (hBN : B ≤ N) (hBK : ∀ k, K k → B ≤ k)
    (h0 : 0 ≤ taken) (hT : taken + b.length ≤ 1000000000) (hwf : s.wf) (hst : s.state = 1) (hm : s.many = 32) :
    Calls Tryz.prog 42 #[.pointer (some ⟨R, 0, none⟩)] w (StepPost N K w R fed s b used taken (stepP s b)) := by
  have hstep := step1 s b hst
  have hleft := hwf.left
  have hlow := hwf.low
  have hhigh := hwf.high
  have HL := Lib.hid (rk_line N K R fed s b bv hv yv used taken 282 s.left w h he.env.env h0 hT (by omega))
  have HE := Lib.hid he; clear he
  have HBK := Lib.hid hBK; clear hBK
  have HLW := Lib.hid hlow; clear hlow
  have HHG := Lib.hid hhigh; clear hhigh
  have HLF := Lib.hid hleft; clear hleft hwf
  obtain ⟨A, cap, hbv, hcap, -⟩ := h.bytes
  subst hbv
  have c1 : w.cell? ⟨R, 1, none⟩ = some (.slice A b.length cap) := h.blk.cell 1
  have c8 : w.cell? ⟨R, 8, none⟩ = some (.int .i64 (s.many : Int)) := h.blk.cell 8
  have c9 : w.cell? ⟨R, 9, none⟩ = some (.int .i64 (s.left : Int)) := h.blk.cell 9
  have c13 : w.cell? ⟨R, 13, none⟩ = some (.int .i64 0) := h.blk.cell 13
  have f13 := h.blk.frozen 13
  rw [hm] at c8
  have HM := Lib.hid hm
  have HST := Lib.hid hst; clear hst
  have H := Lib.hid h; clear h
  have hmc := many_cases s b hm
  clear hm
  generalize hQ : StepPost N K w R fed s b used taken (stepP s b) = Q
  rw [hstep] at hQ
  clear hstep
  have c8' : w.cell? ⟨R, 8, none⟩ = some (.int .i64 32) := c8
  clear c8
  generalize s.left = left at c9 HL HLF hQ hmc
  rcases hmc with ⟨h1, h2, h3⟩ | ⟨h1, h2, h3⟩ | ⟨h1, h2, h3, h4, h5⟩ | ⟨h1, h2, h3, h4⟩ | ⟨h1, h2, h3, h4, h5⟩
  · rw [h2, h3] at hQ
    have HLA := Lib.hid h3; clear h3 h2
    have HQ := Lib.hid hQ; clear hQ
    go_enter Tryz.func42, Tryz.ntmps42
    go_wp2_with fail
    refine HL.out.mono ?_
    rw [HLA.out]
    rintro en w1 ⟨b', bv', wr, t', hR, hTu, ht0, htl, rfl, hb, hwr⟩
    have HF : Hid (Q (.returned (.bool false)) w1) := by
      rw [← HQ.out]; exact ⟨s, b', bv', _, _, wr, t', hR, hTu, ht0, htl, rfl, rfl, hb, hwr⟩
    clear hR hTu ht0 htl hb hwr
    go_wp2_with fail
    exact HF.out
  · rw [h3] at hQ
    clear h3
    have pF : Q (.returned (.bool false)) (w.setCell ⟨R, 13, none⟩ (.int .i64 282)) := by
      rw [← hQ]
      exact ⟨s, b, _, _, _, 282, taken, H.out.wrong_ 282, Turned.setR H.out (Turned.refl _ _ _) _ _, h0, rfl, rfl, rfl⟩
    have PF := Lib.hid pF; clear pF hQ
    obtain ⟨g, off, hA, hcell⟩ := H.out.bytes.byte h1
    subst hA
    have hx := ne13 h2
    clear h2
    generalize b[0] = c at hcell hx
    have hne0 : ¬ b.length = 0 := by omega
    have hne : ¬ b = [] := by rintro rfl; simp at h1
    rw [Nat.add_zero] at hcell
    go_enter Tryz.func42, Tryz.ntmps42
    go_wp2_with fail
    refine (rk_fail _ _ _ _ c13 f13).mono ?_
    rintro en w3 ⟨rfl, rfl⟩
    go_wp2_with fail
    exact PF.out
  · rw [h4, h5] at hQ
    have HLA := Lib.hid h5; clear h5 h4
    have HQ := Lib.hid hQ; clear hQ
    obtain ⟨g, off, hA, hcell⟩ := H.out.bytes.byte h1
    subst hA
    rw [h3] at hcell
    clear h3
    have hcell' : w.cell? ⟨g, off, none⟩ = some (.int .u8 13) := hcell
    clear hcell
    go_enter Tryz.func42, Tryz.ntmps42
    go_wp2_with fail
    refine HL.out.mono ?_
    rw [HLA.out]
    rintro en w1 ⟨b', bv', wr, t', hR, hTu, ht0, htl, rfl, hb, hwr⟩
    have HF : Hid (Q (.returned (.bool false)) w1) := by
      rw [← HQ.out]; exact ⟨s, b', bv', _, _, wr, t', hR, hTu, ht0, htl, rfl, rfl, hb, hwr⟩
    clear hR hTu ht0 htl hb hwr
    go_wp2_with fail
    exact HF.out
  · rw [h4] at hQ
    clear h4
    have pF : Q (.returned (.bool false)) (w.setCell ⟨R, 13, none⟩ (.int .i64 282)) := by
      rw [← hQ]
      exact ⟨s, b, _, _, _, 282, taken, H.out.wrong_ 282, Turned.setR H.out (Turned.refl _ _ _) _ _, h0, rfl, rfl, rfl⟩
    have PF := Lib.hid pF; clear pF hQ
    obtain ⟨g, off, hA, hcell⟩ := H.out.bytes.byte (i := 0) (by omega)
    obtain ⟨g', off', hA', hcell1⟩ := H.out.bytes.byte h1
    subst hA
    obtain ⟨rfl, rfl⟩ : g = g' ∧ off = off' := by simpa using hA'
    clear hA'
    rw [h2] at hcell
    have hx := ne10 h3
    clear h2 h3
    generalize b[1] = c at hcell1 hx
    have hcell' : w.cell? ⟨g, off, none⟩ = some (.int .u8 13) := hcell
    clear hcell
    have hne0 : ¬ b.length = 0 := by omega
    have hne1 : 0 < b.length := by omega
    have hne : ¬ b = [] := by rintro rfl; simp at h1
    go_enter Tryz.func42, Tryz.ntmps42
    go_wp2_with fail
    refine (rk_fail _ _ _ _ c13 f13).mono ?_
    rintro en w3 ⟨rfl, rfl⟩
    go_wp2_with fail
    exact PF.out
  · rw [h4, h5] at hQ
    have HLA := Lib.hid h5; clear h5 h4
    have HQ := Lib.hid hQ; clear hQ
    obtain ⟨g, off, hA, hcell⟩ := H.out.bytes.byte (i := 0) (by omega)
    obtain ⟨g', off', hA', hcell1⟩ := H.out.bytes.byte h1
    subst hA
    obtain ⟨rfl, rfl⟩ : g = g' ∧ off = off' := by simpa using hA'
    clear hA'
    rw [h2] at hcell
    rw [h3] at hcell1
    clear h2 h3
    have hcell' : w.cell? ⟨g, off, none⟩ = some (.int .u8 13) := hcell
    have hcell1' : w.cell? ⟨g, off + 1, none⟩ = some (.int .u8 10) := hcell1
    clear hcell hcell1
    have hne0 : ¬ b.length = 0 := by omega
    have hne1 : 0 < b.length := by omega
    have hne : ¬ b = [] := by rintro rfl; simp at h1
    go_enter Tryz.func42, Tryz.ntmps42
    go_wp2_with fail
    refine HL.out.mono ?_
    rw [HLA.out]
    rintro en w1 ⟨b', bv', wr, t', hR, hTu, ht0, htl, rfl, hb, hwr⟩
    subst hwr
    have hd := rk_headed N K R fed s b' bv' hv yv used t' w1 hR ht0 HLW.out HHG.out
    have HD : Hid (Calls Tryz.prog 68 #[.pointer (some ⟨R, 0, none⟩)] w1 fun en w' => ∃ x, en = .returned (.bool x) ∧ Q (.returned (.bool x)) w') := by
      refine hd.mono ?_
      rintro en2 w2 hp
      obtain ⟨x, rfl⟩ := hp.bool
      refine ⟨x, rfl, ?_⟩
      rw [← HQ.out]
      simp only [Bool.false_eq_true, if_false, if_true]
      rw [← hb]
      exact hp.after hTu htl (headedP_go _ _)
    clear hd hR hTu ht0 htl hb
    go_wp2_with fail
    refine HD.out.mono ?_
    rintro en2 w2 ⟨x, rfl, hq⟩
    have HF := Lib.hid hq; clear hq
    go_wp2_with fail
    exact HF.out
end Go.Proofs.YtnicmdlicbnlgaaGreatDoor
