/-
  Walks: a reader's header, put together.
-/
import Derived.Test.YtnicmdlicbnlgaaGreatDoorH2
namespace Go.Proofs.YtnicmdlicbnlgaaGreatDoor
open Go.RowKit
set_option linter.unusedVariables false
set_option linter.unusedSimpArgs false

set_option maxRecDepth 100000 in
set_option maxHeartbeats 3200000 in
theorem rk_head (N : Nat) (K : Nat → Prop) (R : Nat) (fed : Bool) (s : RS) (b : List UInt8) (bv hv yv : Value) (used taken : Int) (w : World) (h : RdAt N K w R fed s b bv hv yv 0 used taken) (B : Nat) (he : EnvAt B w) (hBN : B ≤ N) (hBK : ∀ k, K k → B ≤ k)
    (h0 : 0 ≤ taken) (hT : taken + b.length ≤ 1000000000) (hwf : s.wf) (hst : s.state = 1) :
    Calls Tryz.prog 42 #[.pointer (some ⟨R, 0, none⟩)] w (StepPost N K w R fed s b used taken (stepP s b)) := by
  by_cases hm : s.many = 32
  · exact rk_head_32 N K R fed s b bv hv yv used taken w h B he hBN hBK h0 hT hwf hst hm
  have hmb : manyBad s b = false := by
    unfold manyBad
    have : (s.many == 32) = false := by simpa using hm
    rw [this]; rfl
  have hstep := step1 s b hst
  rw [hmb] at hstep
  simp only [Bool.false_eq_true, if_false] at hstep
  by_cases hgo : ∃ l r, lineAt s.left b = .got l r ∧ ¬ l = []
  · obtain ⟨l, r, h1, h2⟩ := hgo
    rw [hstep, h1]
    simp only
    rw [if_neg h2]
    exact rk_head_line N K R fed s b bv hv yv used taken w h B he hBN hBK h0 hT hwf hm l r h1 h2
  have hleft := hwf.left
  have hlow := hwf.low
  have hhigh := hwf.high
  have HL := Lib.hid (rk_line N K R fed s b bv hv yv used taken 282 s.left w h he.env.env h0 hT (by omega))
  have HE := Lib.hid he; clear he
  have HBK := Lib.hid hBK; clear hBK
  have HLW := Lib.hid hlow; clear hlow
  have HHG := Lib.hid hhigh; clear hhigh
  obtain ⟨A, cap, hbv, hcap, -⟩ := h.bytes
  subst hbv
  have c1 : w.cell? ⟨R, 1, none⟩ = some (.slice A b.length cap) := h.blk.cell 1
  have c8 : w.cell? ⟨R, 8, none⟩ = some (.int .i64 (s.many : Int)) := h.blk.cell 8
  have c9 : w.cell? ⟨R, 9, none⟩ = some (.int .i64 (s.left : Int)) := h.blk.cell 9
  have hm' : ¬ (s.many : Int) = 32 := by omega
  clear hm h hwf hmb hleft
  generalize hQ : StepPost N K w R fed s b used taken (stepP s b) = Q
  rw [hstep] at hQ
  clear hstep hst
  cases hl : lineAt s.left b with
  | wait =>
    rw [hl] at hQ
    have HLA := Lib.hid hl; clear hl hgo
    have HQ := Lib.hid hQ; clear hQ
    go_enter Tryz.func42, Tryz.ntmps42
    go_wp2_with fail
    refine HL.out.mono ?_
    rw [HLA.out]
    rintro en w1 ⟨b', bv', wr, t', hR, hTu, ht0, htl, rfl, hb, hwr⟩
    have HF : Hid (Q (.returned (.bool false)) w1) := by
      rw [← HQ.out]; exact ⟨s, b', bv', _, _, wr, t', hR, hTu, ht0, htl, rfl, rfl, hb, hwr⟩
    clear hR hTu ht0 htl hb hwr
    go_wp2_with fail
    exact HF.out
  | bad =>
    rw [hl] at hQ
    have HLA := Lib.hid hl; clear hl hgo
    have HQ := Lib.hid hQ; clear hQ
    go_enter Tryz.func42, Tryz.ntmps42
    go_wp2_with fail
    refine HL.out.mono ?_
    rw [HLA.out]
    rintro en w1 ⟨b', bv', wr, t', hR, hTu, ht0, htl, rfl, hwr⟩
    have HF : Hid (Q (.returned (.bool false)) w1) := by
      rw [← HQ.out]; exact ⟨s, b', bv', _, _, wr, t', hR, hTu, ht0, htl, rfl, hwr⟩
    clear hR hTu ht0 htl hwr
    go_wp2_with fail
    exact HF.out
  | got l r =>
    have hl0 : l = [] := by
      by_cases h : l = []
      · exact h
      · exact absurd ⟨l, r, hl, h⟩ hgo
    subst hl0
    rw [hl] at hQ
    have HLA := Lib.hid hl; clear hl hgo
    have HQ := Lib.hid hQ; clear hQ
    go_enter Tryz.func42, Tryz.ntmps42
    go_wp2_with fail
    refine HL.out.mono ?_
    rw [HLA.out]
    rintro en w1 ⟨b', bv', wr, t', hR, hTu, ht0, htl, rfl, hb, hwr⟩
    subst hwr
    have hd := rk_headed N K R fed s b' bv' hv yv used t' w1 hR ht0 HLW.out HHG.out
    have HD : Hid (Calls Tryz.prog 68 #[.pointer (some ⟨R, 0, none⟩)] w1 fun en w' => ∃ x, en = .returned (.bool x) ∧ Q (.returned (.bool x)) w') := by
      refine hd.mono ?_
      rintro en2 w2 hp
      obtain ⟨x, rfl⟩ := hp.bool
      refine ⟨x, rfl, ?_⟩
      rw [← HQ.out]
      simp only [if_true]
      rw [← hb]
      exact hp.after hTu htl (headedP_go _ _)
    clear hd hR hTu ht0 htl hb
    go_wp2_with fail
    refine HD.out.mono ?_
    rintro en2 w2 ⟨x, rfl, hq⟩
    have HF := Lib.hid hq; clear hq
    go_wp2_with fail
    exact HF.out
end Go.Proofs.YtnicmdlicbnlgaaGreatDoor
