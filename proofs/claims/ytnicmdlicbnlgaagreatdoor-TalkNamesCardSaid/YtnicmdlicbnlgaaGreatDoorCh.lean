/-
  Walks: a reader's chunk.
-/
import Derived.Test.YtnicmdlicbnlgaaGreatDoorDg
import Derived.Test.YtnicmdlicbnlgaaGreatDoorRs
namespace Go.Proofs.YtnicmdlicbnlgaaGreatDoor
open Go.RowKit
set_option linter.unusedVariables false
set_option linter.unusedSimpArgs false

theorem step3 (s : RS) (b : List UInt8) (h : s.state = 3) : stepP s b = (match lineAt 6 b with
    | .wait => .wait
    | .bad => .fail 280
    | .got l r => if hexP l < 0 then .fail 280 else if 8192 - (s.body.length : Int) < hexP l then .fail 281 else if hexP l = 0 then .on { s with state := 6 } r else .on { s with state := 4, long := hexP l } r) := by
  rcases s with ⟨st, m, p, hs, cl, many, left, long, chunks, body⟩
  simp only at h
  subst h
  rfl
theorem hexP_high (s : List UInt8) : -1 ≤ hexP s ∧ hexP s ≤ 16777215 := by
  cases h : digOk 6 s with
  | false => rw [hex_not s h]; decide
  | true =>
    rw [hex_yes s h]
    have := hex_take s h s.length
    rw [List.take_of_length_le (Nat.le_refl _)] at this
    omega
set_option maxRecDepth 100000 in
set_option maxHeartbeats 3200000 in
theorem rk_chunk (N : Nat) (K : Nat → Prop) (R : Nat) (fed : Bool) (s : RS) (b : List UInt8) (bv hv yv : Value) (used taken : Int) (w : World) (h : RdAt N K w R fed s b bv hv yv 0 used taken) (B : Nat) (he : EnvAt B w) (hBN : B ≤ N) (hBK : ∀ k, K k → B ≤ k)
    (h0 : 0 ≤ taken) (hT : taken + b.length ≤ 1000000000) (hwf : s.wf) (hst : s.state = 3) :
    Calls Tryz.prog 45 #[.pointer (some ⟨R, 0, none⟩)] w (StepPost N K w R fed s b used taken (stepP s b)) := by
  have hstep := step3 s b hst
  have hbody := hwf.body
  obtain ⟨Y, cy, hyv⟩ := own_slice h.body
  subst hyv
  have HL := Lib.hid (rk_line N K R fed s b bv hv (.slice Y s.body.length cy) used taken 280 6 w h he.env.env h0 hT (by omega))
  have HE := Lib.hid he; clear he
  have HBK := Lib.hid hBK; clear hBK
  clear h hwf
  have HST := Lib.hid hst; clear hst
  generalize hQ : StepPost N K w R fed s b used taken (stepP s b) = Q
  rw [hstep] at hQ
  clear hstep
  cases hl : lineAt 6 b with
  | wait =>
    rw [hl] at hQ
    have HLA := Lib.hid hl; clear hl
    have HQ := Lib.hid hQ; clear hQ
    go_enter Tryz.func45, Tryz.ntmps45
    go_wp2_with fail
    refine HL.out.mono ?_
    rw [HLA.out]
    rintro en w1 ⟨b', bv', wr, t', hR, hTu, ht0, htl, rfl, hb, hwr⟩
    have HF : Hid (Q (.returned (.bool false)) w1) := by
      rw [← HQ.out]; exact ⟨s, b', bv', _, _, wr, t', hR, hTu, ht0, htl, rfl, rfl, hb, hwr⟩
    clear hR hTu ht0 htl hb hwr
    go_wp2_with fail
    exact HF.out
  | bad =>
    rw [hl] at hQ
    have HLA := Lib.hid hl; clear hl
    have HQ := Lib.hid hQ; clear hQ
    go_enter Tryz.func45, Tryz.ntmps45
    go_wp2_with fail
    refine HL.out.mono ?_
    rw [HLA.out]
    rintro en w1 ⟨b', bv', wr, t', hR, hTu, ht0, htl, rfl, hwr⟩
    have HF : Hid (Q (.returned (.bool false)) w1) := by
      rw [← HQ.out]; exact ⟨s, b', bv', _, _, wr, t', hR, hTu, ht0, htl, rfl, hwr⟩
    clear hR hTu ht0 htl hwr
    go_wp2_with fail
    exact HF.out
  | got l r =>
    rw [hl] at hQ
    simp only at hQ
    have HLA := Lib.hid hl; clear hl
    obtain ⟨hx0, hx1⟩ := hexP_high l
    have HD : Hid (∀ W, EnvZ W → Calls Tryz.prog 69 #[.string ⟨l.toArray⟩, .int .i64 6, .int .i64 16] W fun e w' => e = .returned (.int .i64 (hexP l)) ∧ Below W.heap.size W w') := fun W hW => rk_sixteens ⟨l.toArray⟩ W hW
    generalize hexP l = x at hx0 hx1 HD hQ
    have HQ := Lib.hid hQ; clear hQ
    go_enter Tryz.func45, Tryz.ntmps45
    go_wp2_with fail
    refine HL.out.mono ?_
    rw [HLA.out]
    rintro en w1 ⟨b', bv', wr, t', hR, hTu, ht0, htl, rfl, hb, hwr⟩
    subst hwr
    subst hb
    have he1 : EnvZ w1 := (HE.out.turned hTu hBN HBK.out).env
    have HR := Lib.hid hR; clear hR
    have HTu := Lib.hid hTu; clear hTu
    go_wp2_with fail
    refine (HD.out _ he1).mono ?_
    rintro en2 w2 ⟨rfl, hb2⟩
    have HR2 := Lib.hid (HR.out.below hb2)
    have HT2 := Lib.hid (HTu.out.below (hb2.mono HR.out.low))
    have c2 : w2.cell? ⟨R, 2, none⟩ = some (.int .i64 (s.state : Int)) := HR2.out.blk.cell 2
    have c10 : w2.cell? ⟨R, 10, none⟩ = some (.int .i64 s.long) := HR2.out.blk.cell 10
    have c12 : w2.cell? ⟨R, 12, none⟩ = some (.slice Y s.body.length cy) := HR2.out.blk.cell 12
    have c13 : w2.cell? ⟨R, 13, none⟩ = some (.int .i64 0) := HR2.out.blk.cell 13
    have f2 := HR2.out.blk.frozen 2
    have f10 := HR2.out.blk.frozen 10
    have f13 := HR2.out.blk.frozen 13
    clear hb2
    have pF : ∀ e : Int, (if x < 0 then Out.fail 280 else if 8192 - (s.body.length : Int) < x then .fail 281 else if x = 0 then .on { s with state := 6 } b' else .on { s with state := 4, long := x } b') = .fail e → Q (.returned (.bool false)) (w2.setCell ⟨R, 13, none⟩ (.int .i64 e)) := fun e hle => by
      rw [← HQ.out, hle]
      exact ⟨s, b', bv', _, _, e, t', HR2.out.wrong_ e, Turned.setR HR2.out HT2.out _ _, ht0, htl, rfl, rfl⟩
    have PF := Lib.hid pF; clear pF
    have p6 : (if x < 0 then Out.fail 280 else if 8192 - (s.body.length : Int) < x then .fail 281 else if x = 0 then .on { s with state := 6 } b' else .on { s with state := 4, long := x } b') = .on { s with state := 6 } b' → Q (.returned (.bool true)) (w2.setCell ⟨R, 2, none⟩ (.int .i64 6)) := fun hle => by
      rw [← HQ.out, hle]
      exact ⟨{ s with state := 6 }, b', bv', _, _, 0, t', HR2.out.store 2 _ rfl rfl rfl, Turned.setR HR2.out HT2.out _ _, ht0, htl, rfl, rfl, rfl, rfl⟩
    have P6 := Lib.hid p6; clear p6
    have p4 : (if x < 0 then Out.fail 280 else if 8192 - (s.body.length : Int) < x then .fail 281 else if x = 0 then .on { s with state := 6 } b' else .on { s with state := 4, long := x } b') = .on { s with state := 4, long := x } b' → Q (.returned (.bool true)) ((w2.setCell ⟨R, 10, none⟩ (.int .i64 x)).setCell ⟨R, 2, none⟩ (.int .i64 4)) := fun hle => by
      rw [← HQ.out, hle]
      have h1 := HR2.out.store 10 (.int .i64 x) (s' := { s with long := x }) rfl rfl rfl
      exact ⟨{ s with state := 4, long := x }, b', bv', _, _, 0, t', h1.store 2 _ rfl rfl rfl, Turned.setR h1 (Turned.setR HR2.out HT2.out _ _) _ _, ht0, htl, rfl, rfl, rfl, rfl⟩
    have P4 := Lib.hid p4; clear p4
    clear HQ
    by_cases hx : x < 0
    · rw [if_pos hx] at PF
      go_wp2_with fail
      refine (rk_fail _ _ _ _ c13 f13).mono ?_
      rintro en w3 ⟨rfl, rfl⟩
      go_wp2_with fail
      exact PF.out _ rfl
    · by_cases hbig : 8192 - (s.body.length : Int) < x
      · rw [if_neg hx, if_pos hbig] at PF
        go_wp2_with fail
        refine (rk_fail _ _ _ _ c13 f13).mono ?_
        rintro en w3 ⟨rfl, rfl⟩
        go_wp2_with fail
        exact PF.out _ rfl
      · by_cases hz : x = 0
        · rw [if_neg hx, if_neg hbig, if_pos hz] at P6
          subst hz
          go_wp2_with fail
          exact P6.out (by first | rfl | trivial)
        · rw [if_neg hx, if_neg hbig, if_neg hz] at P4
          go_wp2_with fail
          exact P4.out (by first | rfl | trivial)
end Go.Proofs.YtnicmdlicbnlgaaGreatDoor
