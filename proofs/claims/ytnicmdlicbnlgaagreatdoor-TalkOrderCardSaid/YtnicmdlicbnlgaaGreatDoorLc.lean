/-
  Walk: the law that nothing is taken while an answer is waited for.
-/
import Derived.Test.YtnicmdlicbnlgaaGreatDoorLa
namespace Go.Proofs.YtnicmdlicbnlgaaGreatDoor
open Go.RowKit
set_option linter.unusedVariables false
set_option linter.unusedSimpArgs false

set_option maxRecDepth 100000 in
set_option maxHeartbeats 6400000 in
theorem lw_order (b : ByteArray) (code : Int) (body : ByteArray) (w : World) (he : EnvZ w) :
    Calls Tryz.prog 11 #[.string b, .int .i64 code, .string body] w fun e w' => e = .returned (.bool true) ∧ Below w.heap.size w w' := by
  have HAL := Lib.hid (lw_alive29 w he)
  have HE : Hid (∀ W, Below w.heap.size w W → EnvAt w.heap.size W) := fun W hW => (EnvAt.start he).below hW (Nat.le_refl _)
  clear he
  by_cases hb : 9000 < b.size
  · go_enter Tryz.func11, Tryz.ntmps11
    go_wp2_with fail
    refine HAL.out.mono ?_
    rintro en w1 ⟨rfl, hb1⟩
    go_wp2_with fail
    go_ret
    exact ⟨rfl, hb1⟩
  · by_cases hbd : 9000 < body.size
    · go_enter Tryz.func11, Tryz.ntmps11
      go_wp2_with fail
      refine HAL.out.mono ?_
      rintro en w1 ⟨rfl, hb1⟩
      go_wp2_with fail
      go_ret
      exact ⟨rfl, hb1⟩
    · obtain ⟨Q, hQ⟩ : ∃ Q : Ending → World → Prop, Q = fun e w' => e = .returned (.bool true) ∧ Below w.heap.size w w' := ⟨_, rfl⟩
      rw [← hQ]
      have HF : Hid (∀ W, Below w.heap.size w W → Q (.returned (.bool true)) W) := fun W hW => by rw [hQ]; exact ⟨rfl, hW⟩
      clear hQ
      have HFL : Hid (b.data.toList.length ≤ 1000000) := by show _ ≤ _; simp; omega
      go_enter Tryz.func11, Tryz.ntmps11
      go_wp2_with fail
      refine HAL.out.mono ?_
      rintro en w0 ⟨rfl, hb0⟩
      have HB0 := Lib.hid hb0; clear hb0
      have HN := Lib.hid (new_talk w0)
      go_wp2_with fail
      refine HN.out.mono ?_
      rintro en w1 ⟨rfl, hb1, ha1⟩
      obtain ⟨T, hT⟩ : ∃ T, T = w0.heap.size + 1 := ⟨_, rfl⟩
      rw [← hT] at ha1 ⊢
      have HB1 : Hid (Below w.heap.size w w1) := bl_trans HB0.out hb1
      have HA1 : Hid (TalkAt w.heap.size (fun _ => False) w1 T none [] 0 [] false) := ha1.weaken (fun g hg => .inr (hg.elim (fun h => h.elim) fun h => Nat.le_trans HB0.out.size h)) (Nat.le_trans HB0.out.size hb1.size)
      clear hT hb1 ha1 HN
      go_wp2_with fail
      refine (tk_feed w.heap.size (fun _ => False) w1 T none [] 0 [] b (by omega) HA1.out (by decide)).mono ?_
      rintro en w2 ⟨rfl, ht2, ha2⟩
      have HB2 := Lib.hid (turned_low HB1.out ht2)
      rw [List.nil_append] at ha2
      have HA2 := Lib.hid ha2
      obtain ⟨F, hF⟩ : ∃ F, F = b.data.toList := ⟨_, rfl⟩
      rw [← hF] at HA2 HFL
      clear ht2 ha2 hF
      have hR := tk_ready w.heap.size (fun _ => False) w2 T none F 0 [] false w.heap.size (HE.out w2 HB2.out) (Nat.le_refl _) (fun _ h => h.elim) HA2.out HFL.out
      cases hx : nextP F 0 with
      | none =>
        rw [hx] at hR
        simp only [Bool.not_false, Option.isNone_none, Option.isSome_none, Bool.and_false] at hR
        have HR := Lib.hid hR
        have HX := Lib.hid hx
        clear hR hx
        go_wp2_with fail
        refine HR.out.mono ?_
        rintro en w3 ⟨rfl, ht3, ha3⟩
        have HB3 := Lib.hid (turned_low HB2.out ht3)
        have HA3 := Lib.hid ha3
        clear ht3 ha3
        have HT3 := Lib.hid (tk_take_no w.heap.size (fun _ => False) w3 T none F 0 [] false w.heap.size (HE.out w3 HB3.out) (Nat.le_refl _) (fun _ h => h.elim) HA3.out HFL.out (by unfold readyP; rw [HX.out]; rfl))
        go_wp2_with fail
        refine HT3.out.mono ?_
        rintro en w4 ⟨rfl, ht4, ha4⟩
        have HB4 := Lib.hid (turned_low HB3.out ht4)
        have HA4 := Lib.hid ha4
        clear ht4 ha4
        unfold zeroReq
        go_wp2_with fail
        obtain ⟨w4', hw4⟩ : ∃ W, W = w4.alloc (Obj.cells zeroCells5 33) := ⟨_, rfl⟩
        have hb4 : Below w4.heap.size w4 w4' := by rw [hw4]; exact bl_alloc (Below.refl _ _) _
        unfold zeroCells5 at hw4
        rw [← hw4]
        clear hw4
        have HB4' : Hid (Below w.heap.size w w4') := bl_trans HB4.out hb4
        have HA4' := Lib.hid (HA4.out.below hb4)
        clear hb4
        have HT4 := Lib.hid (tk_take_no w.heap.size (fun _ => False) w4' T none F 0 [] false w.heap.size (HE.out w4' HB4'.out) (Nat.le_refl _) (fun _ h => h.elim) HA4'.out HFL.out (by unfold readyP; rw [HX.out]; rfl))
        unfold zeroReq at HT4
        refine HT4.out.mono ?_
        rintro en w5 ⟨rfl, ht5, ha5⟩
        have HB5 := Lib.hid (turned_low HB4'.out ht5)
        have HA5 := Lib.hid ha5
        clear ht5 ha5
        go_wp2_with fail
        refine (tk_give_none w.heap.size (fun _ => False) _ T F 0 [] false 200 ⟨#[]⟩ (HA5.out.below (bl_alloc (Below.refl _ _) _))).mono ?_
        rintro en w6 ⟨rfl, rfl⟩
        go_wp2_with fail
        exact HF.out _ (bl_alloc HB5.out _)
      | some x =>
        obtain ⟨q, c⟩ := x
        rw [hx] at hR
        simp only [Bool.not_false, Option.isNone_none, Option.isSome_some, Bool.and_true] at hR
        have HR := Lib.hid hR
        have HX := Lib.hid hx
        clear hR hx
        go_wp2_with fail
        refine HR.out.mono ?_
        rintro en w3 ⟨rfl, ht3, ha3⟩
        have HB3 := Lib.hid (turned_low HB2.out ht3)
        have HA3 := Lib.hid ha3
        clear ht3 ha3
        have HT3 := Lib.hid (tk_take w.heap.size (fun _ => False) w3 T q c F 0 [] w.heap.size (HE.out w3 HB3.out) (Nat.le_refl _) (fun _ h => h.elim) HA3.out HFL.out HX.out)
        go_wp2_with fail
        refine HT3.out.mono ?_
        rintro en w4 ⟨hv, rfl, ht4, ha4, ho4⟩
        obtain ⟨Hq, cq, rfl⟩ := own_slice ho4
        have HB4 := Lib.hid (turned_low HB3.out ht4)
        have HA4 := Lib.hid ha4
        clear ht4 ha4 ho4
        unfold rqVal
        go_wp2_with fail
        obtain ⟨w4', hw4⟩ : ∃ W, W = w4.alloc (Obj.cells #[.string q.m, .string q.p, .slice Hq q.hs.length cq, .string q.body, .bool q.close] 33) := ⟨_, rfl⟩
        have hb4 : Below w4.heap.size w4 w4' := by rw [hw4]; exact bl_alloc (Below.refl _ _) _
        rw [← hw4]
        clear hw4
        have HB4' : Hid (Below w.heap.size w w4') := bl_trans HB4.out hb4
        have HA4' := Lib.hid (HA4.out.below hb4)
        clear hb4
        have HT4 := Lib.hid (tk_take_no w.heap.size (fun _ => False) w4' T (some (q, c)) F (0 + 1) [] false w.heap.size (HE.out w4' HB4'.out) (Nat.le_refl _) (fun _ h => h.elim) HA4'.out HFL.out rfl)
        unfold zeroReq at HT4
        refine HT4.out.mono ?_
        rintro en w5' ⟨rfl, ht5, ha5⟩
        have HB5' := Lib.hid (turned_low HB4'.out ht5)
        have HA5' := Lib.hid ha5
        clear ht5 ha5
        go_wp2_with fail
        obtain ⟨w5, hw5⟩ : ∃ W, W = w5'.alloc (Obj.cells zeroCells5 33) := ⟨_, rfl⟩
        have hb5 : Below w5'.heap.size w5' w5 := by rw [hw5]; exact bl_alloc (Below.refl _ _) _
        unfold zeroCells5 at hw5
        rw [← hw5]
        clear hw5
        have HB5 : Hid (Below w.heap.size w w5) := bl_trans HB5'.out hb5
        have HA5 := Lib.hid (HA5'.out.below hb5)
        clear hb5
        have HR5 := Lib.hid (tk_ready w.heap.size (fun _ => False) w5 T (some (q, c)) F (0 + 1) [] false w.heap.size (HE.out w5 HB5.out) (Nat.le_refl _) (fun _ h => h.elim) HA5.out HFL.out)
        simp only [Bool.not_false, Option.isNone_some, Bool.false_and, Bool.and_false] at HR5
        refine HR5.out.mono ?_
        rintro en w6 ⟨rfl, ht6, ha6⟩
        have HB6 := Lib.hid (turned_low HB5.out ht6)
        have HA6 := Lib.hid ha6
        clear ht6 ha6
        have HG := Lib.hid (tk_give w.heap.size (fun _ => False) w6 T q c F (0 + 1) [] false code body (HE.out w6 HB6.out).env.env HA6.out (by omega) (by decide))
        by_cases h0 : (answerP code body.data.toList (lastP q c)).2 = 0
        · have H0 := Lib.hid h0; clear h0
          go_wp2_with fail
          refine HG.out.mono ?_
          intro en w7 hg
          obtain ⟨rfl, ht7, ha7⟩ := give_yes hg H0.out
          have HB7 := Lib.hid (turned_low HB6.out ht7)
          have HA7 := Lib.hid ha7
          clear hg ht7 ha7
          obtain ⟨ans, hans⟩ : ∃ ans : ByteArray, ans = ⟨(answerP code body.data.toList (lastP q c)).1.toArray⟩ := ⟨_, rfl⟩
          have HO : Hid (Calls Tryz.prog 31 #[.pointer (some ⟨T, 0, none⟩)] w7 (TalkGoes w.heap.size (fun _ => False) w7 T none F (0 + 1) [] (lastP q c) (.tuple #[.string ans, .int .i64 0]))) := by
            have := tk_out w.heap.size (fun _ => False) w7 T none F (0 + 1) _ _ HA7.out
            rw [List.nil_append, ← hans] at this
            exact this
          have HANS := Lib.hid hans; clear hans
          go_wp2_with fail
          refine HO.out.mono ?_
          rintro en w8 ⟨rfl, ht8, ha8⟩
          have HB8 := Lib.hid (turned_low HB7.out ht8)
          have HA8 := Lib.hid ha8
          clear ht8 ha8
          have HOV := Lib.hid (tk_over w.heap.size (fun _ => False) w8 T none F (0 + 1) [] (lastP q c) HA8.out)
          have hw := wr_Answer code body (lastP q c) w8 (HE.out w8 HB8.out).env.env (by omega)
          rw [← HANS.out, H0.out] at hw
          have HW := Lib.hid hw; clear hw
          go_wp2_with fail
          refine HOV.out.mono ?_
          rintro en w9 ⟨rfl, rfl⟩
          go_wp2_with fail
          refine HW.out.mono ?_
          rintro en w9 ⟨rfl, hb9⟩
          have HB9 : Hid (Below w.heap.size w w9) := bl_trans HB8.out hb9
          have HA9 := Lib.hid (HA8.out.below hb9)
          clear hb9
          go_wp2_with fail
          refine (tk_give_none w.heap.size (fun _ => False) w9 T F (0 + 1) [] (lastP q c) 200 ⟨#[]⟩ HA9.out).mono ?_
          rintro en w10 ⟨rfl, rfl⟩
          go_wp2_with fail
          exact HF.out _ HB9.out
        · have HG2 : Hid (Calls Tryz.prog 29 #[.pointer (some ⟨T, 0, none⟩), .int .i64 code, .string body] w6 fun en w' => en = .returned (.int .i64 (answerP code body.data.toList (lastP q c)).2) ∧ Turned w.heap.size (fun _ => False) w6 w' ∧ TalkAt w.heap.size (fun _ => False) w' T (some (q, c)) F (0 + 1) [] false) := HG.out.mono fun en w' hg => give_no hg h0
          clear HG
          generalize (answerP code body.data.toList (lastP q c)).2 = e at HG2 h0
          go_wp2_with fail
          refine HG2.out.mono ?_
          rintro en w7 ⟨rfl, ht7, ha7⟩
          have HB7 := Lib.hid (turned_low HB6.out ht7)
          have HA7 := Lib.hid ha7
          clear ht7 ha7
          have HO := Lib.hid (tk_out w.heap.size (fun _ => False) w7 T (some (q, c)) F (0 + 1) _ _ HA7.out)
          go_wp2_with fail
          refine HO.out.mono ?_
          rintro en w8 ⟨rfl, ht8, ha8⟩
          have HB8 := Lib.hid (turned_low HB7.out ht8)
          have HA8 := Lib.hid ha8
          clear ht8 ha8
          have HR8 := Lib.hid (tk_ready w.heap.size (fun _ => False) w8 T (some (q, c)) F (0 + 1) [] false w.heap.size (HE.out w8 HB8.out) (Nat.le_refl _) (fun _ h => h.elim) HA8.out HFL.out)
          simp only [Bool.not_false, Option.isNone_some, Bool.false_and, Bool.and_false] at HR8
          go_wp2_with fail
          refine HR8.out.mono ?_
          rintro en w9 ⟨rfl, ht9, ha9⟩
          have HB9 := Lib.hid (turned_low HB8.out ht9)
          have HA9 := Lib.hid ha9
          clear ht9 ha9
          have HOV := Lib.hid (tk_over w.heap.size (fun _ => False) w9 T (some (q, c)) F (0 + 1) [] false HA9.out)
          have HG9 : Hid (Calls Tryz.prog 29 #[.pointer (some ⟨T, 0, none⟩), .int .i64 200, .string ⟨#[]⟩] w9 fun en w' => en = .returned (.int .i64 0) ∧ Turned w.heap.size (fun _ => False) w9 w') := (tk_give w.heap.size (fun _ => False) w9 T q c F (0 + 1) [] false 200 ⟨#[]⟩ (HE.out w9 HB9.out).env.env HA9.out (by decide) (by decide)).mono fun en w' hg => ⟨(give_yes hg (answer_yes (by decide) (by decide) (by decide))).1, (give_yes hg (answer_yes (by decide) (by decide) (by decide))).2.1⟩
          go_wp2_with fail
          refine HOV.out.mono ?_
          rintro en w10 ⟨rfl, rfl⟩
          go_wp2_with fail
          refine HG9.out.mono ?_
          rintro en w10 ⟨rfl, ht10⟩
          have HB10 := Lib.hid (turned_low HB9.out ht10)
          clear ht10
          go_wp2_with fail
          exact HF.out _ HB10.out
end Go.Proofs.YtnicmdlicbnlgaaGreatDoor
