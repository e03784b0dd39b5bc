/-
  Walk: the examples of the chapter on talk.
-/
import Derived.Test.YtnicmdlicbnlgaaGreatDoorLa
namespace Go.Proofs.YtnicmdlicbnlgaaGreatDoor
open Go.RowKit
set_option linter.unusedVariables false
set_option linter.unusedSimpArgs false

/-! ### no connection -/
theorem none_nil (w : World) : Calls Tryz.prog 55 #[.pointer none] w fun e w' => e = .returned (.bool true) ∧ w = w' := by
  go_enter Tryz.func55, Tryz.ntmps55
  go_wp2_with fail
  go_ret
  exact ⟨rfl, rfl⟩
theorem none_zero {w : World} {Z : Nat} (h : w.cell? ⟨Z, 0, none⟩ = some (.pointer none)) : Calls Tryz.prog 55 #[.pointer (some ⟨Z, 0, none⟩)] w fun e w' => e = .returned (.bool true) ∧ w = w' := by
  go_enter Tryz.func55, Tryz.ntmps55
  go_wp2_with fail
  go_ret
  exact ⟨rfl, rfl⟩
theorem take_nil (w : World) : Calls Tryz.prog 28 #[.pointer none] w fun e w' => e = .returned (.tuple #[zeroReq, .int .i64 0, .int .i64 1]) ∧ Below w.heap.size w w' := by
  go_enter Tryz.func28, Tryz.ntmps28
  go_wp2_with fail
  refine (none_nil _).mono ?_
  rintro en w1 ⟨rfl, rfl⟩
  go_wp2_with fail
  refine bodyPost_ret (v := .tuple #[.agg #[.string ⟨#[]⟩, .string ⟨#[]⟩, .slice none 0 0, .string ⟨#[]⟩, .bool false], .int .i64 0, .int .i64 1]) (by simp [results, Tryz.results28, go_sem]) rfl ?_
  exact ⟨rfl, bl_alloc (Below.refl _ _) _⟩
theorem feed_nil (w : World) (x : ByteArray) : Calls Tryz.prog 27 #[.pointer none, .string x] w fun e w' => e = .returned (.int .i64 1) ∧ w = w' := by
  go_enter Tryz.func27, Tryz.ntmps27
  go_wp2_with fail
  refine (none_nil _).mono ?_
  rintro en w1 ⟨rfl, rfl⟩
  go_wp2_with fail
  go_ret
  exact ⟨rfl, rfl⟩
theorem ready_nil (w : World) : Calls Tryz.prog 33 #[.pointer none] w fun e w' => e = .returned (.bool false) ∧ w = w' := by
  go_enter Tryz.func33, Tryz.ntmps33
  go_wp2_with fail
  refine (none_nil _).mono ?_
  rintro en w1 ⟨rfl, rfl⟩
  go_wp2_with fail
  go_ret
  exact ⟨rfl, rfl⟩
theorem out_zero {w : World} {Z : Nat} (h : w.cell? ⟨Z, 0, none⟩ = some (.pointer none)) : Calls Tryz.prog 31 #[.pointer (some ⟨Z, 0, none⟩)] w fun e w' => e = .returned (.tuple #[.string ⟨#[]⟩, .int .i64 1]) ∧ w = w' := by
  have H := Lib.hid (none_zero h)
  go_enter Tryz.func31, Tryz.ntmps31
  go_wp2_with fail
  refine H.out.mono ?_
  rintro en w1 ⟨rfl, rfl⟩
  go_wp2_with fail
  go_ret2
  exact ⟨rfl, rfl⟩
theorem give_zero {w : World} {Z : Nat} (h : w.cell? ⟨Z, 0, none⟩ = some (.pointer none)) (c : Int) (x : ByteArray) : Calls Tryz.prog 29 #[.pointer (some ⟨Z, 0, none⟩), .int .i64 c, .string x] w fun e w' => e = .returned (.int .i64 1) ∧ w = w' := by
  have H := Lib.hid (none_zero h)
  go_enter Tryz.func29, Tryz.ntmps29
  go_wp2_with fail
  refine H.out.mono ?_
  rintro en w1 ⟨rfl, rfl⟩
  go_wp2_with fail
  go_ret
  exact ⟨rfl, rfl⟩
theorem over_zero {w : World} {Z : Nat} (h : w.cell? ⟨Z, 0, none⟩ = some (.pointer none)) : Calls Tryz.prog 30 #[.pointer (some ⟨Z, 0, none⟩)] w fun e w' => e = .returned (.bool false) ∧ w = w' := by
  have H := Lib.hid (none_zero h)
  go_enter Tryz.func30, Tryz.ntmps30
  go_wp2_with fail
  refine H.out.mono ?_
  rintro en w1 ⟨rfl, rfl⟩
  go_wp2_with fail
  go_ret
  exact ⟨rfl, rfl⟩
def badB : List UInt8 := [98, 97, 100, 13, 10]
theorem bad_first : firstLn [98, 97, 100] = none := by decide +kernel
theorem tell_bad : tellP RS.init badB = .refuse 280 := by
  refine tell_fail ?_
  have hl : lineAt 512 badB = .got [98, 97, 100] [] := by rfl
  rw [step0 _ _ rfl, hl]
  simp only
  rw [bad_first]
theorem next_bad : nextP badB 0 = some (rq0, 400) := by
  unfold nextP
  rw [all_refuse tell_bad]
  rfl
theorem give_arg {N : Nat} {S : Nat → Prop} {w w' : World} {T : Nat} {q : Rq} {c : Int} {F : List UInt8} {k : Nat} {out : List UInt8} {over : Bool} {code : Int} {body : List UInt8} {en : Ending} (h : GivePost N S w T q c F k out over (answerP code body (lastP q c)) en w') (hc : code < 200) :
    en = .returned (.int .i64 2) ∧ Turned N S w w' ∧ TalkAt N S w' T (some (q, c)) F k out over := by
  have e : (answerP code body (lastP q c)).2 = 2 := by
    unfold answerP
    rw [if_pos (by simp; omega)]
  obtain ⟨h1, h2, h3⟩ := give_no h (by rw [e]; decide)
  exact ⟨by rw [h1, e], h2, h3⟩
set_option maxRecDepth 100000 in
set_option maxHeartbeats 6400000 in
theorem lw_tnames (w : World) (he : EnvZ w) :
    Calls Tryz.prog 9 #[] w fun e w' => e = .returned (.bool true) ∧ Below w.heap.size w w' := by
  have HN := Lib.hid (new_talk w)
  have HE : Hid (∀ W, Below w.heap.size w W → EnvAt w.heap.size W) := fun W hW => (EnvAt.start he).below hW (Nat.le_refl _)
  clear he
  go_enter Tryz.func9, Tryz.ntmps9
  go_wp2_with fail
  refine HN.out.mono ?_
  rintro en w1 ⟨rfl, hb1, ha1⟩
  obtain ⟨T, hT⟩ : ∃ T, T = w.heap.size + 1 := ⟨_, rfl⟩
  rw [← hT] at ha1 ⊢
  have HB1 := Lib.hid hb1
  have HA1 := Lib.hid ha1
  clear hT hb1 ha1 HN
  go_wp2_with fail
  refine (tk_feed w.heap.size (fun _ => False) w1 T none [] 0 [] ⟨#[98, 97, 100, 13, 10]⟩ (by decide) HA1.out (by decide)).mono ?_
  rintro en w2 ⟨rfl, ht2, ha2⟩
  have HB2 := Lib.hid (turned_low HB1.out ht2)
  have HA2 : Hid (TalkAt w.heap.size (fun _ => False) w2 T none badB 0 [] false) := ha2
  clear ht2 ha2
  have HT3 := Lib.hid (tk_take w.heap.size (fun _ => False) w2 T rq0 400 badB 0 [] w.heap.size (HE.out w2 HB2.out) (Nat.le_refl _) (fun _ h => h.elim) HA2.out (by decide) next_bad)
  go_wp2_with fail
  refine HT3.out.mono ?_
  rintro en w4 ⟨hv, rfl, ht4, ha4, ho4⟩
  obtain ⟨Hq, cq, rfl⟩ := own_slice ho4
  have HB4 := Lib.hid (turned_low HB2.out ht4)
  have HA4 := Lib.hid ha4
  clear ht4 ha4 ho4
  unfold rqVal
  go_wp2_with fail
  obtain ⟨w4', hw4⟩ : ∃ W, W = w4.alloc (Obj.cells #[.string rq0.m, .string rq0.p, .slice Hq rq0.hs.length cq, .string rq0.body, .bool rq0.close] 33) := ⟨_, rfl⟩
  have hb4 : Below w4.heap.size w4 w4' := by rw [hw4]; exact bl_alloc (Below.refl _ _) _
  rw [← hw4]
  clear hw4
  have HB4' : Hid (Below w.heap.size w w4') := bl_trans HB4.out hb4
  have HA4' := Lib.hid (HA4.out.below hb4)
  clear hb4
  have HT4 := Lib.hid (tk_take_no w.heap.size (fun _ => False) w4' T (some (rq0, 400)) badB (0 + 1) [] false w.heap.size (HE.out w4' HB4'.out) (Nat.le_refl _) (fun _ h => h.elim) HA4'.out (by decide) rfl)
  unfold zeroReq at HT4
  refine HT4.out.mono ?_
  rintro en w5' ⟨rfl, ht5, ha5⟩
  have HB5' := Lib.hid (turned_low HB4'.out ht5)
  have HA5' := Lib.hid ha5
  clear ht5 ha5
  go_wp2_with fail
  obtain ⟨w5, hw5⟩ : ∃ W, W = w5'.alloc (Obj.cells zeroCells5 33) := ⟨_, rfl⟩
  have hb5 : Below w5'.heap.size w5' w5 := by rw [hw5]; exact bl_alloc (Below.refl _ _) _
  unfold zeroCells5 at hw5
  rw [← hw5]
  clear hw5
  have HB5 : Hid (Below w.heap.size w w5) := bl_trans HB5'.out hb5
  have HA5 := Lib.hid (HA5'.out.below hb5)
  clear hb5
  have HG5 := Lib.hid (tk_give w.heap.size (fun _ => False) w5 T rq0 400 badB (0 + 1) [] false 100 ⟨#[]⟩ (HE.out w5 HB5.out).env.env HA5.out (by decide) (by decide))
  refine HG5.out.mono ?_
  intro en w6 hg
  obtain ⟨rfl, ht6, ha6⟩ := give_arg hg (by decide)
  have HB6 := Lib.hid (turned_low HB5.out ht6)
  have HA6 := Lib.hid ha6
  clear hg ht6 ha6
  have HG6 := Lib.hid (tk_give w.heap.size (fun _ => False) w6 T rq0 400 badB (0 + 1) [] false 400 ⟨#[120]⟩ (HE.out w6 HB6.out).env.env HA6.out (by decide) (by decide))
  go_wp2_with fail
  refine HG6.out.mono ?_
  intro en w7 hg
  obtain ⟨rfl, ht7, ha7⟩ := give_yes hg (answer_yes (by decide) (by decide) (by decide))
  have HB7 := Lib.hid (turned_low HB6.out ht7)
  have HA7 : Hid (TalkAt w.heap.size (fun _ => False) w7 T none badB (0 + 1) _ true) := ha7
  clear hg ht7 ha7
  go_wp2_with fail
  refine (tk_feed_over w.heap.size (fun _ => False) w7 T none badB (0 + 1) _ ⟨#[120]⟩ (by decide) HA7.out).mono ?_
  rintro en w8 ⟨rfl, rfl⟩
  go_wp2_with fail
  refine (tk_give_none w.heap.size (fun _ => False) w7 T badB (0 + 1) _ true 400 ⟨#[120]⟩ HA7.out).mono ?_
  rintro en w8 ⟨rfl, rfl⟩
  go_wp2_with fail
  refine (tk_over w.heap.size (fun _ => False) w7 T none badB (0 + 1) _ true HA7.out).mono ?_
  rintro en w8 ⟨rfl, rfl⟩
  go_wp2_with fail
  obtain ⟨w8, hw8⟩ : ∃ W, W = w7.alloc (Obj.cells #[.pointer none, .pointer none, .pointer none, .pointer none, .slice none 0 0, .bool false] 66) := ⟨_, rfl⟩
  have hb8 : Below w7.heap.size w7 w8 := by rw [hw8]; exact bl_alloc (Below.refl _ _) _
  have hz8 : Blk w8 w7.heap.size 66 #[.pointer none, .pointer none, .pointer none, .pointer none, .slice none 0 0, .bool false] := by rw [hw8]; exact Blk.new _ _ _
  rw [← hw8]
  clear hw8
  have HB8 : Hid (Below w.heap.size w w8) := bl_trans HB7.out hb8
  have HZ8 : Hid (∀ W, Below w8.heap.size w8 W → W.cell? ⟨w7.heap.size, 0, none⟩ = some (.pointer none)) := fun W hW => by
    have h1 : Blk W w7.heap.size 66 #[.pointer none, .pointer none, .pointer none, .pointer none, .slice none 0 0, .bool false] := (hW.block _ hz8.lt).trans hz8
    exact h1.cell 0
  clear hb8 hz8
  obtain ⟨Z, hZ⟩ : ∃ Z, Z = w7.heap.size := ⟨_, rfl⟩
  rw [← hZ] at HZ8 ⊢
  clear hZ
  refine (take_nil w8).mono ?_
  rintro en w9 ⟨rfl, hb9⟩
  have HB9' := Lib.hid hb9
  clear hb9
  unfold zeroReq
  go_wp2_with fail
  obtain ⟨w9', hw9⟩ : ∃ W, W = w9.alloc (Obj.cells zeroCells5 33) := ⟨_, rfl⟩
  have hb9 : Below w9.heap.size w9 w9' := by rw [hw9]; exact bl_alloc (Below.refl _ _) _
  unfold zeroCells5 at hw9
  rw [← hw9]
  clear hw9
  have HB9 : Hid (Below w8.heap.size w8 w9') := bl_trans HB9'.out hb9
  clear hb9
  refine (out_zero (HZ8.out w9' HB9.out)).mono ?_
  rintro en w10 ⟨rfl, rfl⟩
  go_wp2_with fail
  have HBW : Hid (Below w.heap.size w w9') := bl_trans HB8.out HB9.out
  refine (lw_alive29 w9' (HE.out w9' HBW.out).env).mono ?_
  rintro en w11 ⟨rfl, hb11⟩
  have HB11 : Hid (Below w8.heap.size w8 w11) := bl_trans HB9.out hb11
  have HBX : Hid (Below w.heap.size w w11) := bl_trans HBW.out hb11
  clear hb11
  go_wp2_with fail
  refine (feed_nil w11 ⟨#[]⟩).mono ?_
  rintro en w12 ⟨rfl, rfl⟩
  go_wp2_with fail
  refine (give_zero (HZ8.out w11 HB11.out) 200 ⟨#[]⟩).mono ?_
  rintro en w12 ⟨rfl, rfl⟩
  go_wp2_with fail
  refine (ready_nil w11).mono ?_
  rintro en w12 ⟨rfl, rfl⟩
  go_wp2_with fail
  refine (over_zero (HZ8.out w11 HB11.out)).mono ?_
  rintro en w12 ⟨rfl, rfl⟩
  go_wp2_with fail
  go_ret
  exact ⟨rfl, HBX.out⟩
end Go.Proofs.YtnicmdlicbnlgaaGreatDoor
