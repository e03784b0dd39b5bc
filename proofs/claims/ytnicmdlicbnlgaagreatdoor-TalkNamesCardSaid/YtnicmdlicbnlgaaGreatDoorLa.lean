/-
  Walk: docketlaw29's alive.
-/
import Derived.Test.YtnicmdlicbnlgaaGreatDoorTi
namespace Go.Proofs.YtnicmdlicbnlgaaGreatDoor
open Go.RowKit
set_option linter.unusedVariables false
set_option linter.unusedSimpArgs false

theorem new_talk (w : World) : Calls Tryz.prog 26 #[] w fun e w' => e = .returned (.pointer (some ⟨w.heap.size + 1, 0, none⟩)) ∧ Below w.heap.size w w' ∧ TalkAt w.heap.size (fun _ => False) w' (w.heap.size + 1) none [] 0 [] false :=
  (tk_new w).mono fun e w' ⟨h1, h2⟩ => ⟨h1, by rw [h2]; exact bl_alloc (bl_alloc (Below.refl _ _) _) _, by
    rw [h2]
    exact (TalkAt.new w).weaken (fun g hg => .inr (by rcases hg with (h | h) | h <;> omega)) (by simp; omega)⟩
theorem next_none {F : List UInt8} {s : RS} {b : List UInt8} (h : tellP RS.init F = .wait s b) : nextP F 0 = none := by
  unfold nextP
  rw [all_wait h]
  rfl
theorem next_get : nextP getB 0 = some (getQ, 0) := by
  unfold nextP
  have h := allP_get []
  rw [List.append_nil] at h
  rw [h]
  rfl
theorem get7 : nextP [71, 69, 84, 32, 47, 32, 72] 0 = none := next_none (tell_wait (s := RS.init) (b := [71, 69, 84, 32, 47, 32, 72]) rfl)
theorem turned_low {N : Nat} {w0 w w' : World} (hb : Below N w0 w) (h : Turned N (fun _ => False) w w') : Below N w0 w' := hb.trans (h.to_below (Nat.le_refl _) fun _ hk => hk.elim)
theorem answer_yes {code : Int} {body : List UInt8} {last : Bool} (h1 : 200 ≤ code) (h2 : code ≤ 599) (h3 : body.length ≤ 1048576) : (answerP code body last).2 = 0 := by
  unfold answerP
  rw [if_neg (by simp; omega), if_neg (by omega)]
theorem give_yes {N : Nat} {S : Nat → Prop} {w w' : World} {T : Nat} {q : Rq} {c : Int} {F : List UInt8} {k : Nat} {out : List UInt8} {over : Bool} {p : List UInt8 × Int} {en : Ending} (h : GivePost N S w T q c F k out over p en w') (h0 : p.2 = 0) :
    en = .returned (.int .i64 0) ∧ Turned N S w w' ∧ TalkAt N S w' T none F k (out ++ p.1) (lastP q c) := by
  obtain ⟨h1, h2, h3⟩ := h
  rw [if_pos h0] at h3
  exact ⟨by rw [h1, h0], h2, h3⟩
theorem give_no {N : Nat} {S : Nat → Prop} {w w' : World} {T : Nat} {q : Rq} {c : Int} {F : List UInt8} {k : Nat} {out : List UInt8} {over : Bool} {p : List UInt8 × Int} {en : Ending} (h : GivePost N S w T q c F k out over p en w') (h0 : ¬ p.2 = 0) :
    en = .returned (.int .i64 p.2) ∧ Turned N S w w' ∧ TalkAt N S w' T (some (q, c)) F k out over := by
  obtain ⟨h1, h2, h3⟩ := h
  rw [if_neg h0] at h3
  exact ⟨h1, h2, h3⟩
set_option maxRecDepth 100000 in
set_option maxHeartbeats 3200000 in
theorem lw_alive29 (w : World) (he : EnvZ w) :
    Calls Tryz.prog 32 #[] w fun e w' => e = .returned (.bool true) ∧ Below w.heap.size w w' := by
  have HN := Lib.hid (new_talk w)
  have HE : Hid (∀ W, Below w.heap.size w W → EnvAt w.heap.size W) := fun W hW => (EnvAt.start he).below hW (Nat.le_refl _)
  clear he
  go_enter Tryz.func32, Tryz.ntmps32
  go_wp2_with fail
  refine HN.out.mono ?_
  rintro en w1 ⟨rfl, hb1, ha1⟩
  obtain ⟨T, hT⟩ : ∃ T, T = w.heap.size + 1 := ⟨_, rfl⟩
  rw [← hT] at ha1 ⊢
  have HT := Lib.hid hT; clear hT
  have HB1 := Lib.hid hb1; clear hb1
  have HA1 := Lib.hid ha1; clear ha1
  go_wp2_with fail
  refine (tk_feed w.heap.size (fun _ => False) w1 T none [] 0 [] ⟨#[71, 69, 84, 32, 47, 32, 72]⟩ (by decide) HA1.out (by decide)).mono ?_
  rintro en w2 ⟨rfl, ht2, ha2⟩
  have HB2 := Lib.hid (turned_low HB1.out ht2)
  have HA2 : Hid (TalkAt w.heap.size (fun _ => False) w2 T none [71, 69, 84, 32, 47, 32, 72] 0 [] false) := ha2
  clear ht2 ha2
  have HR2 := Lib.hid (tk_ready w.heap.size (fun _ => False) w2 T none [71, 69, 84, 32, 47, 32, 72] 0 [] false w.heap.size (HE.out w2 HB2.out) (Nat.le_refl _) (fun _ h => h.elim) HA2.out (by decide))
  rw [get7] at HR2
  simp only [Bool.not_false, Option.isNone_none, Option.isSome_none, Bool.and_false] at HR2
  go_wp2_with fail
  refine HR2.out.mono ?_
  rintro en w3 ⟨rfl, ht3, ha3⟩
  have HB3 := Lib.hid (turned_low HB2.out ht3)
  have HA3 := Lib.hid ha3
  clear ht3 ha3
  go_wp2_with fail
  refine (tk_feed w.heap.size (fun _ => False) w3 T none [71, 69, 84, 32, 47, 32, 72] 0 [] ⟨#[84, 84, 80, 47, 49, 46, 49, 13, 10, 13, 10]⟩ (by decide) HA3.out (by decide)).mono ?_
  rintro en w4 ⟨rfl, ht4, ha4⟩
  have HB4 := Lib.hid (turned_low HB3.out ht4)
  have HA4 : Hid (TalkAt w.heap.size (fun _ => False) w4 T none getB 0 [] false) := ha4
  clear ht4 ha4
  have HR4 := Lib.hid (tk_ready w.heap.size (fun _ => False) w4 T none getB 0 [] false w.heap.size (HE.out w4 HB4.out) (Nat.le_refl _) (fun _ h => h.elim) HA4.out (by decide))
  rw [next_get] at HR4
  simp only [Bool.not_false, Option.isNone_none, Option.isSome_some, Bool.and_true] at HR4
  go_wp2_with fail
  refine HR4.out.mono ?_
  rintro en w5 ⟨rfl, ht5, ha5⟩
  have HB5 := Lib.hid (turned_low HB4.out ht5)
  have HA5 := Lib.hid ha5
  clear ht5 ha5
  go_wp2_with fail
  refine (tk_take w.heap.size (fun _ => False) w5 T getQ 0 getB 0 [] w.heap.size (HE.out w5 HB5.out) (Nat.le_refl _) (fun _ h => h.elim) HA5.out (by decide) next_get).mono ?_
  rintro en w6 ⟨hv, rfl, ht6, ha6, ho6⟩
  have HB6 := Lib.hid (turned_low HB5.out ht6)
  obtain ⟨Hv, cv, rfl⟩ := own_slice ho6
  have hlow6 := ha6.low
  obtain ⟨w7, hw7⟩ : ∃ w7, w7 = w6.alloc (Obj.cells #[.string getQ.m, .string getQ.p, .slice Hv getQ.hs.length cv, .string getQ.body, .bool getQ.close] 33) := ⟨_, rfl⟩
  have hb7 : Below w6.heap.size w6 w7 := by rw [hw7]; exact bl_alloc (Below.refl _ _) _
  have ha7 := ha6.move hb7
  have hr7 : Blk w7 w6.heap.size 33 #[.string getQ.m, .string getQ.p, .slice Hv getQ.hs.length cv, .string getQ.body, .bool getQ.close] := by rw [hw7]; exact Blk.new _ _ _
  have hz7 : w7.heap.size = w6.heap.size + 1 := by rw [hw7]; simp
  obtain ⟨S7, hS7⟩ : ∃ S7 : Nat → Prop, S7 = fun g => (False ∨ w.heap.size ≤ g) ∧ g < w6.heap.size := ⟨_, rfl⟩
  rw [← hS7] at ha7
  have HS7 : Hid (∀ g, S7 g → w.heap.size ≤ g) := fun g hg => by rw [hS7] at hg; exact hg.1.resolve_left id
  have HNO : Hid (¬ S7 w6.heap.size) := fun h => by rw [hS7] at h; exact absurd h.2 (by omega)
  have HLW : Hid (∀ W W', Below w.heap.size w W → Turned w7.heap.size S7 W W' → Below w.heap.size w W') := fun W W' h1 h2 => h1.trans (h2.to_below (by omega) HS7.out)
  have HB7 : Hid (Below w.heap.size w w7) := bl_trans HB6.out (hb7.mono (Nat.le_refl _))
  have HA7 := Lib.hid ha7
  have HR7 := Lib.hid hr7
  have HZ7 := Lib.hid hz7
  have HL6 : Hid (w.heap.size ≤ w7.heap.size) := by show _ ≤ _; omega
  clear ht6 ha6 ho6 hb7 ha7 hr7 hz7 hS7
  unfold rqVal
  go_wp2_with fail
  rw [← hw7]
  clear hw7
  have HE7 : Hid (∀ W, Below w.heap.size w W → EnvAt w.heap.size W) := HE
  have HRD : Hid (∀ W, Turned w7.heap.size S7 w7 W → W.cell? ⟨w6.heap.size, 1, none⟩ = some (.string ⟨#[47]⟩)) := fun W hW => by
    have h1 : Blk W w6.heap.size 33 #[.string getQ.m, .string getQ.p, .slice Hv getQ.hs.length cv, .string getQ.body, .bool getQ.close] := (hW.block _ (by have := HZ7.out; omega) HNO.out).trans HR7.out
    exact h1.cell 1
  have HR8 := Lib.hid (tk_ready w7.heap.size S7 w7 T (some (getQ, 0)) getB 1 [] false w.heap.size (HE.out w7 HB7.out) HL6.out HS7.out HA7.out (by decide))
  simp only [Bool.not_false, Option.isNone_some, Bool.false_and, Bool.and_false] at HR8
  refine HR8.out.mono ?_
  rintro en w8 ⟨rfl, ht8, ha8⟩
  have HT8 := Lib.hid ht8
  have HB8 := Lib.hid (HLW.out w7 w8 HB7.out ht8)
  have HA8 := Lib.hid ha8
  clear ht8 ha8
  have HG9 := Lib.hid (tk_give w7.heap.size S7 w8 T getQ 0 getB 1 [] false 200 ⟨#[123, 125]⟩ (HE.out w8 HB8.out).env.env HA8.out (by decide) (by decide))
  have h0 : (answerP 200 (⟨#[123, 125]⟩ : ByteArray).data.toList (lastP getQ 0)).2 = 0 := answer_yes (by decide) (by decide) (by decide)
  have H0 := Lib.hid h0; clear h0
  obtain ⟨ans, hans⟩ : ∃ ans : ByteArray, ans = ⟨(answerP 200 (⟨#[123, 125]⟩ : ByteArray).data.toList false).1.toArray⟩ := ⟨_, rfl⟩
  have HANS := Lib.hid hans; clear hans
  go_wp2_with fail
  refine HG9.out.mono ?_
  intro en w9 hg
  obtain ⟨rfl, ht9, ha9⟩ := give_yes hg H0.out
  have HT9 := Lib.hid (HT8.out.trans ht9)
  have HB9 := Lib.hid (HLW.out w8 w9 HB8.out ht9)
  have HA9 := Lib.hid ha9
  clear hg ht9 ha9
  have ho := tk_out w7.heap.size S7 w9 T none getB 1 _ _ HA9.out
  have hs : (⟨([] ++ (answerP 200 (⟨#[123, 125]⟩ : ByteArray).data.toList (lastP getQ 0)).1).toArray⟩ : ByteArray) = ans := HANS.out.symm
  rw [hs] at ho
  have HO := Lib.hid ho
  clear ho hs
  go_wp2_with fail
  refine HO.out.mono ?_
  rintro en w10 ⟨rfl, ht10, ha10⟩
  have HT10 := Lib.hid (HT9.out.trans ht10)
  have HB10 := Lib.hid (HLW.out w9 w10 HB9.out ht10)
  have HA10 := Lib.hid ha10
  clear ht10 ha10
  have HO2 := Lib.hid (tk_out w7.heap.size S7 w10 T none getB 1 _ _ HA10.out)
  go_wp2_with fail
  refine HO2.out.mono ?_
  rintro en w11 ⟨rfl, ht11, ha11⟩
  have HT11 := Lib.hid (HT10.out.trans ht11)
  have HB11 := Lib.hid (HLW.out w10 w11 HB10.out ht11)
  clear ht11 ha11
  have hw := wr_Answer 200 ⟨#[123, 125]⟩ false w11 (HE.out w11 HB11.out).env.env (by decide)
  rw [← HANS.out, show (answerP 200 (⟨#[123, 125]⟩ : ByteArray).data.toList false).2 = 0 from H0.out] at hw
  have HW := Lib.hid hw; clear hw
  go_wp2_with fail
  refine HW.out.mono ?_
  rintro en w12 ⟨rfl, hb12⟩
  have k1 : w12.cell? ⟨w6.heap.size, 1, none⟩ = some (.string ⟨#[47]⟩) := (hb12.cell (lt_of_cell (HRD.out w11 HT11.out))).trans (HRD.out w11 HT11.out)
  have HB12 : Hid (Below w.heap.size w w12) := bl_trans HB11.out hb12
  clear hb12
  go_wp2_with fail
  go_ret
  exact ⟨rfl, HB12.out⟩
end Go.Proofs.YtnicmdlicbnlgaaGreatDoor
