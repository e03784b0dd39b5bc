/-
  The law: the chapter's examples.
-/
import Derived.Test.YtnicmdlicbnlgaaGreatDoorRt
import Derived.Test.YtnicmdlicbnlgaaGreatDoorAn
namespace Go.Proofs.YtnicmdlicbnlgaaGreatDoor
open Go.RowKit
set_option linter.unusedVariables false
set_option linter.unusedSimpArgs false

/-- As 'tellP', by so many steps: for the kernel. -/
def tellF : Nat → RS → List UInt8 → Option Res
  | 0, _, _ => none
  | n + 1, s, b => match stepP s b with
    | .wait => some (.wait s b)
    | .fail e => some (.refuse e)
    | .whole q r => some (.done q r)
    | .on s' r => tellF n s' r
theorem tellF_yes : ∀ (n : Nat) (s : RS) (b : List UInt8) (r : Res), tellF n s b = some r → tellP s b = r
  | 0, s, b, r, h => by cases h
  | n + 1, s, b, r, h => by
    unfold tellF at h
    cases hs : stepP s b with
    | wait => rw [hs] at h; cases h; exact tell_wait hs
    | fail e => rw [hs] at h; cases h; exact tell_fail hs
    | whole q t => rw [hs] at h; cases h; exact tell_whole hs
    | on s' t => rw [hs] at h; rw [tell_on hs]; exact tellF_yes n s' t r h
/-- The refusal by so many steps; 0 where it waits. -/
def errF (n : Nat) (b : List UInt8) : Option Int := match tellF n RS.init b with
  | some (.wait _ _) => some 0
  | some (.refuse e) => some e
  | _ => none
theorem errF_yes {n : Nat} {b : List UInt8} {e : Int} (h : errF n b = some e) : (allP b).2.2 = e := by
  unfold errF at h
  cases ht : tellF n RS.init b with
  | none => rw [ht] at h; cases h
  | some r =>
    rw [ht] at h
    have hp := tellF_yes n _ _ _ ht
    cases r with
    | wait s b' => simp only [Option.some.injEq] at h; rw [all_wait hp]; exact h
    | refuse e' => simp only [Option.some.injEq] at h; rw [all_refuse hp]; exact h
    | done q r => cases h
def postB : List UInt8 := [80, 79, 83, 84, 32, 47, 97, 32, 72, 84, 84, 80, 47, 49, 46, 49, 13, 10, 84, 114, 97, 110, 115, 102, 101, 114, 45, 69, 110, 99, 111, 100, 105, 110, 103, 58, 32, 99, 104, 117, 110, 107, 101, 100, 13, 10, 13, 10, 51, 13, 10, 97, 98, 99, 13, 10, 48, 13, 10, 13, 10]
def isPost : Option Res → Bool
  | some (.done q []) => q.hs.isEmpty && (q.body.data.toList == [97, 98, 99])
  | _ => false
theorem post_told : ∃ q : Rq, allP postB = ([q], [], 0) ∧ q.hs = [] ∧ q.body = ⟨#[97, 98, 99]⟩ := by
  have h : isPost (tellF 12 RS.init postB) = true := by decide +kernel
  cases ht : tellF 12 RS.init postB with
  | none => rw [ht] at h; cases h
  | some r =>
    rw [ht] at h
    have hp := tellF_yes 12 _ _ _ ht
    match r, h, hp with
    | .done q [], h, hp =>
      simp only [isPost, Bool.and_eq_true, List.isEmpty_iff, beq_iff_eq] at h
      refine ⟨q, by rw [all_done hp, all_none], h.1, ?_⟩
      apply ByteArray.ext
      apply Array.ext'
      exact h.2
    | .done q (x :: t), h, hp => cases h
    | .wait s b, h, hp => cases h
    | .refuse e, h, hp => cases h
def xs513 : List UInt8 := List.replicate 513 120
theorem err_x : (allP xs513).2.2 = 282 := errF_yes (n := 1) (by decide +kernel)
theorem err_get : (allP [103, 101, 116, 32, 47, 32, 72, 84, 84, 80, 47, 49, 46, 49, 13, 10]).2.2 = 280 := errF_yes (n := 2) (by decide +kernel)
def lenB (d : UInt8) : List UInt8 := [71, 69, 84, 32, 47, 32, 72, 84, 84, 80, 47, 49, 46, 49, 13, 10, 99, 111, 110, 116, 101, 110, 116, 45, 108, 101, 110, 103, 116, 104, 58, 32, 56, 49, 57, d, 13, 10, 13, 10]
theorem err_93 : (allP (lenB 51)).2.2 = 281 := errF_yes (n := 5) (by decide +kernel)
theorem err_92 : (allP (lenB 50)).2.2 = 0 := errF_yes (n := 5) (by decide +kernel)
set_option maxRecDepth 100000 in
set_option maxHeartbeats 1600000 in
theorem lw_refused (s : ByteArray) (w : World) (he : EnvZ w) (hs : s.size ≤ 1000000) :
    Calls Tryz.prog 22 #[.string s] w fun e w' => e = .returned (.int .i64 (allP s.data.toList).2.2) ∧ Below w.heap.size w w' := by
  have HA := Lib.hid (rk_all s w he hs)
  clear he
  go_enter Tryz.func22, Tryz.ntmps22
  go_wp2_with fail
  refine HA.out.mono ?_
  rintro en w1 ⟨v, ts, rfl, -, -, hb⟩
  go_wp2_with fail
  go_ret
  exact ⟨rfl, hb⟩
set_option maxRecDepth 100000 in
set_option maxHeartbeats 1600000 in
theorem nil_next (w : World) : Calls Tryz.prog 16 #[.pointer none] w fun e w' => e = .returned (.tuple #[zeroReq, .bool false, .int .i64 1]) ∧ Below w.heap.size w w' := by
  obtain ⟨Q, hQ⟩ : ∃ Q : Ending → World → Prop, Q = fun en w' => en = .returned (.tuple #[zeroReq, .bool false, .int .i64 1]) ∧ Below w.heap.size w w' := ⟨_, rfl⟩
  rw [← hQ]
  have HF : Hid (∀ W, Below w.heap.size w W → Q (.returned (.tuple #[zeroReq, .bool false, .int .i64 1])) W) := fun W hW => by rw [hQ]; exact ⟨rfl, hW⟩
  clear hQ
  go_enter Tryz.func16, Tryz.ntmps16
  go_wp2_with fail
  go_step3
  go_wp2_with fail
  refine bodyPost_ret (v := .tuple #[.agg #[.string ⟨#[]⟩, .string ⟨#[]⟩, .slice none 0 0, .string ⟨#[]⟩, .bool false], .bool false, .int .i64 1]) (by simp [results, Tryz.results16, go_sem]) rfl ?_
  exact HF.out _ (bl_alloc (Below.refl _ _) _)
set_option maxRecDepth 100000 in
set_option maxHeartbeats 1600000 in
theorem zero_next (R : Nat) (w : World) (c0 : w.cell? ⟨R, 0, none⟩ = some (.bool false)) : Calls Tryz.prog 16 #[.pointer (some ⟨R, 0, none⟩)] w fun e w' => e = .returned (.tuple #[zeroReq, .bool false, .int .i64 1]) ∧ Below w.heap.size w w' := by
  obtain ⟨Q, hQ⟩ : ∃ Q : Ending → World → Prop, Q = fun en w' => en = .returned (.tuple #[zeroReq, .bool false, .int .i64 1]) ∧ Below w.heap.size w w' := ⟨_, rfl⟩
  rw [← hQ]
  have HF : Hid (∀ W, Below w.heap.size w W → Q (.returned (.tuple #[zeroReq, .bool false, .int .i64 1])) W) := fun W hW => by rw [hQ]; exact ⟨rfl, hW⟩
  clear hQ
  have hlt : R < w.heap.size := lt_of_cell c0
  go_enter Tryz.func16, Tryz.ntmps16
  go_wp2_with fail
  go_step3
  go_wp2_with fail
  refine bodyPost_ret (v := .tuple #[.agg #[.string ⟨#[]⟩, .string ⟨#[]⟩, .slice none 0 0, .string ⟨#[]⟩, .bool false], .bool false, .int .i64 1]) (by simp [results, Tryz.results16, go_sem]) rfl ?_
  exact HF.out _ (bl_alloc (Below.refl _ _) _)
set_option maxHeartbeats 400000 in
theorem nil_feed (x : ByteArray) (w : World) : Calls Tryz.prog 14 #[.pointer none, .string x] w fun e w' => e = .returned (.int .i64 1) ∧ w' = w := by
  go_enter Tryz.func14, Tryz.ntmps14
  go_wp2_with fail
  go_ret
  exact ⟨rfl, rfl⟩
set_option maxHeartbeats 400000 in
theorem zero_feed (R : Nat) (x : ByteArray) (w : World) (c0 : w.cell? ⟨R, 0, none⟩ = some (.bool false)) : Calls Tryz.prog 14 #[.pointer (some ⟨R, 0, none⟩), .string x] w fun e w' => e = .returned (.int .i64 1) ∧ w' = w := by
  go_enter Tryz.func14, Tryz.ntmps14
  go_wp2_with fail
  go_ret
  exact ⟨rfl, rfl⟩

def xsOf (k : Nat) : ByteArray := ⟨(List.replicate k (120 : UInt8)).toArray⟩
theorem xsOf_size (k : Nat) : (xsOf k).size = k := by simp [xsOf, ByteArray.size]
theorem xsOf_succ (k : Nat) : xsOf k ++ ⟨#[120]⟩ = xsOf (k + 1) := by
  apply ByteArray.ext
  apply Array.ext'
  simp [xsOf, ByteArray.data_append, List.replicate_succ']
def lineLen : Value → Nat
  | .string t => t.size
  | _ => 0
set_option maxRecDepth 100000 in
set_option maxHeartbeats 6400000 in
theorem lw_names (w : World) (he : EnvZ w) :
    Calls Tryz.prog 7 #[] w fun e w' => e = .returned (.bool true) ∧ Below w.heap.size w w' := by
  have HA : Hid (Calls Tryz.prog 18 #[.string ⟨#[80, 79, 83, 84, 32, 47, 97, 32, 72, 84, 84, 80, 47, 49, 46, 49, 13, 10, 84, 114, 97, 110, 115, 102, 101, 114, 45, 69, 110, 99, 111, 100, 105, 110, 103, 58, 32, 99, 104, 117, 110, 107, 101, 100, 13, 10, 13, 10, 51, 13, 10, 97, 98, 99, 13, 10, 48, 13, 10, 13, 10]⟩] w fun en w' => ∃ g c n1 X cx, en = .returned (.tuple #[.slice (some ⟨g, 0, none⟩) 1 c, .int .i64 n1, .int .i64 0]) ∧
      w'.cell? ⟨g, 3, none⟩ = some (.string ⟨#[97, 98, 99]⟩) ∧ w'.cell? ⟨g, 2, none⟩ = some (.slice X 0 cx) ∧ 1 ≤ c ∧ Below w.heap.size w w') := by
    refine (rk_all _ w he (by decide)).mono ?_
    rintro en w' ⟨v, ts, he, ht, hm, hb⟩
    obtain ⟨q, hq1, hq2, hq3⟩ := post_told
    have hall : allP (⟨#[80, 79, 83, 84, 32, 47, 97, 32, 72, 84, 84, 80, 47, 49, 46, 49, 13, 10, 84, 114, 97, 110, 115, 102, 101, 114, 45, 69, 110, 99, 111, 100, 105, 110, 103, 58, 32, 99, 104, 117, 110, 107, 101, 100, 13, 10, 13, 10, 51, 13, 10, 97, 98, 99, 13, 10, 48, 13, 10, 13, 10]⟩ : ByteArray).data.toList = ([q], [], 0) := hq1
    rw [hall] at he hm
    have hl : ts.length = 1 := by have := congrArg List.length hm; simpa using this
    rcases told_form ht with ⟨rfl, h0⟩ | ⟨g, c, rfl, hc⟩
    · rw [h0] at hl; simp at hl
    · obtain ⟨h0, h1, h2, h3, h4, A, cx, b, off, h5, h6, h7⟩ := ht.rqs 0 (by omega)
      have hq : ts[0].1 = q := by
        have := congrArg (fun l => l[0]?) hm
        simpa [hl] using this
      rw [hq, hq3] at h3
      rw [h5, hq, hq2] at h2
      rw [hl] at he hc
      exact ⟨g, c, _, A, cx, he, h3, h2, hc, hb⟩
  have HE := Lib.hid he; clear he
  have HR : Hid (∀ (s : ByteArray) W, EnvZ W → s.size ≤ 1000000 → ∀ e : Int, (allP s.data.toList).2.2 = e → Calls Tryz.prog 22 #[.string s] W fun en w' => en = .returned (.int .i64 e) ∧ Below W.heap.size W w') := fun s W hW hs e h => h ▸ lw_refused s W hW hs
  obtain ⟨Q, hQ⟩ : ∃ Q : Ending → World → Prop, Q = fun e w' => e = .returned (.bool true) ∧ Below w.heap.size w w' := ⟨_, rfl⟩
  rw [← hQ]
  have HF : Hid (∀ W, Below w.heap.size w W → Q (.returned (.bool true)) W) := fun W hW => by rw [hQ]; exact ⟨rfl, hW⟩
  clear hQ
  have HR4 : Hid (∀ W, Calls Tryz.prog 23 #[.int .i64 404] W fun e w' => e = .returned (.string ⟨#[78, 111, 116, 32, 70, 111, 117, 110, 100]⟩) ∧ Below W.heap.size W w') := fun W => wr_Reason 404 W
  have HR2 : Hid (∀ W, Calls Tryz.prog 23 #[.int .i64 201] W fun e w' => e = .returned (.string ⟨#[85, 110, 107, 110, 111, 119, 110]⟩) ∧ Below W.heap.size W w') := fun W => wr_Reason 201 W
  have HN : Hid (∀ W, Calls Tryz.prog 16 #[.pointer none] W fun e w' => e = .returned (.tuple #[.agg #[.string ⟨#[]⟩, .string ⟨#[]⟩, .slice none 0 0, .string ⟨#[]⟩, .bool false], .bool false, .int .i64 1]) ∧ Below W.heap.size W w') := fun W => nil_next W
  have HN2 : Hid (∀ R W, W.cell? ⟨R, 0, none⟩ = some (.bool false) → Calls Tryz.prog 16 #[.pointer (some ⟨R, 0, none⟩)] W fun e w' => e = .returned (.tuple #[.agg #[.string ⟨#[]⟩, .string ⟨#[]⟩, .slice none 0 0, .string ⟨#[]⟩, .bool false], .bool false, .int .i64 1]) ∧ Below W.heap.size W w') := fun R W h => zero_next R W h
  go_enter Tryz.func7, Tryz.ntmps7
  go_wp2_with fail
  refine HA.out.mono ?_
  rintro en w1 ⟨g, c, n1, X, cx, rfl, h1, h2, hc, hb1⟩
  have HB1 := Lib.hid hb1; clear hb1 HA
  go_wp2_with fail
  go_loop [5] (fun s => ∃ k : Nat, k ≤ 513 ∧ s = .string (xsOf k)) (fun s => 513 - lineLen s)
  case atStart => exact ⟨0, by omega, rfl⟩
  case round =>
    obtain ⟨k, hk, rfl⟩ := hrel
    have hsz := xsOf_size k
    have hsc := xsOf_succ k
    have HSC := Lib.hid hsc; clear hsc
    obtain ⟨t, ht⟩ : ∃ t, t = xsOf k := ⟨_, rfl⟩
    rw [← ht] at hsz HSC ⊢
    have HT := Lib.hid ht; clear ht
    by_cases hlt : k < 513
    · have hlt' : t.size < 513 := by omega
      have HSZ := Lib.hid hsz; clear hsz
      go_wp2_with fail
      go_round
      case rel => exact ⟨k + 1, by omega, by rw [HSC.out]⟩
      case measure =>
        rw [HSC.out]
        show 513 - (xsOf (k + 1)).size < 513 - t.size
        rw [xsOf_size, HSZ.out]
        omega
    · obtain rfl : k = 513 := by omega
      have hge : ¬ t.size < 513 := by omega
      have hal : t.data.toList = xs513 := by rw [HT.out]; rfl
      have HSZ := Lib.hid hsz; clear hsz
      have HAL := Lib.hid hal; clear hal
      go_wp2_with fail
      refine (HR.out _ _ (HE.out.below HB1.out) (by decide) 280 err_get).mono ?_
      rintro en w2 ⟨rfl, hb2⟩
      have HB2 := Lib.hid (bl_trans HB1.out hb2); clear hb2
      go_wp2_with fail
      refine (HR.out t _ (HE.out.below HB2.out) (by have := HSZ.out; omega) 282 (by rw [HAL.out]; exact err_x)).mono ?_
      rintro en w3 ⟨rfl, hb3⟩
      have HB3 := Lib.hid (bl_trans HB2.out hb3); clear hb3
      go_wp2_with fail
      refine (HR.out _ _ (HE.out.below HB3.out) (by decide) 281 err_93).mono ?_
      rintro en w4 ⟨rfl, hb4⟩
      have HB4 := Lib.hid (bl_trans HB3.out hb4); clear hb4
      go_wp2_with fail
      refine (HR.out _ _ (HE.out.below HB4.out) (by decide) 0 err_92).mono ?_
      rintro en w5 ⟨rfl, hb5⟩
      have HB5 := Lib.hid (bl_trans HB4.out hb5); clear hb5
      go_wp2_with fail
      refine (HN.out _).mono ?_
      rintro en w6 ⟨rfl, hb6⟩
      have HB6 := Lib.hid (bl_trans HB5.out (bl_trans (bl_alloc (Below.refl _ _) _) hb6))
      have hz := hb6.cell (p := ⟨w5.heap.size, 0, none⟩) (by rw [World.size_alloc]; exact Nat.lt_succ_self _)
      rw [show (w5.alloc _).cell? ⟨w5.heap.size, 0, none⟩ = some (.bool false) from by simp [go_sem]] at hz
      have HZ := Lib.hid ((bl_alloc (Below.refl w6.heap.size w6) (Obj.cells #[.string ⟨#[]⟩, .string ⟨#[]⟩, .slice none 0 0, .string ⟨#[]⟩, .bool false] 33)).cell (p := ⟨w5.heap.size, 0, none⟩) (lt_of_cell hz) |>.trans hz)
      clear hz hb6
      go_wp2_with fail
      refine (HN2.out _ _ HZ.out).mono ?_
      rintro en w7 ⟨rfl, hb7⟩
      have HB7 := Lib.hid (bl_trans HB6.out (bl_trans (bl_alloc (Below.refl _ _) _) (bl_trans hb7 (bl_alloc (Below.refl _ _) (Obj.cells #[.string ⟨#[]⟩, .string ⟨#[]⟩, .slice none 0 0, .string ⟨#[]⟩, .bool false] 33)))))
      have HZ7 := Lib.hid ((bl_trans hb7 (bl_alloc (Below.refl _ _) (Obj.cells #[.string ⟨#[]⟩, .string ⟨#[]⟩, .slice none 0 0, .string ⟨#[]⟩, .bool false] 33))).cell (p := ⟨w5.heap.size, 0, none⟩) (lt_of_cell HZ.out) |>.trans HZ.out)
      clear hb7
      go_wp2_with fail
      refine (lw_alive _ (HE.out.below HB7.out)).mono ?_
      rintro en w8 ⟨rfl, hb8⟩
      have HB8 := Lib.hid (bl_trans HB7.out hb8)
      have HZ8 := Lib.hid (hb8.cell (p := ⟨w5.heap.size, 0, none⟩) (lt_of_cell HZ7.out) |>.trans HZ7.out)
      clear hb8
      go_wp2_with fail
      refine (nil_feed _ _).mono ?_
      rintro en w9 ⟨rfl, rfl⟩
      go_wp2_with fail
      refine (zero_feed _ _ _ HZ8.out).mono ?_
      rintro en w10 ⟨rfl, rfl⟩
      go_wp2_with fail
      refine (HR4.out _).mono ?_
      rintro en w11 ⟨rfl, hb11⟩
      have HB11 := Lib.hid (bl_trans HB8.out hb11)
      clear hb11
      go_wp2_with fail
      refine (HR2.out _).mono ?_
      rintro en w12 ⟨rfl, hb12⟩
      have HB12 := Lib.hid (bl_trans HB11.out hb12)
      clear hb12
      go_wp2_with fail
      exact HF.out _ HB12.out
end Go.Proofs.YtnicmdlicbnlgaaGreatDoor
