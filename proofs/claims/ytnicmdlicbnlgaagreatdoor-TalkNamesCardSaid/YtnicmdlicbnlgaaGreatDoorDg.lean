/-
  Walks: a reader's numbers.
-/
import Derived.Test.YtnicmdlicbnlgaaGreatDoorHx
import Derived.Test.YtnicmdlicbnlgaaGreatDoorLo
namespace Go.Proofs.YtnicmdlicbnlgaaGreatDoor
open Go.RowKit
set_option linter.unusedVariables false
set_option linter.unusedSimpArgs false

set_option maxHeartbeats 1000000 in
set_option maxRecDepth 100000 in
theorem hx_ParseInt (t : ByteArray) (h : digOk 6 t.data.toList = true) (w : World) :
    Calls Tryz.prog 99 #[.string t, .int .i64 16, .int .i64 64] w fun e w' => e = .returned (.tuple #[.int .i64 (hexTo t.data.toList), .nilIface]) ∧ Below w.heap.size w w' := by
  have HC := Lib.hid (hx_ParseInt_in t h)
  clear h
  go_enter Tryz.func99, Tryz.ntmps99
  go_wp2_with fail
  refine (HC.out _).mono ?_
  rintro e w1 ⟨rfl, hb⟩
  go_wp2_with fail
  go_ret2
  exact ⟨rfl, hb⟩
theorem dig_split (most : Nat) (s : ByteArray) : (s.toList = [] ∧ digOk most s.data.toList = false) ∨ (¬ s.toList = [] ∧ most < s.size ∧ digOk most s.data.toList = false) ∨ (¬ s.toList = [] ∧ s.size ≤ most ∧ digOk most s.data.toList = amongB 48 57 [97, 98, 99, 100, 101, 102] (Lib.toLowerD s.data.toList)) := by
  have hL : s.data.toList.length = s.size := by simp
  rw [toList_data, among_low]
  unfold digOk
  by_cases h1 : s.data.toList = []
  · left; exact ⟨h1, by rw [h1]; rfl⟩
  · right
    have e1 : s.data.toList.isEmpty = false := by cases h : s.data.toList <;> simp_all
    by_cases h2 : most < s.size
    · left; exact ⟨h1, h2, by rw [hL, decide_eq_false (by omega : ¬ s.size ≤ most)]; simp⟩
    · right; exact ⟨h1, by omega, by rw [hL, decide_eq_true (by omega : s.size ≤ most), e1]; rfl⟩
set_option maxHeartbeats 1000000 in
set_option maxRecDepth 100000 in
theorem dig_no (s : ByteArray) (most : Nat) (base : Int) (w : World) (he : Env w) (hm : most ≤ 100) (h : digOk most s.data.toList = false) :
    Calls Tryz.prog 69 #[.string s, .int .i64 most, .int .i64 base] w fun e w' => e = .returned (.int .i64 (-1)) ∧ Below w.heap.size w w' := by
  have HE := Lib.hid he; clear he
  rcases dig_split most s with ⟨h1, h2⟩ | ⟨h1, h2, h3⟩ | ⟨h1, h2, h3⟩
  · have h1' : (!s.toList.isEmpty) = false := by simp [h1]
    clear h2
    go_enter Tryz.func69, Tryz.ntmps69
    go_wp2_with fail
    go_ret
    exact ⟨rfl, Below.refl _ _⟩
  · have h1' : s.toList.isEmpty = false := by simp [h1]
    clear h3 h
    go_enter Tryz.func69, Tryz.ntmps69
    go_wp2_with fail
    go_ret
    exact ⟨rfl, Below.refl _ _⟩
  · have h1' : s.toList.isEmpty = false := by simp [h1]
    rw [h] at h3
    have H3 := Lib.hid h3; clear h3 h
    go_enter Tryz.func69, Tryz.ntmps69
    go_wp2_with fail
    refine (Tryz.strings_ToLower_any s _ (by omega) HE.out.cases HE.out.utf).mono ?_
    rintro e w1 ⟨rfl, hb⟩
    go_wp2_with fail
    refine (among_at ⟨(Lib.toLowerD s.data.toList).toArray⟩ ⟨#[97, 98, 99, 100, 101, 102]⟩ 48 57 48 57 _ rfl rfl (by decide) (by decide) (by decide)).mono ?_
    rw [show amongB 48 57 (⟨#[97, 98, 99, 100, 101, 102]⟩ : ByteArray).data.toList (⟨(Lib.toLowerD s.data.toList).toArray⟩ : ByteArray).data.toList = false from H3.out.symm]
    rintro e w2 ⟨rfl, hb2⟩
    go_wp2_with fail
    go_ret
    exact ⟨rfl, bl_trans hb hb2⟩
set_option maxHeartbeats 1000000 in
set_option maxRecDepth 100000 in
theorem dig_yes (s : ByteArray) (most : Nat) (base v : Int) (w : World) (he : Env w) (hm : most ≤ 100) (h : digOk most s.data.toList = true)
    (hc : ∀ W, Below w.heap.size w W → Calls Tryz.prog 99 #[.string s, .int .i64 base, .int .i64 64] W fun e w' => e = .returned (.tuple #[.int .i64 v, .nilIface]) ∧ Below W.heap.size W w') :
    Calls Tryz.prog 69 #[.string s, .int .i64 most, .int .i64 base] w fun e w' => e = .returned (.int .i64 v) ∧ Below w.heap.size w w' := by
  have HE := Lib.hid he; clear he
  have HC := Lib.hid hc; clear hc
  rcases dig_split most s with ⟨h1, h2⟩ | ⟨h1, h2, h3⟩ | ⟨h1, h2, h3⟩
  · rw [h] at h2; cases h2
  · rw [h] at h3; cases h3
  · have h1' : s.toList.isEmpty = false := by simp [h1]
    rw [h] at h3
    have H3 := Lib.hid h3; clear h3 h
    go_enter Tryz.func69, Tryz.ntmps69
    go_wp2_with fail
    refine (Tryz.strings_ToLower_any s _ (by omega) HE.out.cases HE.out.utf).mono ?_
    rintro e w1 ⟨rfl, hb⟩
    go_wp2_with fail
    refine (among_at ⟨(Lib.toLowerD s.data.toList).toArray⟩ ⟨#[97, 98, 99, 100, 101, 102]⟩ 48 57 48 57 _ rfl rfl (by decide) (by decide) (by decide)).mono ?_
    rw [show amongB 48 57 (⟨#[97, 98, 99, 100, 101, 102]⟩ : ByteArray).data.toList (⟨(Lib.toLowerD s.data.toList).toArray⟩ : ByteArray).data.toList = true from H3.out.symm]
    rintro e w2 ⟨rfl, hb2⟩
    have HB := Lib.hid (bl_trans hb hb2); clear hb hb2
    go_wp2_with fail
    refine (HC.out _ HB.out).mono ?_
    rintro e w3 ⟨rfl, hb3⟩
    go_wp2_with fail
    go_ret
    exact ⟨rfl, bl_trans HB.out hb3⟩
set_option maxHeartbeats 1000000 in
set_option maxRecDepth 100000 in
theorem dig_bad (s : ByteArray) (most : Nat) (base : Int) (w : World) (he : Env w) (hm : most ≤ 100) (h : digOk most s.data.toList = true)
    (hc : ∀ W, Below w.heap.size w W → Calls Tryz.prog 99 #[.string s, .int .i64 base, .int .i64 64] W fun e w' => (∃ t v, e = .returned (.tuple #[.int .i64 0, .iface t v])) ∧ Below W.heap.size W w') :
    Calls Tryz.prog 69 #[.string s, .int .i64 most, .int .i64 base] w fun e w' => e = .returned (.int .i64 (-1)) ∧ Below w.heap.size w w' := by
  have HE := Lib.hid he; clear he
  have HC := Lib.hid hc; clear hc
  rcases dig_split most s with ⟨h1, h2⟩ | ⟨h1, h2, h3⟩ | ⟨h1, h2, h3⟩
  · rw [h] at h2; cases h2
  · rw [h] at h3; cases h3
  · have h1' : s.toList.isEmpty = false := by simp [h1]
    rw [h] at h3
    have H3 := Lib.hid h3; clear h3 h
    go_enter Tryz.func69, Tryz.ntmps69
    go_wp2_with fail
    refine (Tryz.strings_ToLower_any s _ (by omega) HE.out.cases HE.out.utf).mono ?_
    rintro e w1 ⟨rfl, hb⟩
    go_wp2_with fail
    refine (among_at ⟨(Lib.toLowerD s.data.toList).toArray⟩ ⟨#[97, 98, 99, 100, 101, 102]⟩ 48 57 48 57 _ rfl rfl (by decide) (by decide) (by decide)).mono ?_
    rw [show amongB 48 57 (⟨#[97, 98, 99, 100, 101, 102]⟩ : ByteArray).data.toList (⟨(Lib.toLowerD s.data.toList).toArray⟩ : ByteArray).data.toList = true from H3.out.symm]
    rintro e w2 ⟨rfl, hb2⟩
    have HB := Lib.hid (bl_trans hb hb2); clear hb hb2
    go_wp2_with fail
    refine (HC.out _ HB.out).mono ?_
    rintro e w3 ⟨⟨t3, v3, rfl⟩, hb3⟩
    go_wp2_with fail
    go_ret
    exact ⟨rfl, bl_trans HB.out hb3⟩
/-- In tens. -/
theorem rk_tens (s : ByteArray) (w : World) (he : EnvZ w) :
    Calls Tryz.prog 69 #[.string s, .int .i64 7, .int .i64 10] w fun e w' => e = .returned (.int .i64 (numP s.data.toList)) ∧ Below w.heap.size w w' := by
  cases h : digOk 7 s.data.toList with
  | false =>
    rw [num_not _ h]
    exact dig_no s 7 10 w he.env (by omega) h
  | true =>
    have hsz : s.size ≤ 7 := (dig_first s 7 h).2.2.2.2
    rcases num_lib _ h with ⟨_, _, h3⟩ | ⟨h2, h3⟩
    · refine dig_yes s 7 10 _ w he.env (by omega) h fun W hW => (Tryz.strconv_ParseInt_10_ok s (by omega) _ h3 W).mono fun e w' ⟨h1, h2⟩ => ⟨h1, ?_⟩
      rcases h2 with rfl | ⟨t, rfl⟩
      · exact Below.refl _ _
      · exact Lib.bytesWorld_below _ _ _
    · rw [h2]
      refine dig_bad s 7 10 w he.env (by omega) h fun W hW => ?_
      obtain ⟨te, pe, hs⟩ := (he.below hW).syn
      exact Tryz.strconv_ParseInt_10_none s (by omega) h3 _ W hs (.inr ⟨te, pe, rfl⟩)
/-- In sixteens. -/
theorem rk_sixteens (s : ByteArray) (w : World) (he : EnvZ w) :
    Calls Tryz.prog 69 #[.string s, .int .i64 6, .int .i64 16] w fun e w' => e = .returned (.int .i64 (hexP s.data.toList)) ∧ Below w.heap.size w w' := by
  cases h : digOk 6 s.data.toList with
  | false =>
    rw [hex_not _ h]
    exact dig_no s 6 16 w he.env (by omega) h
  | true =>
    rw [hex_yes _ h]
    exact dig_yes s 6 16 _ w he.env (by omega) h fun W hW => hx_ParseInt s h W
end Go.Proofs.YtnicmdlicbnlgaaGreatDoor
