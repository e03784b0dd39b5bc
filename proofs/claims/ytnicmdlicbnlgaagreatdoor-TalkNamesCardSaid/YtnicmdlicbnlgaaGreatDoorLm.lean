/-
  Walks: docketlaw28's alive, and the law that what bytes tell begins what more bytes tell.
-/
import Derived.Test.YtnicmdlicbnlgaaGreatDoorSa
namespace Go.Proofs.YtnicmdlicbnlgaaGreatDoor
open Go.RowKit
set_option linter.unusedVariables false
set_option linter.unusedSimpArgs false

def getB : List UInt8 := [71, 69, 84, 32, 47, 32, 72, 84, 84, 80, 47, 49, 46, 49, 13, 10, 13, 10]
def getQ : Rq := ⟨⟨#[71, 69, 84]⟩, ⟨#[47]⟩, [], ⟨#[]⟩, false⟩
def getS1 : RS := ⟨1, ⟨#[71, 69, 84]⟩, ⟨#[47]⟩, [], false, 0, 1024, -1, false, []⟩
def getS2 : RS := ⟨2, ⟨#[71, 69, 84]⟩, ⟨#[47]⟩, [], false, 0, 1024, -1, false, []⟩
theorem get_first : firstLn [71, 69, 84, 32, 47, 32, 72, 84, 84, 80, 47, 49, 46, 49] = some ([71, 69, 84], [47]) := by decide +kernel
theorem tell_get (c : List UInt8) : tellP RS.init (getB ++ c) = .done getQ c := by
  have h1 : stepP RS.init getB = .on getS1 [13, 10] := by
    have hl : lineAt 512 getB = .got [71, 69, 84, 32, 47, 32, 72, 84, 84, 80, 47, 49, 46, 49] [13, 10] := by rfl
    rw [step0 _ _ rfl, hl]
    simp only
    rw [get_first]
    rfl
  have h2 : stepP getS1 [13, 10] = .on getS2 [] := by rfl
  have h3 : stepP getS2 [] = .whole getQ [] := by rfl
  have h : tellP RS.init getB = .done getQ [] := by rw [tell_on h1, tell_on h2, tell_whole h3]
  rw [tell_more, h]
  rfl
theorem tell_none : tellP RS.init [] = .wait RS.init [] := tell_wait rfl
theorem allP_get (c : List UInt8) : allP (getB ++ c) = (getQ :: (allP c).1, (allP c).2) := all_done (tell_get c)
theorem all_none : allP [] = ([], [], 0) := all_wait tell_none
theorem all_two : allP (getB ++ getB) = ([getQ, getQ], [], 0) := by
  rw [allP_get]
  have h := allP_get []
  rw [List.append_nil] at h
  rw [h, all_none]
/-- Where the slice of what was told lies. -/
theorem told_form {w : World} {v : Value} {ts : List (Rq × Value)} (h : ToldAt w v ts) : (v = .slice none 0 0 ∧ ts = []) ∨ ∃ g c, v = .slice (some ⟨g, 0, none⟩) ts.length c ∧ ts.length ≤ c := by
  rcases h.1.2 with ⟨rfl, h0⟩ | ⟨g, cap, cur, rfl, _, _, hc, _⟩
  · exact .inl ⟨rfl, List.eq_nil_of_length_eq_zero h0⟩
  · exact .inr ⟨g, cap, rfl, hc⟩
set_option maxRecDepth 100000 in
set_option maxHeartbeats 1600000 in
theorem lw_alive (w : World) (he : EnvZ w) :
    Calls Tryz.prog 20 #[] w fun e w' => e = .returned (.bool true) ∧ Below w.heap.size w w' := by
  have hA := rk_all ⟨#[71, 69, 84, 32, 47, 32, 72, 84, 84, 80, 47, 49, 46, 49, 13, 10, 13, 10, 71, 69, 84, 32, 47, 32, 72, 84, 84, 80, 47, 49, 46, 49, 13, 10, 13, 10]⟩ w he (by decide)
  have HA : Hid (Calls Tryz.prog 18 #[.string ⟨#[71, 69, 84, 32, 47, 32, 72, 84, 84, 80, 47, 49, 46, 49, 13, 10, 13, 10, 71, 69, 84, 32, 47, 32, 72, 84, 84, 80, 47, 49, 46, 49, 13, 10, 13, 10]⟩] w fun en w' => ∃ g c, en = .returned (.tuple #[.slice (some ⟨g, 0, none⟩) 2 c, .int .i64 36, .int .i64 0]) ∧
      w'.cell? ⟨g, 5, none⟩ = some (.string ⟨#[71, 69, 84]⟩) ∧ w'.cell? ⟨g, 6, none⟩ = some (.string ⟨#[47]⟩) ∧ 2 ≤ c ∧ Below w.heap.size w w') := by
    refine hA.mono ?_
    rintro en w' ⟨v, ts, he, ht, hm, hb⟩
    have hall : allP (⟨#[71, 69, 84, 32, 47, 32, 72, 84, 84, 80, 47, 49, 46, 49, 13, 10, 13, 10, 71, 69, 84, 32, 47, 32, 72, 84, 84, 80, 47, 49, 46, 49, 13, 10, 13, 10]⟩ : ByteArray).data.toList = ([getQ, getQ], [], 0) := all_two
    rw [hall] at he hm
    have hl : ts.length = 2 := by have := congrArg List.length hm; simpa using this
    rcases told_form ht with ⟨rfl, h0⟩ | ⟨g, c, rfl, hc⟩
    · rw [h0] at hl; simp at hl
    · have h1 := ht.rqs 1 (by omega)
      have hq : ts[1].1 = getQ := by
        have := congrArg (fun l => l[1]?) hm
        simpa [hl] using this
      rw [hq] at h1
      rw [hl] at he hc
      exact ⟨g, c, he, h1.1, h1.2.1, hc, hb⟩
  clear hA he
  go_enter Tryz.func20, Tryz.ntmps20
  go_wp2_with fail
  refine HA.out.mono ?_
  rintro en w1 ⟨g, c, rfl, h1, h2, hc, hb⟩
  go_wp2_with fail
  go_ret
  exact ⟨rfl, hb⟩

/-- What was told, at an address that is a letter. -/
theorem told_any {w : World} {v : Value} {ts : List (Rq × Value)} (h : ToldAt w v ts) : ∃ (X : Option Addr) (c g : Nat), v = .slice X ts.length c ∧ ts.length ≤ c ∧ (X = none → c = 0) ∧ (0 < ts.length → X = some ⟨g, 0, none⟩) ∧ RqsAt w g 0 ts := by
  rcases told_form h with ⟨rfl, h0⟩ | ⟨g, c, rfl, hc⟩
  · subst h0
    exact ⟨none, 0, 0, rfl, Nat.le_refl _, fun _ => rfl, fun h => absurd h (by simp), fun i hi => absurd hi (by simp)⟩
  · exact ⟨_, c, g, rfl, hc, (fun h => by cases h), fun _ => rfl, h.rqs⟩
/-- What the law compares. -/
theorem more_plain (b c : List UInt8) : (allP b).1.length ≤ (allP (b ++ c)).1.length ∧ (allP (b ++ c)).1.take (allP b).1.length = (allP b).1 ∧ (b.length : Int) - (allP b).2.1.length ≤ ((b ++ c).length : Int) - (allP (b ++ c)).2.1.length ∧
    (¬ (allP b).2.2 = 0 → (allP (b ++ c)).2.2 = (allP b).2.2 ∧ ((b ++ c).length : Int) - (allP (b ++ c)).2.1.length = (b.length : Int) - (allP b).2.1.length ∧ (allP (b ++ c)).1.length = (allP b).1.length) := by
  have h := all_more c b
  have hl := (all_len ((allP b).2.1 ++ c)).1
  by_cases he : (allP b).2.2 = 0
  · rw [if_pos he] at h
    rw [h]
    refine ⟨by simp, by simp, ?_, fun hn => absurd he hn⟩
    simp only [List.length_append] at hl ⊢
    omega
  · rw [if_neg he] at h
    rw [h]
    refine ⟨by simp, by simp, ?_, fun _ => ⟨rfl, ?_, rfl⟩⟩
    · simp only [List.length_append]; omega
    · simp only [List.length_append]; omega
set_option maxRecDepth 100000 in
set_option maxHeartbeats 3200000 in
theorem lw_more (b c : ByteArray) (w : World) (he : EnvZ w) :
    Calls Tryz.prog 5 #[.string b, .string c] w fun e w' => e = .returned (.bool true) ∧ Below w.heap.size w w' := by
  have HE := Lib.hid he; clear he
  have HAL := Lib.hid (lw_alive w HE.out)
  by_cases hb : 9000 < b.size
  · go_enter Tryz.func5, Tryz.ntmps5
    go_wp2_with fail
    refine HAL.out.mono ?_
    rintro en w1 ⟨rfl, hb1⟩
    go_wp2_with fail
    go_ret
    exact ⟨rfl, hb1⟩
  · by_cases hc : 9000 < c.size
    · go_enter Tryz.func5, Tryz.ntmps5
      go_wp2_with fail
      refine HAL.out.mono ?_
      rintro en w1 ⟨rfl, hb1⟩
      go_wp2_with fail
      go_ret
      exact ⟨rfl, hb1⟩
    · have hP := more_plain b.data.toList c.data.toList
      have hA1 : Hid (∀ W, EnvZ W → Calls Tryz.prog 18 #[.string b] W (AllPost W b.data.toList)) := fun W hW => rk_all b W hW (by omega)
      have hA2 : Hid (∀ W, EnvZ W → Calls Tryz.prog 18 #[.string (b ++ c)] W (AllPost W (b.data.toList ++ c.data.toList))) := fun W hW => by
        have := rk_all (b ++ c) W hW (by rw [ByteArray.size_append]; omega)
        rw [show (b ++ c).data.toList = b.data.toList ++ c.data.toList by simp [ByteArray.data_append]] at this
        exact this
      have hh := all_heads b.data.toList
      have hl1 := (all_len b.data.toList).2
      have hbl : b.data.toList.length = b.size := by simp
      unfold AllPost at hA1 hA2
      generalize ((b.data.toList ++ c.data.toList).length : Int) - (allP (b.data.toList ++ c.data.toList)).2.1.length = n2 at hP hA2
      generalize (b.data.toList.length : Int) - (allP b.data.toList).2.1.length = n1 at hP hA1
      generalize (allP (b.data.toList ++ c.data.toList)).2.2 = e2 at hP hA2
      generalize (allP b.data.toList).2.2 = e1 at hP hA1
      generalize (allP (b.data.toList ++ c.data.toList)).1 = l2 at hP hA2
      generalize (allP b.data.toList).1 = l1 at hP hA1 hh hl1
      obtain ⟨p1, p2, p3, p4⟩ := hP
      have HH := Lib.hid hh; clear hh
      have HP1 := Lib.hid p1; clear p1
      have HP2 := Lib.hid p2; clear p2
      have HP4 := Lib.hid p4; clear p4
      have HL1 : Hid (l1.length ≤ 9000) := by show l1.length ≤ 9000; omega
      clear hl1 hbl
      go_enter Tryz.func5, Tryz.ntmps5
      go_wp2_with fail
      refine HAL.out.mono ?_
      rintro en w1 ⟨rfl, hb1⟩
      have HE1 := Lib.hid (HE.out.below hb1)
      have HB1 := Lib.hid hb1; clear hb1
      go_wp2_with fail
      refine (hA1.out _ HE1.out).mono ?_
      rintro en w2 ⟨v1, t1, rfl, ht1, hm1, hb2⟩
      have HE2 := Lib.hid (HE1.out.below hb2)
      have HB2 := Lib.hid (bl_trans HB1.out hb2); clear hb2
      have HT1 := Lib.hid ht1; clear ht1
      have HM1 := Lib.hid hm1; clear hm1
      go_wp2_with fail
      refine (hA2.out _ HE2.out).mono ?_
      rintro en w3 ⟨v2, t2, rfl, ht2, hm2, hb3⟩
      have HT1' := Lib.hid (HT1.out.below hb3)
      have HB3 := Lib.hid (bl_trans HB2.out hb3); clear hb3
      obtain ⟨X1, c1, g1, rfl, hc1, hn1, hx1, hr1⟩ := told_any HT1'.out
      obtain ⟨X2, c2, g2, rfl, hc2, hn2, hx2, hr2⟩ := told_any ht2
      have hl1 : t1.length = l1.length := by rw [← HM1.out]; simp
      have hl2 : t2.length = l2.length := by rw [← hm2]; simp
      have hle : t1.length ≤ t2.length := by rw [hl1, hl2]; exact HP1.out
      have HS := Lib.hid (lw_same X2 X1 g2 0 g1 0 t1.length c2 c1 (t2.take t1.length) t1 w3 (by rw [List.length_take]; omega) rfl (fun h => hx2 (by omega)) hx1 (hr2.take _) hr1
        (by rw [List.map_take, hm2, HM1.out, hl1]; exact HP2.out) (by rw [List.map_take, hm2, hl1, HP2.out]; exact HH.out) (by have := HL1.out; omega))
      have h4 : ¬ e1 = 0 → e2 = e1 ∧ n2 = n1 ∧ t2.length = t1.length := fun h => by rw [hl1, hl2]; exact HP4.out h
      have H4 := Lib.hid h4; clear h4
      have hcc : t1.length ≤ c2 := by omega
      clear hx1 hx2 hr1 hr2 ht2 hn1 hn2
      have HM2 := Lib.hid hm2; clear hm2
      have HL2 := Lib.hid hl2; clear hl2
      have HL1' := Lib.hid hl1; clear hl1
      by_cases he1 : e1 = 0
      · subst he1
        go_wp2_with fail
        refine HS.out.mono ?_
        rintro en w4 ⟨rfl, hb4⟩
        go_wp2_with fail
        go_ret
        exact ⟨rfl, bl_trans HB3.out hb4⟩
      · obtain ⟨q1, q2, q3⟩ := H4.out he1
        subst q1; subst q2
        rw [q3] at hc2 ⊢
        have Q3 := Lib.hid q3; clear q3
        clear hle p3
        go_wp2_with fail
        refine HS.out.mono ?_
        rintro en w4 ⟨rfl, hb4⟩
        go_wp2_with fail
        go_ret
        exact ⟨rfl, bl_trans HB3.out hb4⟩
end Go.Proofs.YtnicmdlicbnlgaaGreatDoor
