/-
  Walks: the reference's functions that make strings: Small, bare, digits.
-/
import Derived.Test.YtnicmdlicbnlgaaGreatDoorPl
import Derived.Test.YtnicmdlicbnlgaaGreatDoorMem
import Derived.WalkKit
import Derived.WalkSpells
import Derived.WalkLawsBesides
import Derived.BigQuiet
import Derived.Deep.QuietTactic
import Derived.Lib.Hide
namespace Go.Proofs.YtnicmdlicbnlgaaGreatDoor
open Go.RowKit
set_option linter.unusedVariables false
set_option linter.unusedSimpArgs false

theorem info_u8 : (Tryz.prog.info? 5).map (fun i => (i.zero, i.size, i.bytes)) = some (some (.int .u8 0), 1, 1) := by kernel_rfl

set_option maxRecDepth 100000 in
set_option maxHeartbeats 400000 in
theorem rf_Small (s : ByteArray) (w : World) (hs : s.size ≤ 140737488355328) :
    Calls Tryz.prog 93 #[.string s] w fun e w' => e = .returned (.string ⟨(smallB s.data.toList).toArray⟩) ∧ Below w.heap.size w w' := by
  obtain ⟨i0, hi, hz0, hz1, hz2⟩ := info_parts info_u8
  go_enter Tryz.func93, Tryz.ntmps93
  go_wp2
  go_loopw [3, 4] (fun v i wr => ∃ k : Nat, k ≤ s.size ∧ i = .int .i64 k ∧ wr.ownsRow w.heap.size 5 1 v k (u8s (smallB (s.data.toList.take k))) ∧ Below w.heap.size w wr) (fun _ i _ => s.size - (intOf i).toNat)
  case atStart => exact ⟨0, Nat.zero_le _, rfl, World.ownsRow_nil _ _ _ _, Below.refl _ _⟩
  case round =>
    obtain ⟨k, hk, rfl, hown, hb⟩ := hrel
    by_cases hlt : k < s.size
    · have hlow : ((65 ≤ (s[k].toNat : Int) ∧ (s[k].toNat : Int) ≤ 90) ∧ ((lowB s[k]).toNat : Int) = (s[k].toNat : Int) + 32) ∨ ((s[k].toNat : Int) < 65 ∧ (lowB s[k]).toNat = s[k].toNat) ∨ (90 < (s[k].toNat : Int) ∧ (lowB s[k]).toNat = s[k].toNat) := lowB_cases s[k]
      have hts := small_take s k hlt
      have HT := Lib.hid hts; clear hts
      rcases hlow with ⟨⟨h1, h2⟩, he⟩ | ⟨h1, he⟩ | ⟨h1, he⟩
      all_goals
        have HE := Lib.hid he; clear he
        have hbs : w.heap.size ≤ wr.heap.size + 1 := Nat.le_succ_of_le hb.size
        go_wp2_with (at_builtin; refine wpList_append_own _ rfl _ _ 48 rfl w.heap.size 5 i0 (.int .u8 0) 1 1 Tryz.underlying48 hi hz0 hz1 hz2 rfl (by decide) _ _ _ rfl (hown.alloc _) ⟨wr.heap.size, 0, none⟩ 1 1 _ rfl rfl (cell_one_new _ _ _) (oneCell_int _ _) (by unfold maxLen; omega) (by omega) (by simpa using hbs) ?_; intro v' w1 hown1 hg _)
        have hown2 : w1.ownsRow w.heap.size 5 1 v' (k + 1) (u8s (smallB (s.data.toList.take (k + 1)))) := by
          rw [HT.out, u8s_append]
          first | (rw [u8s_one, HE.out]; exact hown1) | (rw [u8s_one, ← HE.out] at *; exact hown1)
        have hb2 : Below w.heap.size w w1 := (bl_alloc hb _).grown hg (by simpa using hbs) (fun b hbk => (hown.lt b hbk).1)
        clear hown1 hg hown hb
        go_wp2
        go_roundw
        case rel => exact ⟨k + 1, by omega, by go_num, hown2, hb2⟩
        case measure => simp [intOf]; omega
    · obtain rfl : k = s.size := by omega
      have e1 : s.data.toList.take s.size = s.data.toList := List.take_of_length_le (by simp)
      rw [e1] at hown
      have hl : s.size = (smallB s.data.toList).length := by simp [smallB]
      rw [hl] at hown
      have hcv := own_string hown 9 Tryz.underlying9
      clear hown e1 hl
      go_wp2
      go_ret
      exact ⟨rfl, hb⟩

set_option maxRecDepth 100000 in
set_option maxHeartbeats 400000 in
theorem rf_bare (s : ByteArray) (w : World) (hs : s.size ≤ maxLen) :
    Calls Tryz.prog 117 #[.string s] w fun e w' => e = .returned (.string ⟨(bareB s.data.toList).toArray⟩) ∧ w = w' := by
  unfold maxLen at hs
  go_enter Tryz.func117, Tryz.ntmps117
  go_wp2
  go_loop [0] (fun v => ∃ t : ByteArray, v = .string t ∧ t.size ≤ s.size ∧ Hid (bareB t.data.toList = bareB s.data.toList)) strSize
  case atStart => exact ⟨s, rfl, Nat.le_refl _, rfl⟩
  case round =>
    obtain ⟨t, rfl, ht, HB⟩ := hrel
    by_cases h0 : 0 < t.size
    · obtain ⟨hn1, hn2⟩ := nonempty_two t h0
      have hb0 := isBlank_split (t[0]'h0)
      rcases hb0 with ⟨h1, h1', hbl⟩ | ⟨h1, h1', hbl⟩ | ⟨h1, h1', hbl⟩
      · have HL := Lib.hid hbl; clear hbl
        go_wp2
        go_round
        case rel => exact ⟨_, rfl, by simp; omega, bare_cut_first t s h0 HL HB⟩
        case measure => simp [strSize]; omega
      · have HL := Lib.hid hbl; clear hbl
        go_wp2
        go_round
        case rel => exact ⟨_, rfl, by simp; omega, bare_cut_first t s h0 HL HB⟩
        case measure => simp [strSize]; omega
      · have HL := Lib.hid hbl; clear hbl
        go_wp2
        go_loop [0] (fun v => ∃ u : ByteArray, v = .string u ∧ u.size ≤ s.size ∧ Hid (bareB u.data.toList = bareB s.data.toList) ∧ Hid (∀ c, u.data.toList.head? = some c → isBlank c = false)) strSize
        case atStart => exact ⟨t, rfl, ht, HB, by unfold Hid; rw [head_at t h0]; intro c hc; cases hc; exact HL⟩
        case round =>
          obtain ⟨u, rfl, hu, HB2, HH⟩ := hrel
          by_cases h0 : 0 < u.size
          · obtain ⟨hn1, hn2⟩ := nonempty_two u h0
            have hz : u.size - 1 < u.size := by omega
            have hb1 := isBlank_split (u[u.size - 1]'hz)
            have hcast : ((u.size : Int) - 1).toNat = u.size - 1 := by omega
            rcases hb1 with ⟨h1, h1', hbl⟩ | ⟨h1, h1', hbl⟩ | ⟨h1, h1', hbl⟩
            · have HL := Lib.hid hbl; clear hbl
              go_wp2
              go_round
              case rel => exact ⟨_, rfl, by simp; omega, bare_cut_last u s h0 HL HB2, head_cut_last u HH⟩
              case measure => simp [strSize]; omega
            · have HL := Lib.hid hbl; clear hbl
              go_wp2
              go_round
              case rel => exact ⟨_, rfl, by simp; omega, bare_cut_last u s h0 HL HB2, head_cut_last u HH⟩
              case measure => simp [strSize]; omega
            · have HL := Lib.hid hbl; clear hbl
              go_wp2
              go_ret
              exact ⟨ret_str (bare_end u s HH (by rw [last_at u hz]; intro c hc; cases hc; exact HL) HB2), rfl⟩
          · obtain ⟨e1, e2⟩ := empty_of u h0
            have hn2 : (!u.toList.isEmpty) = false := by simp [e1]
            have HE := Lib.hid e2; clear e2
            go_wp2
            go_ret
            exact ⟨ret_str (bare_end u s HH (by rw [HE.out]; intro c hc; simp at hc) HB2), rfl⟩
    · obtain ⟨e1, e2⟩ := empty_of t h0
      have hn2 : (!t.toList.isEmpty) = false := by simp [e1]
      have HE := Lib.hid e2; clear e2
      go_wp2
      refine wp_loop_rounds 1 ?_
      rw [rounds_succ]
      go_wp2
      go_ret
      exact ⟨ret_str (bare_end t s (by rw [HE.out]; intro c hc; simp at hc) (by rw [HE.out]; intro c hc; simp at hc) HB), rfl⟩

set_option maxRecDepth 100000 in
set_option maxHeartbeats 400000 in
theorem rf_digits_all (m : Nat) : ∀ (x : Int) (w : World), 0 ≤ x → x < m → x ≤ 140737488355328 →
    Calls Tryz.prog 87 #[.int .i64 x] w fun e w' => e = .returned (.string ⟨(Lib.itoa x).toArray⟩) ∧ w = w' := by
  induction m with
  | zero => intro x w h0 h; omega
  | succ m ih =>
    intro x w h0 hnm hn
    have IH := Lib.hid ih; clear ih
    by_cases h : x < 10
    · have hd := digit_int x h0 h
      have HD := Lib.hid hd; clear hd
      go_enter Tryz.func87, Tryz.ntmps87
      go_wp2_with fail
      go_ret
      exact ⟨ret_str HD.out, rfl⟩
    · have l1 := itoa_len (x / 10) (by omega)
      have l2 := itoa_len (x % 10) (by omega)
      have hd := more_int x h0 h
      have HD := Lib.hid hd; clear hd
      go_enter Tryz.func87, Tryz.ntmps87
      go_wp2_with fail
      refine (IH.out _ _ (by omega) (by omega) (by omega)).mono ?_
      rintro e w1 ⟨rfl, rfl⟩
      go_wp2_with fail
      refine (IH.out _ _ (by omega) (by omega) (by omega)).mono ?_
      rintro e w1 ⟨rfl, rfl⟩
      go_wp2_with fail
      go_ret
      exact ⟨ret_str (by rw [cat_mk, HD.out]), rfl⟩
end Go.Proofs.YtnicmdlicbnlgaaGreatDoor
