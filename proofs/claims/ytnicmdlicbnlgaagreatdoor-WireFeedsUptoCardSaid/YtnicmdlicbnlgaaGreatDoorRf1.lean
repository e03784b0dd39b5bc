/-
  Walks: the reference's small functions on strings.
-/
import Derived.Test.YtnicmdlicbnlgaaGreatDoorPl
import Derived.Test.YtnicmdlicbnlgaaGreatDoorMem
import Derived.WalkKit
import Derived.WalkSpells
import Derived.WalkLawsBesides
import Derived.BigQuiet
import Derived.Deep.QuietTactic
import Derived.Lib.Hide
namespace Go.Proofs.YtnicmdlicbnlgaaGreatDoor
open Go.RowKit
set_option linter.unusedVariables false
set_option linter.unusedSimpArgs false

set_option maxHeartbeats 400000 in
theorem rf_method (s : ByteArray) (w : World) (hs : s.size ≤ maxLen) :
    Calls Tryz.prog 115 #[.string s] w fun e w' => e = .returned (.bool (methodB s.data.toList)) ∧ w = w' := by
  unfold maxLen at hs
  go_enter Tryz.func115, Tryz.ntmps115
  go_wp2
  go_loop [3] (fun i => ∃ k : Nat, k ≤ s.size ∧ i = .int .i64 k ∧ (s.data.toList.take k).all bUp = true) (fun i => s.size - (intOf i).toNat)
  case atStart => exact ⟨0, Nat.zero_le _, rfl, rfl⟩
  case round =>
    obtain ⟨k, hk, rfl, ha⟩ := hrel
    have HA := Lib.hid ha; clear ha
    by_cases hlt : k < s.size
    · by_cases h1 : (65 : Int) ≤ (s[k].toNat : Int)
      · by_cases h2 : (s[k].toNat : Int) ≤ 90
        · go_wp2
          go_round
          case rel => exact ⟨k + 1, by omega, by go_num, by rw [all_take_succ _ _ _ hlt, HA.out]; simp [bUp, UInt8.le_iff_toNat_le]; omega⟩
          case measure => simp [intOf]; omega
        · go_wp2
          go_ret
          exact ⟨ret_bool (methodB_bad s k hlt (by simp [bUp, UInt8.le_iff_toNat_le]; omega)).symm, rfl⟩
      · go_wp2
        go_ret
        exact ⟨ret_bool (methodB_bad s k hlt (by simp [bUp, UInt8.le_iff_toNat_le]; omega)).symm, rfl⟩
    · obtain rfl : k = s.size := by omega
      by_cases h1 : s.toList = []
      · have h2 : (!s.toList.isEmpty) = false := by simp [h1]
        go_wp2
        go_ret
        exact ⟨ret_bool (by rw [methodB_empty _ h1]), rfl⟩
      · have h2 : (!s.toList.isEmpty) = true := by simp [h1]
        go_wp2
        all_goals go_ret
        all_goals exact ⟨ret_bool (by rw [methodB_end _ HA.out h1]), rfl⟩

set_option maxHeartbeats 400000 in
theorem rf_path (s : ByteArray) (w : World) (hs : s.size ≤ maxLen) :
    Calls Tryz.prog 116 #[.string s] w fun e w' => e = .returned (.bool (pathB s.data.toList)) ∧ w = w' := by
  unfold maxLen at hs
  go_enter Tryz.func116, Tryz.ntmps116
  go_wp2
  go_loop [3] (fun i => ∃ k : Nat, k ≤ s.size ∧ i = .int .i64 k ∧ (s.data.toList.take k).all bPath = true) (fun i => s.size - (intOf i).toNat)
  case atStart => exact ⟨0, Nat.zero_le _, rfl, rfl⟩
  case round =>
    obtain ⟨k, hk, rfl, ha⟩ := hrel
    have HA := Lib.hid ha; clear ha
    by_cases hlt : k < s.size
    · by_cases h1 : (33 : Int) ≤ (s[k].toNat : Int)
      · by_cases h2 : (s[k].toNat : Int) ≤ 126
        · go_wp2
          go_round
          case rel => exact ⟨k + 1, by omega, by go_num, by rw [all_take_succ _ _ _ hlt, HA.out]; simp [bPath, UInt8.le_iff_toNat_le]; omega⟩
          case measure => simp [intOf]; omega
        · go_wp2
          go_ret
          exact ⟨ret_bool (pathB_bad s k hlt (by simp [bPath, UInt8.le_iff_toNat_le]; omega)).symm, rfl⟩
      · go_wp2
        go_ret
        exact ⟨ret_bool (pathB_bad s k hlt (by simp [bPath, UInt8.le_iff_toNat_le]; omega)).symm, rfl⟩
    · obtain rfl : k = s.size := by omega
      by_cases h1 : s.toList = []
      · have h2 : (!s.toList.isEmpty) = false := by simp [h1]
        go_wp2
        go_ret
        exact ⟨ret_bool (by rw [pathB_empty _ h1]), rfl⟩
      · have h2 : (!s.toList.isEmpty) = true := by simp [h1]
        have h3 : 0 < s.size := by
          rcases Nat.eq_zero_or_pos s.size with h | h
          · exact absurd (by rw [toList_data]; exact List.eq_nil_of_length_eq_zero (by simpa using h)) h1
          · exact h
        go_wp2
        all_goals go_ret
        all_goals exact ⟨ret_bool (by rw [pathB_end _ HA.out h3]), rfl⟩

set_option maxHeartbeats 400000 in
theorem rf_value (s : ByteArray) (w : World) (hs : s.size ≤ maxLen) :
    Calls Tryz.prog 119 #[.string s] w fun e w' => e = .returned (.bool (valueB s.data.toList)) ∧ w = w' := by
  unfold maxLen at hs
  go_enter Tryz.func119, Tryz.ntmps119
  go_wp2
  go_loop [3] (fun i => ∃ k : Nat, k ≤ s.size ∧ i = .int .i64 k ∧ (s.data.toList.take k).all bVal = true) (fun i => s.size - (intOf i).toNat)
  case atStart => exact ⟨0, Nat.zero_le _, rfl, rfl⟩
  case round =>
    obtain ⟨k, hk, rfl, ha⟩ := hrel
    have HA := Lib.hid ha; clear ha
    by_cases hlt : k < s.size
    · by_cases h0 : (s[k].toNat : Int) = 9
      · have h9 : ((s[k].toNat : Int) != 9) = false := by simp [h0]
        have hv : bVal s[k] = true := by
          have : s[k] = 9 := UInt8.toNat.inj (by have : (9 : UInt8).toNat = 9 := rfl; omega)
          rw [this]; rfl
        have HV := Lib.hid hv; clear hv h0
        go_wp2
        go_round
        case rel => exact ⟨k + 1, by omega, by go_num, by rw [all_take_succ _ _ _ hlt, HA.out, HV.out]; rfl⟩
        case measure => simp [intOf]; omega
      · have h9 : ((s[k].toNat : Int) != 9) = true := by simpa using h0
        have h9' : s[k] ≠ 9 := fun h => h0 (by rw [h]; rfl)
        by_cases h1 : (32 : Int) ≤ (s[k].toNat : Int)
        · by_cases h2 : (s[k].toNat : Int) ≤ 126
          · have hv : bVal s[k] = true := by simp [bVal, UInt8.le_iff_toNat_le]; omega
            have HV := Lib.hid hv; clear hv h9'
            go_wp2
            go_round
            case rel => exact ⟨k + 1, by omega, by go_num, by rw [all_take_succ _ _ _ hlt, HA.out, HV.out]; rfl⟩
            case measure => simp [intOf]; omega
          · have hv : bVal s[k] = false := by simp [bVal, UInt8.le_iff_toNat_le, h9']; omega
            have HV := Lib.hid hv; clear hv h9'
            go_wp2
            go_ret
            exact ⟨ret_bool (all_false_of bVal s k hlt HV.out).symm, rfl⟩
        · have hv : bVal s[k] = false := by simp [bVal, UInt8.le_iff_toNat_le, h9']; omega
          have HV := Lib.hid hv; clear hv h9'
          go_wp2
          go_ret
          exact ⟨ret_bool (all_false_of bVal s k hlt HV.out).symm, rfl⟩
    · obtain rfl : k = s.size := by omega
      go_wp2
      all_goals go_ret
      all_goals exact ⟨ret_bool (by rw [valueB, ← all_of_take, HA.out]), rfl⟩

set_option maxRecDepth 100000 in
set_option maxHeartbeats 1000000 in
theorem rf_Token (s : ByteArray) (w : World) (hs : s.size ≤ maxLen) :
    Calls Tryz.prog 118 #[.string s] w fun e w' => e = .returned (.bool (tokenB s.data.toList)) ∧ w = w' := by
  unfold maxLen at hs
  go_enter Tryz.func118, Tryz.ntmps118
  go_wp2
  go_loop [3] (fun i => ∃ k : Nat, k ≤ s.size ∧ i = .int .i64 k ∧ (s.data.toList.take k).all bTok = true) (fun i => s.size - (intOf i).toNat)
  case atStart => exact ⟨0, Nat.zero_le _, rfl, rfl⟩
  case round =>
    obtain ⟨k, hk, rfl, ha⟩ := hrel
    have HA := Lib.hid ha; clear ha
    by_cases hlt : k < s.size
    · have hc := (s[k]).toNat_lt
      rcases (show (97 ≤ (s[k].toNat : Int) ∧ (s[k].toNat : Int) ≤ 122) ∨ (65 ≤ (s[k].toNat : Int) ∧ (s[k].toNat : Int) ≤ 90) ∨ (48 ≤ (s[k].toNat : Int) ∧ (s[k].toNat : Int) ≤ 57) ∨ ((s[k].toNat : Int) < 48) ∨ (57 < (s[k].toNat : Int) ∧ (s[k].toNat : Int) < 65) ∨ (90 < (s[k].toNat : Int) ∧ (s[k].toNat : Int) < 97) ∨ (122 < (s[k].toNat : Int)) from by omega) with h | h | h | h | h | h | h
      all_goals
        go_wp2
        go_loop [5, 7] (fun g i => ∃ j : Nat, j ≤ 15 ∧ i = .int .i64 j ∧ g = .bool (goodB s[k] j)) (fun _ i => 15 - (intOf i).toNat)
        case atStart => exact ⟨0, by omega, rfl, by rw [goodB_zero]; first | (rw [alnumB_yes _ (by omega)]; done) | (rw [alnumB_no _ (by omega)]; done) | (rw [alnumB_no _ (by omega)]; simp; omega)⟩
        case round =>
          obtain ⟨j, hj, rfl, rfl⟩ := hrel
          by_cases hjl : j < 15
          · cases hg : goodB s[k] j with
            | true =>
              have HG := Lib.hid hg; clear hg
              go_wp2
              go_round
              case rel => exact ⟨j + 1, by omega, by go_num, by rw [goodB_succ _ _ hjl, HG.out]; rfl⟩
              case measure => simp [intOf]; omega
            | false =>
              have HG := Lib.hid hg; clear hg
              go_wp2
              go_round
              case rel => exact ⟨j + 1, by omega, by go_num, by rw [goodB_succ _ _ hjl, HG.out, ← sig_get j hjl hjl, Bool.false_or, ← byte_eq]⟩
              case measure => simp [intOf]; omega
          · obtain rfl : j = 15 := by omega
            cases hg : bTok s[k] with
            | true =>
              rw [goodB_end, hg]
              have HG := Lib.hid hg; clear hg
              go_wp2
              go_round
              case rel => exact ⟨k + 1, by omega, by go_num, by rw [all_take_succ _ _ _ hlt, HA.out, HG.out]; rfl⟩
              case measure => simp [intOf]; omega
            | false =>
              rw [goodB_end, hg]
              have HG := Lib.hid hg; clear hg
              go_wp2
              go_ret
              exact ⟨ret_bool (tokenB_bad s k hlt HG.out).symm, rfl⟩
    · obtain rfl : k = s.size := by omega
      by_cases h1 : s.toList = []
      · have h2 : (!s.toList.isEmpty) = false := by simp [h1]
        go_wp2
        go_ret
        exact ⟨ret_bool (by rw [tokenB_empty _ h1]), rfl⟩
      · have h2 : (!s.toList.isEmpty) = true := by simp [h1]
        go_wp2
        all_goals go_ret
        all_goals exact ⟨ret_bool (by rw [tokenB_end _ HA.out h1]), rfl⟩

end Go.Proofs.YtnicmdlicbnlgaaGreatDoor
