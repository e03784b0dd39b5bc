/-
  Walks: the reference's numbers.
-/
import Derived.Test.YtnicmdlicbnlgaaGreatDoorRg
namespace Go.Proofs.YtnicmdlicbnlgaaGreatDoor
open Go.RowKit
set_option linter.unusedVariables false
set_option linter.unusedSimpArgs false

def dig10 (n : Int) (c : UInt8) : Int := 10 * n + ((c.toNat : Int) - 48)
def dig16 (n : Int) (c : UInt8) : Int := 16 * n + (hexVal c).getD 0
theorem fold_grow (f : Int → UInt8 → Int) (B : Int) (hB : 0 < B) (p : UInt8 → Bool) (hf : ∀ n c, 0 ≤ n → p c = true → 0 ≤ f n c ∧ f n c + 1 ≤ (n + 1) * B) :
    ∀ (l : List UInt8) (n : Int), 0 ≤ n → l.all p = true → 0 ≤ l.foldl f n ∧ l.foldl f n < (n + 1) * B ^ l.length
  | [], n, h0, _ => by simp; omega
  | c :: t, n, h0, h => by
    simp only [List.all_cons, Bool.and_eq_true] at h
    obtain ⟨g0, g1⟩ := hf n c h0 h.1
    obtain ⟨k0, k1⟩ := fold_grow f B hB p hf t (f n c) g0 h.2
    refine ⟨k0, ?_⟩
    show t.foldl f (f n c) < (n + 1) * B ^ (t.length + 1)
    have hp : (0 : Int) ≤ B ^ t.length := Int.pow_nonneg (by omega)
    have h2 := Int.mul_le_mul_of_nonneg_right g1 hp
    rw [Int.pow_succ, Int.mul_comm (B ^ t.length) B, ← Int.mul_assoc]
    omega
theorem dig10_bound (l : List UInt8) (h : l.all isDig = true) : 0 ≤ l.foldl dig10 0 ∧ l.foldl dig10 0 < 10 ^ l.length := by
  have := fold_grow dig10 10 (by decide) isDig (fun n c h0 hc => by
    have hc : 48 ≤ c.toNat ∧ c.toNat ≤ 57 := by
      simp only [isDig, Bool.and_eq_true, decide_eq_true_eq, UInt8.le_iff_toNat_le] at hc
      exact hc
    unfold dig10
    omega) l 0 (by omega) h
  simpa using this
theorem hexVal_bound {c : UInt8} (h : (hexVal c).isSome = true) : 0 ≤ (hexVal c).getD 0 ∧ (hexVal c).getD 0 < 16 := by
  unfold hexVal at h ⊢
  split
  · rename_i hc
    simp only [Bool.and_eq_true, decide_eq_true_eq, UInt8.le_iff_toNat_le] at hc
    have e1 : (48 : UInt8).toNat = 48 := rfl
    have e2 : (57 : UInt8).toNat = 57 := rfl
    simp only [Option.getD_some]
    omega
  · split
    · rename_i hc
      simp only [Bool.and_eq_true, decide_eq_true_eq, UInt8.le_iff_toNat_le] at hc
      have e1 : (97 : UInt8).toNat = 97 := rfl
      have e2 : (102 : UInt8).toNat = 102 := rfl
      simp only [Option.getD_some]
      omega
    · simp_all
theorem dig16_bound (l : List UInt8) (h : l.all (fun c => (hexVal c).isSome) = true) : 0 ≤ l.foldl dig16 0 ∧ l.foldl dig16 0 < 16 ^ l.length := by
  have := fold_grow dig16 16 (by decide) (fun c => (hexVal c).isSome) (fun n c h0 hc => by
    have hc := hexVal_bound hc
    unfold dig16
    omega) l 0 (by omega) h
  simpa using this
theorem numP_no {s : ByteArray} (h : s.size = 0 ∨ 7 < s.size ∨ s.data.toList.all isDig = false) : numP s.data.toList = -1 := by
  have hL : s.data.toList.length = s.size := by simp
  unfold numP
  rw [if_pos]
  rcases h with h | h | h
  · have : s.data.toList = [] := List.eq_nil_of_length_eq_zero (by omega)
    simp [this]
  · have : decide (7 < s.data.toList.length) = true := by rw [hL]; simpa using h
    rw [this]; simp
  · simp only [h]; simp
theorem numP_yes {s : ByteArray} (h0 : 0 < s.size) (h7 : s.size ≤ 7) (h : s.data.toList.all isDig = true) : numP s.data.toList = s.data.toList.foldl dig10 0 := by
  have hL : s.data.toList.length = s.size := by simp
  unfold numP
  rw [if_neg]
  · rfl
  · have h1 : s.data.toList.isEmpty = false := by
      cases he : s.data.toList with
      | nil => rw [he] at hL; simp at hL; omega
      | cons x t => rfl
    rw [h1, h]
    simp; omega
theorem all_badZ {p : UInt8 → Bool} (s : ByteArray) (k : Nat) (hk : k < s.size) (h : p s[k] = false) : s.data.toList.all p = false := by
  rw [Bool.eq_false_iff]
  intro ha
  have := List.all_eq_true.1 ha s[k] (List.getElem_mem (by simpa using hk))
  rw [h] at this
  cases this
theorem fold_take {α : Type} (f : α → UInt8 → α) (z : α) (s : ByteArray) (k : Nat) (hk : k < s.size) : (s.data.toList.take (k + 1)).foldl f z = f ((s.data.toList.take k).foldl f z) s[k] := by
  have h' : k < s.data.toList.length := by simpa using hk
  rw [List.take_succ_eq_append_getElem h', List.foldl_append]
  rfl
theorem pow10 {k : Nat} (h : k ≤ 6) : (10 : Int) ^ k ≤ 1000000 := by
  match k, h with
  | 0, _ | 1, _ | 2, _ | 3, _ | 4, _ | 5, _ | 6, _ => decide
theorem pow16 {k : Nat} (h : k ≤ 6) : (16 : Int) ^ k ≤ 16777216 := by
  match k, h with
  | 0, _ | 1, _ | 2, _ | 3, _ | 4, _ | 5, _ | 6, _ => decide
set_option maxRecDepth 100000 in
set_option maxHeartbeats 400000 in
theorem rf_number (s : ByteArray) (w : World) (hs : s.size ≤ 1000000000) :
    Calls Tryz.prog 92 #[.string s] w fun en w' => en = .returned (.int .i64 (numP s.data.toList)) ∧ w = w' := by
  go_enter Tryz.func92, Tryz.ntmps92
  by_cases h0 : s.size = 0
  · have he : s.toList.isEmpty = true := by
      rw [toList_data, List.eq_nil_of_length_eq_zero (l := s.data.toList) (by simpa using h0)]; rfl
    have HR := Lib.hid (numP_no (.inl h0))
    go_wp2_with fail
    go_ret
    exact ⟨ret_int HR.out.symm, rfl⟩
  · have he : s.toList.isEmpty = false := by
      rw [toList_data]
      cases hd : s.data.toList with
      | nil => have : s.data.toList.length = s.size := by simp
               rw [hd] at this; simp at this; omega
      | cons x t => rfl
    by_cases h7 : 7 < s.size
    · have HR := Lib.hid (numP_no (.inr (.inl h7)))
      go_wp2_with fail
      go_ret
      exact ⟨ret_int HR.out.symm, rfl⟩
    · go_wp2_with fail
      go_loop [3, 4] (fun n i => ∃ k : Nat, k ≤ s.size ∧ i = .int .i64 k ∧ n = .int .i64 ((s.data.toList.take k).foldl dig10 0) ∧ (s.data.toList.take k).all isDig = true) (fun _ i => s.size - (intOf i).toNat)
      case atStart => exact ⟨0, Nat.zero_le _, rfl, rfl, rfl⟩
      case round =>
        obtain ⟨k, hk, rfl, rfl, ha⟩ := hrel
        have hbd := dig10_bound _ ha
        have HA := Lib.hid ha; clear ha
        by_cases hlt : k < s.size
        · have hft := fold_take dig10 0 s k hlt
          have HFT := Lib.hid hft; clear hft
          have hp := pow10 (k := k) (by omega)
          have hln : (s.data.toList.take k).length = k := by simp; omega
          rw [hln] at hbd
          obtain ⟨hbd0, hbd1⟩ := hbd
          generalize hg : (s.data.toList.take k).foldl dig10 0 = n at hbd0 hbd1 HFT ⊢
          have hbd2 : n ≤ 1000000 := by omega
          clear hg hp hbd1 hln
          by_cases h1 : (48 : Int) ≤ (s[k].toNat : Int)
          · by_cases h2 : (s[k].toNat : Int) ≤ 57
            · have hu : (s[k].toNat : Int) < 256 := by have := UInt8.toNat_lt s[k]; omega
              go_wp2_with fail
              go_round
              case rel => exact ⟨k + 1, by omega, by go_num, by rw [HFT.out]; unfold dig10; congr 1; omega, by rw [all_take_succ _ _ _ hlt, HA.out]; simp [isDig, UInt8.le_iff_toNat_le]; omega⟩
              case measure => simp [intOf]; omega
            · have HR := Lib.hid (numP_no (.inr (.inr (all_badZ s k hlt (by simp [isDig, UInt8.le_iff_toNat_le]; omega)))))
              go_wp2_with fail
              go_ret
              exact ⟨ret_int HR.out.symm, rfl⟩
          · have HR := Lib.hid (numP_no (.inr (.inr (all_badZ s k hlt (by simp [isDig, UInt8.le_iff_toNat_le]; omega)))))
            go_wp2_with fail
            go_ret
            exact ⟨ret_int HR.out.symm, rfl⟩
        · obtain rfl : k = s.size := by omega
          have et : s.data.toList.take s.size = s.data.toList := List.take_of_length_le (by simp)
          rw [et] at HA ⊢
          have HR := Lib.hid (numP_yes (by omega) (by omega) HA.out)
          clear hbd et
          generalize s.data.toList.foldl dig10 0 = n at HR ⊢
          go_wp2_with fail
          go_ret
          exact ⟨ret_int HR.out.symm, rfl⟩
theorem hexP_no {s t : ByteArray} (ht : t.data.toList = smallB s.data.toList) (h : s.size = 0 ∨ 6 < s.size ∨ t.data.toList.all (fun c => (hexVal c).isSome) = false) : hexP s.data.toList = -1 := by
  have hL : s.data.toList.length = s.size := by simp
  unfold hexP
  rw [if_pos]
  rw [← ht]
  rcases h with h | h | h
  · have : s.data.toList = [] := List.eq_nil_of_length_eq_zero (by omega)
    simp [this]
  · have : decide (6 < s.data.toList.length) = true := by rw [hL]; simpa using h
    rw [this]; simp
  · simp only [h]; simp
theorem hexP_yes {s t : ByteArray} (ht : t.data.toList = smallB s.data.toList) (h0 : 0 < s.size) (h7 : s.size ≤ 6) (h : t.data.toList.all (fun c => (hexVal c).isSome) = true) : hexP s.data.toList = t.data.toList.foldl dig16 0 := by
  have hL : s.data.toList.length = s.size := by simp
  unfold hexP
  rw [← ht, if_neg]
  · rfl
  · have h1 : s.data.toList.isEmpty = false := by
      cases he : s.data.toList with
      | nil => rw [he] at hL; simp at hL; omega
      | cons x t => rfl
    rw [h1, h]
    simp; omega
theorem hex_casesZ (c : UInt8) : ((48 ≤ (c.toNat : Int) ∧ (c.toNat : Int) ≤ 57) ∧ hexVal c = some ((c.toNat : Int) - 48)) ∨ (((c.toNat : Int) < 48) ∧ hexVal c = none) ∨
    ((57 < (c.toNat : Int) ∧ (c.toNat : Int) < 97) ∧ hexVal c = none) ∨ ((97 ≤ (c.toNat : Int) ∧ (c.toNat : Int) ≤ 102) ∧ hexVal c = some ((c.toNat : Int) - 87)) ∨ (102 < (c.toNat : Int) ∧ hexVal c = none) := by
  have e1 : (48 : UInt8).toNat = 48 := rfl
  have e2 : (57 : UInt8).toNat = 57 := rfl
  have e3 : (97 : UInt8).toNat = 97 := rfl
  have e4 : (102 : UInt8).toNat = 102 := rfl
  unfold hexVal
  simp only [Bool.and_eq_true, decide_eq_true_eq, UInt8.le_iff_toNat_le]
  by_cases h1 : 48 ≤ c.toNat <;> by_cases h2 : c.toNat ≤ 57 <;> by_cases h3 : 97 ≤ c.toNat <;> by_cases h4 : c.toNat ≤ 102 <;> simp [e1, e2, e3, e4, h1, h2, h3, h4] <;> omega
set_option maxRecDepth 100000 in
set_option maxHeartbeats 400000 in
theorem rf_sixteens (s : ByteArray) (w : World) (hs : s.size ≤ 1000000000) :
    Calls Tryz.prog 94 #[.string s] w fun en w' => en = .returned (.int .i64 (hexP s.data.toList)) ∧ Below w.heap.size w w' := by
  go_enter Tryz.func94, Tryz.ntmps94
  by_cases h0 : s.size = 0
  · have he : s.toList.isEmpty = true := by
      rw [toList_data, List.eq_nil_of_length_eq_zero (l := s.data.toList) (by simpa using h0)]; rfl
    have HR := Lib.hid (hexP_no (s := s) (t := ⟨(smallB s.data.toList).toArray⟩) rfl (.inl h0))
    go_wp2_with fail
    go_ret
    exact ⟨ret_int HR.out.symm, Below.refl _ _⟩
  · have he : s.toList.isEmpty = false := by
      rw [toList_data]
      cases hd : s.data.toList with
      | nil => have : s.data.toList.length = s.size := by simp
               rw [hd] at this; simp at this; omega
      | cons x t => rfl
    by_cases h7 : 6 < s.size
    · have HR := Lib.hid (hexP_no (s := s) (t := ⟨(smallB s.data.toList).toArray⟩) rfl (.inr (.inl h7)))
      go_wp2_with fail
      go_ret
      exact ⟨ret_int HR.out.symm, Below.refl _ _⟩
    · obtain ⟨t, ht⟩ : ∃ t : ByteArray, (⟨(smallB s.data.toList).toArray⟩ : ByteArray) = t := ⟨_, rfl⟩
      have hts : t.data.toList = smallB s.data.toList := by rw [← ht]
      have htz : t.size = s.size := by
        rw [← ht]
        show (smallB s.data.toList).toArray.size = s.size
        simp [smallB]
      have hC := rf_Small s w (by omega)
      rw [ht] at hC
      have HC := Lib.hid hC
      have HT := Lib.hid hts
      clear hC hts ht
      go_wp2_with fail
      refine HC.out.mono ?_
      rintro en w1 ⟨rfl, hb1⟩
      have HB := Lib.hid hb1; clear hb1 HC
      go_wp2_with fail
      go_loop [3, 5] (fun n i => ∃ k : Nat, k ≤ t.size ∧ i = .int .i64 k ∧ n = .int .i64 ((t.data.toList.take k).foldl dig16 0) ∧ (t.data.toList.take k).all (fun c => (hexVal c).isSome) = true) (fun _ i => t.size - (intOf i).toNat)
      case atStart => exact ⟨0, Nat.zero_le _, rfl, rfl, rfl⟩
      case round =>
        obtain ⟨k, hk, rfl, rfl, ha⟩ := hrel
        have hbd := dig16_bound _ ha
        have HA := Lib.hid ha; clear ha
        by_cases hlt : k < t.size
        · have hft := fold_take dig16 0 t k hlt
          have HFT := Lib.hid hft; clear hft
          have hp := pow16 (k := k) (by omega)
          have hln : (t.data.toList.take k).length = k := by simp; omega
          rw [hln] at hbd
          obtain ⟨hbd0, hbd1⟩ := hbd
          generalize hg : (t.data.toList.take k).foldl dig16 0 = n at hbd0 hbd1 HFT ⊢
          have hbd2 : n ≤ 16777216 := by omega
          clear hg hp hbd1 hln
          have hu : (t[k].toNat : Int) < 256 := by have := UInt8.toNat_lt t[k]; omega
          rcases hex_casesZ t[k] with ⟨⟨h1, h2⟩, hv⟩ | ⟨h1, hv⟩ | ⟨⟨h1, h2⟩, hv⟩ | ⟨⟨h1, h2⟩, hv⟩ | ⟨h1, hv⟩
          · have HV := Lib.hid hv; clear hv
            go_wp2_with fail
            go_round
            case rel => exact ⟨k + 1, by omega, by go_num, by rw [HFT.out]; unfold dig16; rw [HV.out]; congr 1; simp only [Option.getD_some]; omega, by rw [all_take_succ _ _ _ hlt, HA.out, HV.out]; rfl⟩
            case measure => simp [intOf]; omega
          · have HR := Lib.hid (hexP_no HT.out (.inr (.inr (all_badZ t k hlt (by rw [hv]; rfl)))))
            clear hv
            go_wp2_with fail
            go_ret
            exact ⟨ret_int HR.out.symm, HB.out⟩
          · have HR := Lib.hid (hexP_no HT.out (.inr (.inr (all_badZ t k hlt (by rw [hv]; rfl)))))
            clear hv
            go_wp2_with fail
            go_ret
            exact ⟨ret_int HR.out.symm, HB.out⟩
          · have HV := Lib.hid hv; clear hv
            go_wp2_with fail
            go_round
            case rel => exact ⟨k + 1, by omega, by go_num, by rw [HFT.out]; unfold dig16; rw [HV.out]; congr 1; simp only [Option.getD_some]; omega, by rw [all_take_succ _ _ _ hlt, HA.out, HV.out]; rfl⟩
            case measure => simp [intOf]; omega
          · have HR := Lib.hid (hexP_no HT.out (.inr (.inr (all_badZ t k hlt (by rw [hv]; rfl)))))
            clear hv
            go_wp2_with fail
            go_ret
            exact ⟨ret_int HR.out.symm, HB.out⟩
        · obtain rfl : k = t.size := by omega
          have et : t.data.toList.take t.size = t.data.toList := List.take_of_length_le (by simp)
          rw [et] at HA ⊢
          have HR := Lib.hid (hexP_yes HT.out (by omega) (by omega) HA.out)
          clear hbd et
          generalize t.data.toList.foldl dig16 0 = n at HR ⊢
          go_wp2_with fail
          go_ret
          exact ⟨ret_int HR.out.symm, HB.out⟩
end Go.Proofs.YtnicmdlicbnlgaaGreatDoor
