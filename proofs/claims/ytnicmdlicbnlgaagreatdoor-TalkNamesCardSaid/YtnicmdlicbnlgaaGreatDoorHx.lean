/-
  Walks: the library reads a number in sixteens; a reader's numbers.
-/
import Derived.Test.YtnicmdlicbnlgaaGreatDoorWs
import Derived.Test.YtnicmdlicbnlgaaGreatDoorRn
import Derived.Lib.AtoiAllMem
import Derived.Laws.Closers25
import Derived.Laws.Closers25b
import Derived.BigCall
import Derived.BigGuard
namespace Go.Proofs.YtnicmdlicbnlgaaGreatDoor
open Go.RowKit
set_option linter.unusedVariables false
set_option linter.unusedSimpArgs false

theorem ret_u64 {a b : Int} (h : a = b) : Ending.returned (.tuple #[.int .u64 a, .nilIface]) = .returned (.tuple #[.int .u64 b, .nilIface]) := by rw [h]
theorem or_up (c : Int) (h1 : 65 ≤ c) (h2 : c ≤ 70) : bits .or .u8 c 32 = c + 32 := by
  rcases (show c = 65 ∨ c = 66 ∨ c = 67 ∨ c = 68 ∨ c = 69 ∨ c = 70 by omega) with rfl | rfl | rfl | rfl | rfl | rfl <;> rfl
theorem or_low (c : Int) (h1 : 97 ≤ c) (h2 : c ≤ 102) : bits .or .u8 c 32 = c := by
  rcases (show c = 97 ∨ c = 98 ∨ c = 99 ∨ c = 100 ∨ c = 101 ∨ c = 102 by omega) with rfl | rfl | rfl | rfl | rfl | rfl <;> rfl
theorem lower_up (c : Int) (h1 : 65 ≤ c) (h2 : c ≤ 70) (w : World) : Calls Tryz.prog 163 #[.int .u8 c] w fun e w' => e = .returned (.int .u8 (c + 32)) ∧ w' = w :=
  (Tryz.internal_strconv_lower c w).mono fun e w' h => by rw [or_up c h1 h2] at h; exact h
theorem lower_low (c : Int) (h1 : 97 ≤ c) (h2 : c ≤ 102) (w : World) : Calls Tryz.prog 163 #[.int .u8 c] w fun e w' => e = .returned (.int .u8 c) ∧ w' = w :=
  (Tryz.internal_strconv_lower c w).mono fun e w' h => by rw [or_low c h1 h2] at h; exact h
theorem hex_take (s : List UInt8) (h : digOk 6 s = true) (k : Nat) : 0 ≤ hexTo (s.take k) ∧ hexTo (s.take k) ≤ 16777215 := by
  unfold digOk at h
  simp only [Bool.and_eq_true, Bool.not_eq_true', decide_eq_true_eq] at h
  obtain ⟨⟨h1, h2⟩, h3⟩ := h
  have hb := hexTo_bound (s.take k) (by
    unfold amongB smallB at h3 ⊢
    rw [List.all_eq_true] at h3 ⊢
    intro x hx
    obtain ⟨y, hy, rfl⟩ := List.mem_map.1 hx
    exact h3 _ (List.mem_map.2 ⟨y, List.mem_of_mem_take hy, rfl⟩))
  have hp : (16 : Int) ^ (s.take k).length ≤ 16 ^ 6 := by
    have : (16 : Nat) ^ (s.take k).length ≤ 16 ^ 6 := Nat.pow_le_pow_right (by omega) (by rw [List.length_take]; omega)
    exact_mod_cast this
  have e : (16 : Int) ^ 6 = 16777216 := rfl
  omega
theorem hex_at (s : List UInt8) (h : digOk 6 s = true) (k : Nat) (hk : k < s.length) : hexDig (lowB s[k]) = true := by
  unfold digOk at h
  simp only [Bool.and_eq_true, Bool.not_eq_true', decide_eq_true_eq] at h
  unfold amongB smallB at h
  exact List.all_eq_true.1 h.2 _ (List.mem_map.2 ⟨s[k], List.getElem_mem _, rfl⟩)
set_option maxHeartbeats 8000000 in
set_option maxRecDepth 100000 in
theorem hx_ParseUint (t : ByteArray) (h : digOk 6 t.data.toList = true) (w : World) :
    Calls Tryz.prog 145 #[.string t, .int .i64 16, .int .i64 64] w fun e w' => e = .returned (.tuple #[.int .u64 (hexTo t.data.toList), .nilIface]) ∧ Below w.heap.size w w' := by
  have hsz : 0 < t.size ∧ t.size ≤ 6 := by
    have h' := h
    unfold digOk at h'
    simp only [Bool.and_eq_true, Bool.not_eq_true', decide_eq_true_eq] at h'
    have e : t.data.toList.length = t.size := by simp
    refine ⟨?_, by omega⟩
    rcases Nat.eq_zero_or_pos t.size with h0 | h0
    · have : t.data.toList = [] := List.eq_nil_of_length_eq_zero (by omega)
      rw [this] at h'
      simp at h'
    · exact h0
  have hemp : t.toList.isEmpty = false := by
    rw [toList_data]
    cases hl : t.data.toList with
    | nil => have : t.data.toList.length = t.size := by simp
             rw [hl] at this; simp at this; omega
    | cons x r => rfl
  have hcv := Lib.run_convert_string_bytes (P := Tryz.prog) w 9 48 5 t (u := .string) Tryz.underlying9 Tryz.underlying48 Tryz.underlying5
  have hB : ∀ j, j < t.size → (Lib.bytesWorld w 5 t).cell? ⟨w.heap.size, j, none⟩ = some (.int .u8 (t.data.toList.getD j 0).toNat) := fun j hj => Lib.bytesWorld_cell w 5 t j hj
  have hbl := Lib.bytesWorld_below w 5 t
  obtain ⟨W1, hW1⟩ : ∃ W1, W1 = Lib.bytesWorld w 5 t := ⟨_, rfl⟩
  rw [← hW1] at hcv hB hbl
  clear hW1
  have HB := Lib.hid hB; clear hB
  have HBL := Lib.hid hbl; clear hbl
  have HT := Lib.hid h; clear h
  obtain ⟨hs0, hs6⟩ := hsz
  have hmv : IntKind.u64.wrap (IntKind.u64.wrap 18446744073709551616 - 1) = 18446744073709551615 := by
    rw [IntKind.wrap_u64, IntKind.wrap_u64]
    decide
  go_enter Tryz.func145, Tryz.ntmps145
  go_wp2
  go_loop [12, 13, 101] (fun vu vn vi => ∃ (k : Nat) (a : Int), vu = .bool false ∧ vn = .int .u64 a ∧ vi = .int .i64 k ∧ k ≤ t.size ∧ 0 ≤ a ∧ a ≤ 16777215 ∧ Hid (a = hexTo (t.data.toList.take k)))
    (fun _ _ vi => t.size - (intOf vi).toNat)
  case atStart => exact ⟨0, 0, rfl, rfl, rfl, by omega, by omega, by omega, rfl⟩
  case round =>
    obtain ⟨k, a, rfl, rfl, rfl, hk, ha0, ha1, HA⟩ := hrel
    have hL : t.data.toList.length = t.size := by simp
    by_cases hkn : k < t.size
    · have hc := HB.out k hkn
      have hget : t.data.toList.getD k 0 = t.data.toList[k]'(by omega) := by simp [List.getD, List.getElem?_eq_getElem (show k < t.data.toList.length by omega)]
      have hd := hex_at _ HT.out k (by omega)
      have hnext : hexTo (t.data.toList.take (k + 1)) = 16 * hexTo (t.data.toList.take k) + (hexVal (lowB (t.data.toList[k]'(by omega)))).getD 0 := by
        rw [List.take_succ_eq_append_getElem (by omega), hexTo_snoc]
      have hb := hex_take _ HT.out (k + 1)
      rw [hget] at hc
      generalize t.data.toList[k]'(by omega) = c at hc hd hnext
      rw [← HA.out] at hnext
      clear hget
      rcases hex_cases c hd with ⟨h1, h2, h3⟩ | ⟨h1, h2, h3⟩ | ⟨h1, h2, h3⟩
      · rw [h3] at hnext
        have hx : 0 ≤ 16 * a + ((c.toNat : Int) - 48) ∧ 16 * a + ((c.toNat : Int) - 48) ≤ 16777215 := by rw [← hnext]; exact hb
        obtain ⟨hx0, hx1⟩ := hx
        have HN := Lib.hid hnext; clear hnext h3 hb hd hL
        have g1 : 48 ≤ (c.toNat : Int) := by omega
        have g2 : (c.toNat : Int) ≤ 57 := by omega
        generalize (c.toNat : Int) = q at hc g1 g2 hx0 hx1 HN
        clear h1 h2
        go_wp2
        refine ⟨⟨k + 1, 16 * a + (q - 48), rfl, (by first | rfl | (congr 1; omega)), by go_num, by omega, by omega, by omega, ?_⟩, by simp [intOf]; omega⟩
        exact HN.out.symm
      · rw [h3] at hnext
        have hx : 0 ≤ 16 * a + ((c.toNat : Int) - 55) ∧ 16 * a + ((c.toNat : Int) - 55) ≤ 16777215 := by rw [← hnext]; exact hb
        obtain ⟨hx0, hx1⟩ := hx
        have HN := Lib.hid hnext; clear hnext h3 hb hd hL
        have g1 : 65 ≤ (c.toNat : Int) := by omega
        have g2 : (c.toNat : Int) ≤ 70 := by omega
        generalize (c.toNat : Int) = q at hc g1 g2 hx0 hx1 HN
        clear h1 h2
        go_wp2_with (go_at_call 163; refine (lower_up _ g1 g2 _).mono ?_; rintro e w' ⟨rfl, rfl⟩)
        refine ⟨⟨k + 1, 16 * a + (q - 55), rfl, (by first | rfl | (congr 1; omega)), by go_num, by omega, by omega, by omega, ?_⟩, by simp [intOf]; omega⟩
        exact HN.out.symm
      · rw [h3] at hnext
        have hx : 0 ≤ 16 * a + ((c.toNat : Int) - 87) ∧ 16 * a + ((c.toNat : Int) - 87) ≤ 16777215 := by rw [← hnext]; exact hb
        obtain ⟨hx0, hx1⟩ := hx
        have HN := Lib.hid hnext; clear hnext h3 hb hd hL
        have g1 : 97 ≤ (c.toNat : Int) := by omega
        have g2 : (c.toNat : Int) ≤ 102 := by omega
        generalize (c.toNat : Int) = q at hc g1 g2 hx0 hx1 HN
        clear h1 h2
        go_wp2_with (go_at_call 163; refine (lower_low _ g1 g2 _).mono ?_; rintro e w' ⟨rfl, rfl⟩)
        refine ⟨⟨k + 1, 16 * a + (q - 87), rfl, (by first | rfl | (congr 1; omega)), by go_num, by omega, by omega, by omega, ?_⟩, by simp [intOf]; omega⟩
        exact HN.out.symm
    · have hkk : k = t.size := by omega
      subst hkk
      have hfin : a = hexTo t.data.toList := by rw [HA.out, List.take_of_length_le (by omega)]
      have HF := Lib.hid hfin; clear hfin hL
      go_wp2
      go_ret2
      exact ⟨ret_u64 HF.out, HBL.out⟩

theorem dig_first (t : ByteArray) (most : Nat) (h : digOk most t.data.toList = true) : ∃ h0 : 0 < t.size, ¬ (t[0].toNat : Int) = 43 ∧ ¬ (t[0].toNat : Int) = 45 ∧ ¬ t.toList = [] ∧ t.size ≤ most := by
  unfold digOk at h
  simp only [Bool.and_eq_true, Bool.not_eq_true', decide_eq_true_eq] at h
  obtain ⟨⟨h1, h2⟩, h3⟩ := h
  have hL : t.data.toList.length = t.size := by simp
  have h0 : 0 < t.size := by
    rcases Nat.eq_zero_or_pos t.size with h0 | h0
    · have : t.data.toList = [] := List.eq_nil_of_length_eq_zero (by omega)
      rw [this] at h1
      simp at h1
    · exact h0
  have hd : hexDig (lowB t.data.toList[0]) = true := by
    unfold amongB smallB at h3
    exact List.all_eq_true.1 h3 _ (List.mem_map.2 ⟨_, List.getElem_mem (by omega : 0 < t.data.toList.length), rfl⟩)
  have e : t.data.toList[0] = t[0] := by simp; rfl
  rw [e] at hd
  have := hex_sign _ hd
  refine ⟨h0, by omega, by omega, (nonempty_two t h0).1, by omega⟩
theorem dig_name (t : ByteArray) (most : Nat) (h : digOk most t.data.toList = true) : 0 < t.size := (dig_first t most h).1
set_option maxHeartbeats 4000000 in
set_option maxRecDepth 100000 in
theorem hx_ParseInt_in (t : ByteArray) (h : digOk 6 t.data.toList = true) (w : World) :
    Calls Tryz.prog 127 #[.string t, .int .i64 16, .int .i64 64] w fun e w' => e = .returned (.tuple #[.int .i64 (hexTo t.data.toList), .nilIface]) ∧ Below w.heap.size w w' := by
  obtain ⟨h0, h1, h2, h3, h6⟩ := dig_first t 6 h
  obtain ⟨hx0, hx1⟩ := hex_take _ h t.size
  rw [List.take_of_length_le (by simp)] at hx0 hx1
  have hemp : t.toList.isEmpty = false := by have := (nonempty_two t h0).2; simpa using this
  have HC := Lib.hid (hx_ParseUint t h); clear h
  generalize hexTo t.data.toList = x at HC hx0 hx1 ⊢
  go_enter Tryz.func127, Tryz.ntmps127
  go_wp2_with fail
  refine (HC.out _).mono ?_
  rintro e w1 ⟨rfl, hb⟩
  go_wp2_with fail
  go_ret2
  exact ⟨rfl, hb⟩
end Go.Proofs.YtnicmdlicbnlgaaGreatDoor
