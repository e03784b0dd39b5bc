/-
  Walks: the reference's reading: a line.
-/
import Derived.Test.YtnicmdlicbnlgaaGreatDoorPo
import Derived.Test.YtnicmdlicbnlgaaGreatDoorRf2
import Derived.WalkKit
import Derived.WalkSpells
import Derived.WalkLawsBesides
import Derived.BigQuiet
import Derived.Deep.QuietTactic
import Derived.Lib.Hide
namespace Go.Proofs.YtnicmdlicbnlgaaGreatDoor
open Go.RowKit
set_option linter.unusedVariables false
set_option linter.unusedSimpArgs false

theorem drop_at (b : ByteArray) (k : Nat) (h : k < b.size) : b.data.toList.drop k = b[k] :: b.data.toList.drop (k + 1) := by
  have h' : k < b.data.toList.length := by simpa using h
  rw [List.drop_eq_getElem_cons h']
  rfl
theorem drop_len (b : ByteArray) (k : Nat) : (b.data.toList.drop k).length = b.size - k := by simp
/-- The first n bytes from k on hold no line's end. -/
def LineTo (b : ByteArray) (k n : Nat) : Prop := lineP (b.data.toList.drop k) = (lineP (b.data.toList.drop (k + n))).map fun x => ((b.data.toList.drop k).take n ++ x.1, x.2)
theorem lineTo_zero (b : ByteArray) (k : Nat) : LineTo b k 0 := by
  unfold LineTo
  cases lineP (b.data.toList.drop (k + 0)) with
  | none => simp_all
  | some x => simp_all
theorem lineTo_succ {b : ByteArray} {k n : Nat} (h : LineTo b k n) (hn : k + n + 1 < b.size) (hno : ¬ (b[k + n] = 13 ∧ b[k + n + 1] = 10)) : LineTo b k (n + 1) := by
  unfold LineTo at h ⊢
  rw [h, drop_at b (k + n) (by omega), drop_at b (k + n + 1) hn]
  simp only [lineP, hno, if_false, Option.map_map]
  rw [← drop_at b (k + n + 1) hn, show k + (n + 1) = k + n + 1 from by omega]
  congr 1
  funext x
  have e : (b.data.toList.drop k).take (n + 1) = (b.data.toList.drop k).take n ++ [b[k + n]] := by
    rw [List.take_succ_eq_append_getElem (by rw [drop_len]; omega)]
    congr 1
    simp
    rfl
  simp [e]
theorem there_at (b : ByteArray) (k : Nat) (h : k < b.size) : thereP (b.data.toList.drop k) = if b[b.size - 1] = 13 then b.size - k - 1 else b.size - k := by
  unfold thereP
  rw [drop_len]
  have : (b.data.toList.drop k).getLast? = some b[b.size - 1] := by
    rw [List.getLast?_drop, if_neg (by simpa using h), ← last_at b (by omega)]
  rw [this]
  simp

/-- What 'line' tells. -/
def lineV (b : ByteArray) (k n : Nat) (e : Int) : Value :=
  match lineAt n (b.data.toList.drop k) with
  | .wait => .tuple #[.string ⟨#[]⟩, .int .i64 k, .int .i64 (-1)]
  | .bad => .tuple #[.string ⟨#[]⟩, .int .i64 k, .int .i64 e]
  | .got s r => .tuple #[.string ⟨s.toArray⟩, .int .i64 ((k : Int) + s.length + 2), .int .i64 0]
theorem line_long {b : ByteArray} {k n j : Nat} {e : Int} (hL : LineTo b k j) (hj : j ≤ n) (hlt : k + j + 1 < b.size) (hno : ¬ (b[k + j] = 13 ∧ b[k + j + 1] = 10)) (h3 : (n : Int) < j + 1) :
    Ending.returned (.tuple #[.string ⟨#[]⟩, .int .i64 k, .int .i64 e]) = .returned (lineV b k n e) := by
  have h := lineTo_succ hL hlt hno
  unfold LineTo at h
  have hn : j = n := by omega
  unfold lineV lineAt
  rw [h]
  cases hl : lineP (b.data.toList.drop (k + (j + 1))) with
  | none =>
    simp only [Option.map_none]
    rw [there_at b k (by omega), if_pos (by split <;> omega)]
  | some x =>
    simp only [Option.map_some, List.length_append, List.length_take, drop_len]
    rw [if_pos (by omega)]
theorem line_got {b : ByteArray} {k n j : Nat} {e : Int} (hL : LineTo b k j) (hj : j ≤ n) (hlt : k + j + 1 < b.size) (h1 : (b[k + j].toNat : Int) = 13) (h2 : (b[k + j + 1].toNat : Int) = 10) :
    Ending.returned (.tuple #[.string (b.extract k (k + j)), .int .i64 ((k : Int) + j + 2), .int .i64 0]) = .returned (lineV b k n e) := by
  have e1 : b[k + j] = 13 := UInt8.toNat_inj.1 (by have : ((13 : UInt8).toNat : Int) = 13 := rfl; omega)
  have e2 : b[k + j + 1] = 10 := UInt8.toNat_inj.1 (by have : ((10 : UInt8).toNat : Int) = 10 := rfl; omega)
  unfold LineTo at hL
  rw [drop_at b (k + j) (by omega), drop_at b (k + j + 1) hlt, e1, e2] at hL
  simp only [lineP, and_self, if_true, Option.map_some, List.append_nil] at hL
  unfold lineV lineAt
  rw [hL]
  simp only [List.length_take, drop_len]
  rw [if_neg (by omega)]
  have hl : min j (b.size - k) = j := by omega
  simp only [List.length_take, drop_len, hl]
  have ex : b.extract k (k + j) = ⟨((b.data.toList.drop k).take j).toArray⟩ := by
    apply ByteArray.ext
    apply Array.ext'
    simp [ByteArray.data_extract, Array.toList_extract, List.extract]
  rw [ex]
theorem line_rest {b : ByteArray} {k j : Nat} (hL : LineTo b k j) (hlt : ¬ k + j + 1 < b.size) : lineP (b.data.toList.drop k) = none := by
  unfold LineTo at hL
  rw [hL]
  have h : (b.data.toList.drop (k + j)).length ≤ 1 := by rw [drop_len]; omega
  match hd : b.data.toList.drop (k + j), h with
  | [], _ => rfl
  | [x], _ => rfl
theorem line_tail {b : ByteArray} {k n j : Nat} {e : Int} (hL : LineTo b k j) (hlt : ¬ k + j + 1 < b.size) (hk : k ≤ b.size) (c : Bool) (hc : c = true ↔ n < thereP (b.data.toList.drop k)) :
    Ending.returned (.tuple #[.string ⟨#[]⟩, .int .i64 k, .int .i64 (if c then e else -1)]) = .returned (lineV b k n e) := by
  have h := line_rest hL hlt
  unfold lineV lineAt
  rw [h]
  cases c with
  | true => simp only [if_true]; rw [if_pos (hc.1 rfl)]
  | false => simp only [Bool.false_eq_true, if_false]; rw [if_neg (fun h => by simpa using hc.2 h)]
set_option maxHeartbeats 400000 in
theorem rf_line (b : ByteArray) (k n : Nat) (e : Int) (w : World) (hb : b.size ≤ 1000000000) (hk : k ≤ b.size) (hn : n ≤ 1000000000) :
    Calls Tryz.prog 89 #[.string b, .int .i64 k, .int .i64 n, .int .i64 e] w fun en w' => en = .returned (lineV b k n e) ∧ w = w' := by
  go_enter Tryz.func89, Tryz.ntmps89
  go_wp2
  go_loop [11] (fun i => ∃ j : Nat, i = .int .i64 j ∧ j ≤ n ∧ (k + j ≤ b.size) ∧ (j = 0 ∨ k + j + 1 ≤ b.size) ∧ LineTo b k j) (fun i => b.size - (intOf i).toNat)
  case atStart => exact ⟨0, rfl, Nat.zero_le _, hk, .inl rfl, lineTo_zero b k⟩
  case round =>
    obtain ⟨j, rfl, hj, hkj, hj0, hL⟩ := hrel
    have HL := Lib.hid hL; clear hL
    by_cases hlt : k + j + 1 < b.size
    · by_cases h1 : (b[k + j].toNat : Int) = 13
      · by_cases h2 : (b[k + j + 1].toNat : Int) = 10
        · go_wp2
          go_ret3
          exact ⟨line_got HL.out hj hlt h1 h2, rfl⟩
        · by_cases h3 : (n : Int) < j + 1
          · go_wp2
            go_ret3
            exact ⟨line_long HL.out hj hlt (fun h => h2 (by rw [h.2]; rfl)) h3, rfl⟩
          · go_wp2
            go_round
            case rel => exact ⟨j + 1, by go_num, by omega, by omega, .inr (by omega), lineTo_succ HL.out hlt (fun h => h2 (by rw [h.2]; rfl))⟩
            case measure => simp [intOf]; omega
      · by_cases h3 : (n : Int) < j + 1
        · go_wp2
          go_ret3
          exact ⟨line_long HL.out hj hlt (fun h => h1 (by rw [h.1]; rfl)) h3, rfl⟩
        · go_wp2
          go_round
          case rel => exact ⟨j + 1, by go_num, by omega, by omega, .inr (by omega), lineTo_succ HL.out hlt (fun h => h1 (by rw [h.1]; rfl))⟩
          case measure => simp [intOf]; omega
    · by_cases hk0 : k < b.size
      · have hz : b.size - 1 < b.size := by omega
        by_cases h13 : (b[b.size - 1].toNat : Int) = 13
        · have h4 : ¬ (n : Int) < b.size - k - 1 := by omega
          go_wp2
          go_ret3
          exact ⟨line_tail HL.out hlt hk false (by rw [there_at b k hk0, if_pos (UInt8.toNat_inj.1 (by have : ((13 : UInt8).toNat : Int) = 13 := rfl; omega))]; simp; omega), rfl⟩
        · have h13' : ¬ b[b.size - 1] = 13 := fun h => h13 (by rw [h]; rfl)
          by_cases h4 : (n : Int) < b.size - k
          · go_wp2
            go_ret3
            exact ⟨line_tail HL.out hlt hk true (by rw [there_at b k hk0, if_neg h13']; simp; omega), rfl⟩
          · go_wp2
            go_ret3
            exact ⟨line_tail HL.out hlt hk false (by rw [there_at b k hk0, if_neg h13']; simp; omega), rfl⟩
      · go_wp2
        go_ret3
        exact ⟨line_tail HL.out hlt hk false (by rw [List.drop_eq_nil_of_le (by simp; omega)]; simp [thereP]), rfl⟩

def endV (b : ByteArray) (k : Nat) : Int := match endAt (b.data.toList.drop k) with | .wait => -1 | .bad => 280 | .got _ _ => 0
theorem byte13 {c : UInt8} (h : (c.toNat : Int) = 13) : c = 13 := UInt8.toNat_inj.1 (by have : ((13 : UInt8).toNat : Int) = 13 := rfl; omega)
theorem byte10 {c : UInt8} (h : (c.toNat : Int) = 10) : c = 10 := UInt8.toNat_inj.1 (by have : ((10 : UInt8).toNat : Int) = 10 := rfl; omega)
theorem end_none {b : ByteArray} {k : Nat} (h : ¬ k < b.size) : endV b k = -1 := by
  unfold endV
  rw [List.drop_eq_nil_of_le (by simp; omega)]
  rfl
theorem end_bad1 {b : ByteArray} {k : Nat} (h : k < b.size) (h1 : ¬ (b[k].toNat : Int) = 13) : endV b k = 280 := by
  have e : ¬ b[k] = 13 := fun e => h1 (by rw [e]; rfl)
  unfold endV
  rw [drop_at b k h]
  simp [endAt, e]
theorem end_one {b : ByteArray} {k : Nat} (h : k < b.size) (h1 : (b[k].toNat : Int) = 13) (h2 : ¬ k + 1 < b.size) : endV b k = -1 := by
  unfold endV
  rw [drop_at b k h, byte13 h1, List.drop_eq_nil_of_le (by simp; omega)]
  rfl
theorem end_bad2 {b : ByteArray} {k : Nat} (h : k + 1 < b.size) (h1 : (b[k].toNat : Int) = 13) (h2 : ¬ (b[k + 1].toNat : Int) = 10) : endV b k = 280 := by
  have e : ¬ b[k + 1] = 10 := fun e => h2 (by rw [e]; rfl)
  unfold endV
  rw [drop_at b k (by omega), byte13 h1, drop_at b (k + 1) h]
  simp [endAt, e]
theorem end_yes {b : ByteArray} {k : Nat} (h : k + 1 < b.size) (h1 : (b[k].toNat : Int) = 13) (h2 : (b[k + 1].toNat : Int) = 10) : endV b k = 0 := by
  unfold endV
  rw [drop_at b k (by omega), byte13 h1, drop_at b (k + 1) h, byte10 h2]
  rfl
set_option maxHeartbeats 400000 in
theorem rf_end (b : ByteArray) (k : Nat) (w : World) (hb : b.size ≤ 1000000000) (hk : k ≤ b.size) :
    Calls Tryz.prog 95 #[.string b, .int .i64 k] w fun en w' => en = .returned (.int .i64 (endV b k)) ∧ w = w' := by
  go_enter Tryz.func95, Tryz.ntmps95
  by_cases h0 : k < b.size
  · by_cases h1 : (b[k].toNat : Int) = 13
    · by_cases h2 : k + 1 < b.size
      · by_cases h3 : (b[k + 1].toNat : Int) = 10
        · go_wp2
          go_ret
          exact ⟨ret_int (end_yes h2 h1 h3).symm, rfl⟩
        · go_wp2
          go_ret
          exact ⟨ret_int (end_bad2 h2 h1 h3).symm, rfl⟩
      · go_wp2
        go_ret
        exact ⟨ret_int (end_one h0 h1 h2).symm, rfl⟩
    · go_wp2
      go_ret
      exact ⟨ret_int (end_bad1 h0 h1).symm, rfl⟩
  · go_wp2
    go_ret
    exact ⟨ret_int (end_none h0).symm, rfl⟩
end Go.Proofs.YtnicmdlicbnlgaaGreatDoor
