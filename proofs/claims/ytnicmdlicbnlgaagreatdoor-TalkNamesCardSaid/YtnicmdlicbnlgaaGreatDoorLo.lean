/-
  A text whose small letters are digits in sixteens is plain.
-/
import Derived.Test.YtnicmdlicbnlgaaGreatDoorPq
namespace Go.Proofs.YtnicmdlicbnlgaaGreatDoor
set_option linter.unusedVariables false

def rowOk (x : Lib.CaseRow) : Bool := decide (x.2.1 < 128) || (decide (128 ≤ x.1) && (decide (1114111 < x.delta 1) || decide (128 ≤ (x.1 : Int) + x.delta 1) || (decide (x.1 = x.2.1) && (decide ((x.1 : Int) + x.delta 1 = 105) || decide ((x.1 : Int) + x.delta 1 = 107)))))
set_option maxRecDepth 100000 in
theorem rows_ok : Lib.caseT.all rowOk = true := by decide +kernel
theorem low_high (r : Nat) (h : 128 ≤ r) : 128 ≤ Lib.toLowerU (r : Int) ∨ Lib.toLowerU (r : Int) = 105 ∨ Lib.toLowerU (r : Int) = 107 := by
  unfold Lib.toLowerU
  rw [if_neg (by omega)]
  unfold Lib.toR Lib.lookupGo
  cases hi : Lib.lookupIdx Lib.caseA (r : Int) (Lib.caseA.size + 1) 0 Lib.caseA.size with
  | none => exact .inl (by simp only [Option.map_none]; omega)
  | some i =>
    obtain ⟨hil, hlo, hhi⟩ := Lib.lookupIdx_some Lib.caseA r _ _ _ i hi
    simp only [Option.map_some]
    have hmem : Lib.caseA.getD i (0, 0, 0, 0, 0) ∈ Lib.caseT := by
      have e : Lib.caseA.getD i (0, 0, 0, 0, 0) = Lib.caseT[i]'(by simpa [Lib.caseA] using hil) := by
        unfold Lib.caseA
        have : i < Lib.caseT.length := by simpa [Lib.caseA] using hil
        simp [Array.getD, this]
      rw [e]
      exact List.getElem_mem _
    have hrow := List.all_eq_true.1 rows_ok _ hmem
    generalize Lib.caseA.getD i (0, 0, 0, 0, 0) = x at hlo hhi hrow
    unfold rowOk at hrow
    simp only [Bool.or_eq_true, Bool.and_eq_true, decide_eq_true_eq] at hrow
    unfold Lib.convertR
    split
    · left
      omega
    · omega
theorem decode_up (b : UInt8) (t : List UInt8) (h : 128 ≤ b.toNat) : 128 ≤ (Lib.decodeL (b :: t)).1 := by
  unfold Lib.decodeL
  exact (Go.decode_high ⟨(b :: t).toArray⟩ 0 (by simp [ByteArray.size]) (show 128 ≤ b.toNat from h)).1
theorem enc_hex (x : Int) (h : 128 ≤ x ∨ x = 105 ∨ x = 107) : (Lib.encodeRune x).all hexDig = false := by
  have key : ∀ n : Nat, 128 ≤ n → n < 256 → hexDig n.toUInt8 = false := by
    intro n h1 h2
    have : ∀ c : UInt8, 128 ≤ c.toNat → hexDig c = false := fun c => byte_all (fun c => 128 ≤ c.toNat → hexDig c = false) (by decide +kernel) c
    exact this _ (by simp; omega)
  rcases h with h | rfl | rfl
  · unfold Lib.encodeRune Lib.encodeRuneZ
    rw [if_neg (by omega)]
    split
    · simp only [List.map_cons, List.all_cons]
      rw [key _ (by omega) (by omega)]; rfl
    · split
      · simp only [List.map_cons, List.all_cons]
        rw [key _ (by omega) (by omega)]; rfl
      · split
        · simp only [List.map_cons, List.all_cons]
          rw [key _ (by omega) (by omega)]; rfl
        · decide +kernel
  · decide +kernel
  · decide +kernel
theorem lower_hex : ∀ (n : Nat) (l : List UInt8), l.length ≤ n → (Lib.toLowerD l).all hexDig = true → l.all (· < 128) = true
  | 0, l, hn, h => by
    rw [List.eq_nil_of_length_eq_zero (by omega : l.length = 0)]; rfl
  | n + 1, [], hn, h => rfl
  | n + 1, b :: t, hn, h => by
    unfold Lib.toLowerD at h
    rw [Lib.mapD_step Lib.toLowerU (b :: t) (by simp)] at h
    rcases Nat.lt_or_ge b.toNat 128 with hb | hb
    · rw [Lib.decodeL_ascii b t hb] at h
      dsimp only at h
      rw [List.drop_succ_cons, List.drop_zero, List.all_append, Bool.and_eq_true] at h
      have := lower_hex n t (by simpa using hn) h.2
      rw [List.all_cons, this, Bool.and_true]
      simpa [UInt8.lt_iff_toNat_lt] using hb
    · exfalso
      have h1 := decode_up b t hb
      have h2 := low_high _ h1
      rw [if_pos (by omega), List.all_append, enc_hex _ h2] at h
      cases h
theorem among_low (l : List UInt8) : amongB 48 57 [97, 98, 99, 100, 101, 102] (Lib.toLowerD l) = amongB 48 57 [97, 98, 99, 100, 101, 102] (smallB l) := by
  cases ha : l.all (· < 128) with
  | true => rw [lower_ascii l ha]
  | false =>
    have h1 : amongB 48 57 [97, 98, 99, 100, 101, 102] (Lib.toLowerD l) = false := by
      cases hx : amongB 48 57 [97, 98, 99, 100, 101, 102] (Lib.toLowerD l) with
      | false => rfl
      | true => rw [lower_hex l.length l (Nat.le_refl _) hx] at ha; cases ha
    have h2 : amongB 48 57 [97, 98, 99, 100, 101, 102] (smallB l) = false := by
      cases hx : amongB 48 57 [97, 98, 99, 100, 101, 102] (smallB l) with
      | false => rfl
      | true => rw [dig_ascii l hx] at ha; cases ha
    rw [h1, h2]
end Go.Proofs.YtnicmdlicbnlgaaGreatDoor
