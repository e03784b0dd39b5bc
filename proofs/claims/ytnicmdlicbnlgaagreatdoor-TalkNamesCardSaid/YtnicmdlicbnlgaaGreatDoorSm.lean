/-
  Walks: 'long' of the law, and the reference's Same.
-/
import Derived.Test.YtnicmdlicbnlgaaGreatDoorHd
import Derived.WalkKit
import Derived.WalkSpells
import Derived.WalkLawsBesides
import Derived.BigQuiet
import Derived.Deep.QuietTactic
import Derived.Lib.Hide
namespace Go.Proofs.YtnicmdlicbnlgaaGreatDoor
open Go.RowKit
set_option linter.unusedVariables false
set_option linter.unusedSimpArgs false

def headsSum (hs : List Hd) : Nat := (hs.map fun h => h.n.size + h.v.size).sum
theorem headsSum_succ (hs : List Hd) (k : Nat) (h : k < hs.length) : headsSum (hs.take (k + 1)) = headsSum (hs.take k) + (hs[k].n.size + hs[k].v.size) := by
  unfold headsSum
  rw [List.take_succ_eq_append_getElem h, List.map_append, List.sum_append]
  rfl

set_option maxRecDepth 100000 in
set_option maxHeartbeats 1000000 in
theorem lw_long_some (m p body : ByteArray) (close : Bool) (b off n cap : Nat) (hs : List Hd) (w : World) (hn : n = hs.length)
    (hH : HeadsAt w b off hs) (sm : m.size ≤ 140737488355328) (sp : p.size ≤ 140737488355328) (sb : body.size ≤ 140737488355328) (sh : ∀ h ∈ hs, h.n.size ≤ 140737488355328 ∧ h.v.size ≤ 140737488355328) (h100 : ¬ 100 < n) :
    Calls Tryz.prog 24 #[.agg #[.string m, .string p, .slice (some ⟨b, off, none⟩) n cap, .string body, .bool close]] w
      fun e w' => e = .returned (.bool (decide (20000 < m.size + p.size + body.size + headsSum hs))) ∧ Below w.heap.size w w' := by
  have Hn := Lib.hid hn; clear hn
  have hB := hH.below (bl_alloc (Below.refl _ w) (Obj.cells #[.string m, .string p, .slice (some ⟨b, off, none⟩) n cap, .string body, .bool close] 33))
  have HB := Lib.hid hB; clear hB
  go_enter Tryz.func24, Tryz.ntmps24
  go_wp2
  go_loopw [3, 4] (fun s i wr => ∃ k d : Nat, k ≤ n ∧ i = .int .i64 k ∧ wr = (w.alloc (Obj.cells #[.string m, .string p, .slice (some ⟨b, off, none⟩) n cap, .string body, .bool close] 33)).drewN d ∧ s = .int .i64 ((m.size + p.size + body.size + headsSum (hs.take k) : Nat) : Int) ∧ headsSum (hs.take k) ≤ k * 281474976710656) (fun _ i _ => n - (intOf i).toNat)
  case atStart => exact ⟨0, 0, Nat.zero_le _, rfl, rfl, by simp [headsSum], by simp [headsSum]⟩
  case round =>
    obtain ⟨k, d, hk, rfl, rfl, rfl, hsum⟩ := hrel
    by_cases hlt : k < n
    · have hlt' : k < hs.length := by rw [← Hn.out]; exact hlt
      obtain ⟨c0, c1⟩ := HB.out k hlt'
      have hsx := headsSum_succ hs k hlt'
      obtain ⟨sn, sv⟩ := sh hs[k] (List.getElem_mem _)
      obtain ⟨nm, hnm⟩ : ∃ x, x = hs[k].n := ⟨_, rfl⟩
      obtain ⟨vl, hvl⟩ : ∃ x, x = hs[k].v := ⟨_, rfl⟩
      rw [← hnm] at c0 sn hsx
      rw [← hvl] at c1 sv hsx
      have HSX := Lib.hid hsx; clear hsx
      have HNM := Lib.hid hnm; clear hnm
      have HVL := Lib.hid hvl; clear hvl
      have hb0 : (0 : Int) ≤ (k : Int) := by omega
      have hb1 : (k : Int) < (n : Int) := by omega
      go_wp2
      go_quiet (fail)
      go_wp2
      go_roundw
      case rel => exact ⟨k + 1, _, by omega, by go_num, rfl, by rw [HSX.out]; go_num, by rw [HSX.out]; omega⟩
      case measure => simp [intOf]; omega
    · obtain rfl : k = n := by omega
      have e1 : hs.take k = hs := List.take_of_length_le (by rw [Hn.out]; exact Nat.le_refl _)
      rw [e1]
      clear e1
      go_wp2
      go_ret
      exact ⟨ret_bool (by simp; omega), bl_drew (bl_alloc (Below.refl _ _) _) _⟩

set_option maxRecDepth 100000 in
set_option maxHeartbeats 1000000 in
theorem lw_long (m p body : ByteArray) (close : Bool) (a : Option Addr) (b off n cap : Nat) (hs : List Hd) (w : World) (hn : n = hs.length)
    (ha : 0 < n → a = some ⟨b, off, none⟩) (hH : HeadsAt w b off hs) (sm : m.size ≤ 140737488355328) (sp : p.size ≤ 140737488355328) (sb : body.size ≤ 140737488355328) (sh : ∀ h ∈ hs, h.n.size ≤ 140737488355328 ∧ h.v.size ≤ 140737488355328) :
    Calls Tryz.prog 24 #[.agg #[.string m, .string p, .slice a n cap, .string body, .bool close]] w
      fun e w' => e = .returned (.bool (decide (100 < n) || decide (20000 < m.size + p.size + body.size + headsSum hs))) ∧ Below w.heap.size w w' := by
  by_cases h100 : 100 < n
  · have Hn := Lib.hid hn; clear hn
    have HA := Lib.hid ha; clear ha
    go_enter Tryz.func24, Tryz.ntmps24
    go_wp2
    go_ret
    exact ⟨ret_bool (by simp [h100]), bl_alloc (Below.refl _ _) _⟩
  · rw [decide_eq_false h100, Bool.false_or]
    rcases Nat.eq_zero_or_pos n with h0 | h0
    · have hs0 : hs = [] := List.eq_nil_of_length_eq_zero (by omega)
      clear hn ha hH sh
      subst h0; subst hs0
      go_enter Tryz.func24, Tryz.ntmps24
      go_wp2
      refine wp_loop_rounds 1 ?_
      rw [rounds_succ]
      go_wp2
      go_ret
      exact ⟨ret_bool (by simp [headsSum]; omega), bl_alloc (Below.refl _ _) _⟩
    · obtain rfl := ha h0
      exact lw_long_some m p body close b off n cap hs w hn hH sm sp sb sh h100

set_option maxRecDepth 100000 in
set_option maxHeartbeats 1000000 in
theorem rf_Same_some (m p body : ByteArray) (close : Bool) (b1 off1 cap1 b2 off2 cap2 n : Nat) (hs : List Hd) (w : World) (hn : n = hs.length)
    (h1 : HeadsAt w b1 off1 hs) (h2 : HeadsAt w b2 off2 hs) (hm : n ≤ 1000000) :
    Calls Tryz.prog 17 #[.agg #[.string m, .string p, .slice (some ⟨b1, off1, none⟩) n cap1, .string body, .bool close], .agg #[.string m, .string p, .slice (some ⟨b2, off2, none⟩) n cap2, .string body, .bool close]] w
      fun e w' => e = .returned (.bool true) ∧ Below w.heap.size w w' := by
  have Hn := Lib.hid hn; clear hn
  have hb2 := bl_alloc (bl_alloc (Below.refl _ w) (Obj.cells #[.string m, .string p, .slice (some ⟨b1, off1, none⟩) n cap1, .string body, .bool close] 33)) (Obj.cells #[.string m, .string p, .slice (some ⟨b2, off2, none⟩) n cap2, .string body, .bool close] 33)
  have hB1 := h1.below hb2
  have hB2 := h2.below hb2
  have HB1 := Lib.hid hB1; clear hB1
  have HB2 := Lib.hid hB2; clear hB2
  have HBL := Lib.hid hb2; clear hb2
  go_enter Tryz.func17, Tryz.ntmps17
  go_wp2
  go_loopw [5] (fun i wr => ∃ k d : Nat, k ≤ n ∧ i = .int .i64 k ∧ wr = ((w.alloc (Obj.cells #[.string m, .string p, .slice (some ⟨b1, off1, none⟩) n cap1, .string body, .bool close] 33)).alloc (Obj.cells #[.string m, .string p, .slice (some ⟨b2, off2, none⟩) n cap2, .string body, .bool close] 33)).drewN d) (fun i _ => n - (intOf i).toNat)
  case atStart => exact ⟨0, 0, Nat.zero_le _, rfl, rfl⟩
  case round =>
    obtain ⟨k, d, hk, rfl, rfl⟩ := hrel
    by_cases hlt : k < n
    · have hlt' : k < hs.length := by rw [← Hn.out]; exact hlt
      obtain ⟨c0, c1⟩ := HB1.out k hlt'
      obtain ⟨d0, d1⟩ := HB2.out k hlt'
      obtain ⟨nm, hnm⟩ : ∃ x, x = hs[k].n := ⟨_, rfl⟩
      obtain ⟨vl, hvl⟩ : ∃ x, x = hs[k].v := ⟨_, rfl⟩
      rw [← hnm] at c0 d0
      rw [← hvl] at c1 d1
      have HNM := Lib.hid hnm; clear hnm
      have HVL := Lib.hid hvl; clear hvl
      have hb0 : (0 : Int) ≤ (k : Int) := by omega
      have hb1 : (k : Int) < (n : Int) := by omega
      go_wp2
      go_quiet (fail)
      go_wp2
      go_roundw
      case rel => exact ⟨k + 1, _, by omega, by go_num, rfl⟩
      case measure => simp [intOf]; omega
    · obtain rfl : k = n := by omega
      go_wp2
      go_ret
      exact ⟨rfl, bl_drew HBL.out _⟩

set_option maxRecDepth 100000 in
set_option maxHeartbeats 1000000 in
theorem rf_Same (m p body : ByteArray) (close : Bool) (a1 a2 : Option Addr) (b1 off1 cap1 b2 off2 cap2 n : Nat) (hs : List Hd) (w : World) (hn : n = hs.length) (ha1 : 0 < n → a1 = some ⟨b1, off1, none⟩) (ha2 : 0 < n → a2 = some ⟨b2, off2, none⟩)
    (h1 : HeadsAt w b1 off1 hs) (h2 : HeadsAt w b2 off2 hs) (hm : n ≤ 1000000) :
    Calls Tryz.prog 17 #[.agg #[.string m, .string p, .slice a1 n cap1, .string body, .bool close], .agg #[.string m, .string p, .slice a2 n cap2, .string body, .bool close]] w
      fun e w' => e = .returned (.bool true) ∧ Below w.heap.size w w' := by
  rcases Nat.eq_zero_or_pos n with h0 | h0
  · clear hn ha1 ha2 h1 h2
    subst h0
    go_enter Tryz.func17, Tryz.ntmps17
    go_wp2
    refine wp_loop_rounds 1 ?_
    rw [rounds_succ]
    go_wp2
    go_ret
    exact ⟨rfl, bl_alloc (bl_alloc (Below.refl _ w) _) _⟩
  · obtain rfl := ha1 h0
    obtain rfl := ha2 h0
    exact rf_Same_some m p body close b1 off1 cap1 b2 off2 cap2 n hs w hn h1 h2 hm
end Go.Proofs.YtnicmdlicbnlgaaGreatDoor
