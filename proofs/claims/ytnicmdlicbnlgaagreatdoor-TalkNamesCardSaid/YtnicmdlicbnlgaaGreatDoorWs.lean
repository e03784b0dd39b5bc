/-
  Walks: the wire's small functions on strings (among, hasRune, method, path, value, token).
-/
import Derived.Test.YtnicmdlicbnlgaaGreatDoorPl
import Derived.Test.YtnicmdlicbnlgaaGreatDoorEnv
import Derived.Test.YtnicmdlicbnlgaaGreatDoorShelf
import Derived.WalkKit
import Derived.WalkSpells
import Derived.WalkLawsBesides
import Derived.BigQuiet
import Derived.Deep.QuietTactic
import Derived.Lib.Hide
import Derived.Lib.OthersKept
namespace Go.Proofs.YtnicmdlicbnlgaaGreatDoor
open Go.RowKit
set_option linter.unusedVariables false
set_option linter.unusedSimpArgs false

set_option maxRecDepth 100000 in
set_option maxHeartbeats 400000 in
theorem hasRune_any (s : ByteArray) (r : Int) (w : World) (hs : s.size ≤ maxLen) (ha : s.data.toList.all (· < 128) = true) :
    Calls Tryz.prog 102 #[.string s, .int .i32 r] w fun e w' => e = .returned (.bool (hasB s.data.toList r)) ∧ Below w.heap.size w w' := by
  unfold maxLen at hs
  have HA := Lib.hid ha; clear ha
  go_enter Tryz.func102, Tryz.ntmps102
  go_wp2
  go_loopw [] (fun wr => ∃ (pos : Nat), pos ≤ s.size ∧ wr.heap[w.heap.size]? = some (.stringIter s pos) ∧ Below w.heap.size w wr ∧ Hid (hasB (s.data.toList.take pos) r = false)) (fun wr => s.size - wr.iterPos w.heap.size)
  case atStart => exact ⟨0, Nat.zero_le _, World.iter_heap w s 0, (Below.refl _ _).alloc (Nat.le_refl _) _, rfl⟩
  case round =>
    obtain ⟨pos, hpos, hit, hbw, HS⟩ := hrel
    have hpos0 := iterPos_of hit
    by_cases hp : pos < s.size
    · have hb : (s[pos]'hp).toNat < 128 := by
        simpa [UInt8.lt_iff_toNat_lt] using all_get HA.out pos hp
      have hnx : ∀ ty, (Instr.next (.pointer (some ⟨w.heap.size, 0, none⟩)) true ty).run Tryz.prog wr = _ := fun ty => Lib.run_next_ascii_at wr w.heap.size s pos ty hit hp hb
      have hit2 := Lib.iterAt_heap wr w.heap.size s pos (pos + 1) hit
      have hbw2 := Lib.below_iterAt hbw (k := w.heap.size) (Nat.le_refl _) s (pos + 1)
      by_cases he : ((s[pos]'hp).toNat : Int) = r
      · have he2 : (((s[pos]'hp).toNat : Int) == r) = true := by simpa using he
        go_wp2
        go_ret
        exact ⟨ret_bool (hasB_true_of s pos r hp he2).symm, hbw2⟩
      · have he2 : (((s[pos]'hp).toNat : Int) == r) = false := by simpa using he
        have HE := Lib.hid he2
        go_wp2
        go_roundw
        case rel => exact ⟨pos + 1, by omega, hit2, hbw2, by unfold Hid; rw [hasB_take_succ _ _ _ hp, HE.out, HS.out]; rfl⟩
        case measure => simp [iterPos_of hit2, iterPos_of hit]; omega
    · have hnx : ∀ ty, (Instr.next (.pointer (some ⟨w.heap.size, 0, none⟩)) true ty).run Tryz.prog wr = _ := fun ty => Lib.run_next_end_at wr w.heap.size s pos ty hit hp
      go_wp2
      go_ret
      have : pos = s.size := by omega
      subst this
      exact ⟨ret_bool (by rw [← hasB_of_take, HS.out]), hbw⟩

/-- The closure of 'among': is a rune none of these? -/
def amongP (lo hi : UInt8) (more : List UInt8) (r : Nat) : Bool := ((decide ((r : Int) < (lo.toNat : Int)) || decide ((hi.toNat : Int) < (r : Int))) && !hasB more r)

set_option maxRecDepth 100000 in
set_option maxHeartbeats 400000 in
theorem among1_any (B1 B2 B3 : Nat) (lo hi : UInt8) (more : ByteArray) (r : Nat) (hr : r ≤ 1114111) (w : World) (hs : more.size ≤ maxLen) (ha : more.data.toList.all (· < 128) = true)
    (h1 : w.cell? ⟨B1, 0, none⟩ = some (.int .u8 (lo.toNat : Int))) (h2 : w.cell? ⟨B2, 0, none⟩ = some (.int .u8 (hi.toNat : Int))) (h3 : w.cell? ⟨B3, 0, none⟩ = some (.string more)) :
    Calls Tryz.prog 101 #[.int .i32 (r : Int), .pointer (some ⟨B1, 0, none⟩), .pointer (some ⟨B2, 0, none⟩), .pointer (some ⟨B3, 0, none⟩)] w
      fun e w' => e = .returned (.bool (amongP lo hi more.data.toList r)) ∧ Below w.heap.size w w' := by
  have HA := Lib.hid ha; clear ha
  have hl := lo.toNat_lt
  have hh := hi.toNat_lt
  by_cases c1 : (r : Int) < (lo.toNat : Int)
  · go_enter Tryz.func101, Tryz.ntmps101
    go_wp2_with (go_at_call 102; refine (hasRune_any _ _ _ hs HA.out).mono ?_; rintro e w' ⟨rfl, hb⟩)
    go_ret
    exact ⟨ret_bool (by simp [amongP, c1]), hb⟩
  · by_cases c2 : (hi.toNat : Int) < (r : Int)
    · go_enter Tryz.func101, Tryz.ntmps101
      go_wp2_with (go_at_call 102; refine (hasRune_any _ _ _ hs HA.out).mono ?_; rintro e w' ⟨rfl, hb⟩)
      go_ret
      exact ⟨ret_bool (by simp [amongP, c2]), hb⟩
    · go_enter Tryz.func101, Tryz.ntmps101
      go_wp2_with (go_at_call 102; refine (hasRune_any _ _ _ hs HA.out).mono ?_; rintro e w' ⟨rfl, hb⟩)
      go_ret
      exact ⟨ret_bool (by simp [amongP, c1, c2]; omega), Below.refl _ _⟩

theorem amongP_grows (B1 B2 B3 : Nat) (lo hi : UInt8) (more : ByteArray) (w : World) (hs : more.size ≤ maxLen) (ha : more.data.toList.all (· < 128) = true) (b1 : B1 < w.heap.size) (b2 : B2 < w.heap.size) (b3 : B3 < w.heap.size)
    (h1 : w.cell? ⟨B1, 0, none⟩ = some (.int .u8 (lo.toNat : Int))) (h2 : w.cell? ⟨B2, 0, none⟩ = some (.int .u8 (hi.toNat : Int))) (h3 : w.cell? ⟨B3, 0, none⟩ = some (.string more)) :
    PredGrows Tryz.prog 101 #[.pointer (some ⟨B1, 0, none⟩), .pointer (some ⟨B2, 0, none⟩), .pointer (some ⟨B3, 0, none⟩)] (amongP lo hi more.data.toList) w :=
  fun W x hx hb => among1_any B1 B2 B3 lo hi more x hx W hs ha ((hb.cell (p := ⟨B1, 0, none⟩) b1).trans h1) ((hb.cell (p := ⟨B2, 0, none⟩) b2).trans h2) ((hb.cell (p := ⟨B3, 0, none⟩) b3).trans h3)

set_option maxRecDepth 100000 in
set_option maxHeartbeats 400000 in
theorem among_any (s more : ByteArray) (lo hi : UInt8) (w : World) (hs : more.size ≤ maxLen) (ha : more.data.toList.all (· < 128) = true) (hhi : hi < 128) :
    Calls Tryz.prog 71 #[.string s, .int .u8 (lo.toNat : Int), .int .u8 (hi.toNat : Int), .string more] w fun e w' => e = .returned (.bool (amongB lo hi more.data.toList s.data.toList)) ∧ Below w.heap.size w w' := by
  have HA := Lib.hid ha; clear ha
  have hC := fun (W : World) (hB : w.heap.size + 2 < W.heap.size) h1 h2 h3 =>
    Tryz.strings_ContainsFunc_grows 101 #[.pointer (some ⟨w.heap.size, 0, none⟩), .pointer (some ⟨w.heap.size + 1, 0, none⟩), .pointer (some ⟨w.heap.size + 2, 0, none⟩)] (enters_of Tryz.func101 (by kernel_rfl) rfl) _ s W
      (amongP_grows w.heap.size (w.heap.size + 1) (w.heap.size + 2) lo hi more W hs HA.out (by omega) (by omega) hB h1 h2 h3)
  have HC := Lib.hid hC; clear hC
  go_enter Tryz.func71, Tryz.ntmps71
  go_wp2_with fail
  refine (HC.out _ ?_ ?_ ?_ ?_).mono ?_
  case refine_1 => simp
  case refine_2 =>
    rw [cell_old, cell_old, cell_new]
    · rfl
    · simp
    · simp; omega
  case refine_3 =>
    rw [cell_old]
    · simp
    · simp
  case refine_4 =>
    have := cell_new ((w.alloc (Obj.cells #[Value.int IntKind.u8 (lo.toNat : Int)] 5)).alloc (Obj.cells #[Value.int IntKind.u8 (hi.toNat : Int)] 5)) #[Value.string more] 9 (0, 0) 0
    simp only [World.size_alloc] at this
    rw [this]; rfl
  rintro e w' ⟨rfl, hb⟩
  go_wp2
  go_ret
  refine ⟨ret_bool ?_, bl_trans (bl_alloc (bl_alloc (bl_alloc (Below.refl _ w) _) _) _) hb⟩
  have hp : ∀ r, 128 ≤ r → amongP lo hi more.data.toList r = true := fun r hr => by
    have h128 : (128 : UInt8).toNat = 128 := rfl
    have h2 : hi.toNat < 128 := by simpa [UInt8.lt_iff_toNat_lt, h128] using hhi
    rw [amongP, hasB_high _ HA.out _ (by omega)]
    simp
    omega
  rw [idx_all _ _ hp, amongB, ← amongAll]
  congr 2
  funext b
  simp [amongP, hasB_byte]

theorem among_at (s more : ByteArray) (lo hi : UInt8) (l h : Int) (w : World) (hl : (lo.toNat : Int) = l) (hh : (hi.toNat : Int) = h) (hs : more.size ≤ maxLen) (ha : more.data.toList.all (· < 128) = true) (hhi : hi < 128) :
    Calls Tryz.prog 71 #[.string s, .int .u8 l, .int .u8 h, .string more] w fun e w' => e = .returned (.bool (amongB lo hi more.data.toList s.data.toList)) ∧ Below w.heap.size w w' := by
  subst hl; subst hh; exact among_any s more lo hi w hs ha hhi

set_option maxRecDepth 100000 in
set_option maxHeartbeats 400000 in
theorem wr_path (s : ByteArray) (w : World) :
    Calls Tryz.prog 48 #[.string s] w fun e w' => e = .returned (.bool (pathB s.data.toList)) ∧ Below w.heap.size w w' := by
  by_cases h1 : Lib.hasPrefix s.data.toList [47] = true
  · go_enter Tryz.func48, Tryz.ntmps48
    go_wp2_with fail
    refine (Tryz.strings_HasPrefix _ _ _).mono ?_
    rintro e w' ⟨rfl, rfl⟩
    go_wp2_with fail
    refine (among_at s ⟨#[]⟩ 33 126 33 126 _ rfl rfl (by decide) (by decide) (by decide)).mono ?_
    rintro e w1 ⟨rfl, hb⟩
    go_wp2
    go_ret
    refine ⟨ret_bool ?_, hb⟩
    rw [pathB_yes _ h1]
  · have h1 : Lib.hasPrefix s.data.toList [47] = false := by simpa using h1
    go_enter Tryz.func48, Tryz.ntmps48
    go_wp2_with fail
    refine (Tryz.strings_HasPrefix _ _ _).mono ?_
    rintro e w' ⟨rfl, rfl⟩
    go_wp2_with fail
    go_ret
    exact ⟨ret_bool (by rw [pathB_no _ h1]), Below.refl _ _⟩

set_option maxRecDepth 100000 in
set_option maxHeartbeats 400000 in
theorem wr_value (s : ByteArray) (w : World) :
    Calls Tryz.prog 51 #[.string s] w fun e w' => e = .returned (.bool (valueB s.data.toList)) ∧ Below w.heap.size w w' := by
  go_enter Tryz.func51, Tryz.ntmps51
  go_wp2_with fail
  refine (among_at s ⟨#[9]⟩ 32 126 32 126 _ rfl rfl (by decide) (by decide) (by decide)).mono ?_
  rintro e w1 ⟨rfl, hb⟩
  go_wp2
  go_ret
  exact ⟨ret_bool (valueB_eq _), hb⟩

set_option maxRecDepth 100000 in
set_option maxHeartbeats 400000 in
theorem wr_method (s : ByteArray) (w : World) (hs : s.size ≤ maxLen) :
    Calls Tryz.prog 47 #[.string s] w fun e w' => e = .returned (.bool (methodB s.data.toList)) ∧ Below w.heap.size w w' := by
  unfold maxLen at hs
  by_cases h1 : s.toList = []
  · have h2 : (!s.toList.isEmpty) = false := by simp [h1]
    go_enter Tryz.func47, Tryz.ntmps47
    go_wp2_with fail
    go_ret
    exact ⟨ret_bool (by rw [methodB_empty _ h1]), Below.refl _ _⟩
  · by_cases h3 : s.size ≤ 16
    · have h2 : (!s.toList.isEmpty) = true := by simp [h1]
      go_enter Tryz.func47, Tryz.ntmps47
      go_wp2_with fail
      refine (among_at s ⟨#[]⟩ 65 90 65 90 _ rfl rfl (by decide) (by decide) (by decide)).mono ?_
      rintro e w1 ⟨rfl, hb⟩
      go_wp2
      go_ret
      exact ⟨ret_bool (by rw [methodB_yes _ h1 h3]), hb⟩
    · have h2 : (!s.toList.isEmpty) = true := by simp [h1]
      go_enter Tryz.func47, Tryz.ntmps47
      go_wp2_with fail
      go_ret
      exact ⟨ret_bool (by rw [methodB_long _ h3]), Below.refl _ _⟩

set_option maxRecDepth 100000 in
set_option maxHeartbeats 400000 in
theorem wr_token (s : ByteArray) (w : World) (hs : s.size < 35184372088832) (he : Env w) :
    Calls Tryz.prog 49 #[.string s] w fun e w' => e = .returned (.bool (tokenB s.data.toList)) ∧ Below w.heap.size w w' := by
  by_cases h1 : s.toList = []
  · have h2 : (!s.toList.isEmpty) = false := by simp [h1]
    go_enter Tryz.func49, Tryz.ntmps49
    go_wp2_with fail
    go_ret
    exact ⟨ret_bool (by rw [tokenB_empty _ h1]), Below.refl _ _⟩
  · have h2 : (!s.toList.isEmpty) = true := by simp [h1]
    cases h3 : amongB 97 122 moreTok (Lib.toLowerD s.data.toList) with
    | false =>
      have H3 := Lib.hid h3; clear h3
      go_enter Tryz.func49, Tryz.ntmps49
      go_wp2_with fail
      refine (Tryz.strings_ToLower_any s _ hs he.cases he.utf).mono ?_
      rintro e w1 ⟨rfl, hb⟩
      go_wp2_with fail
      refine (among_at _ ⟨#[48, 49, 50, 51, 52, 53, 54, 55, 56, 57, 33, 35, 36, 37, 38, 39, 42, 43, 45, 46, 94, 95, 96, 124, 126]⟩ 97 122 97 122 _ rfl rfl (by decide) (by decide) (by decide)).mono ?_
      have e3 : amongB 97 122 (⟨#[48, 49, 50, 51, 52, 53, 54, 55, 56, 57, 33, 35, 36, 37, 38, 39, 42, 43, 45, 46, 94, 95, 96, 124, 126]⟩ : ByteArray).data.toList (⟨(Lib.toLowerD s.data.toList).toArray⟩ : ByteArray).data.toList = false := H3.out
      rw [e3]
      clear e3
      rintro e w2 ⟨rfl, hb2⟩
      go_wp2_with fail
      go_ret
      exact ⟨ret_bool (by rw [tokenB_eq _ h1, H3.out]; rfl), bl_trans hb hb2⟩
    | true =>
      have H3 := Lib.hid h3; clear h3
      go_enter Tryz.func49, Tryz.ntmps49
      go_wp2_with fail
      refine (Tryz.strings_ToLower_any s _ hs he.cases he.utf).mono ?_
      rintro e w1 ⟨rfl, hb⟩
      go_wp2_with fail
      refine (among_at _ ⟨#[48, 49, 50, 51, 52, 53, 54, 55, 56, 57, 33, 35, 36, 37, 38, 39, 42, 43, 45, 46, 94, 95, 96, 124, 126]⟩ 97 122 97 122 _ rfl rfl (by decide) (by decide) (by decide)).mono ?_
      have e3 : amongB 97 122 (⟨#[48, 49, 50, 51, 52, 53, 54, 55, 56, 57, 33, 35, 36, 37, 38, 39, 42, 43, 45, 46, 94, 95, 96, 124, 126]⟩ : ByteArray).data.toList (⟨(Lib.toLowerD s.data.toList).toArray⟩ : ByteArray).data.toList = true := H3.out
      rw [e3]
      clear e3
      rintro e w2 ⟨rfl, hb2⟩
      go_wp2_with fail
      refine (among_at s ⟨#[]⟩ 33 126 33 126 _ rfl rfl (by decide) (by decide) (by decide)).mono ?_
      rintro e w3 ⟨rfl, hb3⟩
      go_wp2
      go_ret
      exact ⟨ret_bool (by rw [tokenB_eq _ h1, H3.out]; rfl), bl_trans (bl_trans hb hb2) hb3⟩
end Go.Proofs.YtnicmdlicbnlgaaGreatDoor
