/-
  Plain words on bytes: what a method, a path, a token, a value is. No program in sight.
-/
import Derived.Lib.SlTrimSet
import Derived.Lib.ItoaNum
import Derived.Lib.Strings
import Derived.Shelf.GgClosure.StringsIndexFunc
import Derived.Shelf.Strings.CaseAny
import Derived.Laws.RangeAny
import Derived.Laws.RangeString
namespace Go.Proofs.YtnicmdlicbnlgaaGreatDoor

def bUp (c : UInt8) : Bool := 65 ≤ c && c ≤ 90
def bPath (c : UInt8) : Bool := 33 ≤ c && c ≤ 126
def bVal (c : UInt8) : Bool := (32 ≤ c && c ≤ 126) || c == 9
def lowB (c : UInt8) : UInt8 := if 65 ≤ c && c ≤ 90 then c + 32 else c
def smallB (l : List UInt8) : List UInt8 := l.map lowB
def bRange (lo hi : UInt8) (more : List UInt8) (c : UInt8) : Bool := (lo ≤ c && c ≤ hi) || more.contains c
def signsB : List UInt8 := [33, 35, 36, 37, 38, 39, 42, 43, 45, 46, 94, 95, 96, 124, 126]
def bTok (c : UInt8) : Bool := (97 ≤ c && c ≤ 122) || (65 ≤ c && c ≤ 90) || (48 ≤ c && c ≤ 57) || signsB.contains c

def methodB (l : List UInt8) : Bool := l.all bUp && !l.isEmpty && decide (l.length ≤ 16)
def pathB (l : List UInt8) : Bool := l.all bPath && (l.head? == some 47)
def valueB (l : List UInt8) : Bool := l.all bVal
def tokenB (l : List UInt8) : Bool := l.all bTok && !l.isEmpty
def bareB (l : List UInt8) : List UInt8 := Lib.trimS l [32, 9]

theorem all_take_succ (p : UInt8 → Bool) (s : ByteArray) (k : Nat) (h : k < s.size) :
    (s.data.toList.take (k + 1)).all p = ((s.data.toList.take k).all p && p s[k]) := by
  rw [List.take_succ_eq_append_getElem (by simpa using h), List.all_append]
  simp
  rfl
theorem all_of_take (p : UInt8 → Bool) (s : ByteArray) : (s.data.toList.take s.size).all p = s.data.toList.all p := by
  rw [List.take_of_length_le (by simp)]
theorem all_false_of (p : UInt8 → Bool) (s : ByteArray) (k : Nat) (h : k < s.size) (hp : p s[k] = false) : s.data.toList.all p = false := by
  rw [List.all_eq_false]
  refine ⟨s.data.toList[k]'(by simpa using h), List.getElem_mem _, ?_⟩
  have e : s.data.toList[k]'(by simpa using h) = s[k] := by simp; rfl
  rw [e, hp]; simp

theorem all_get {p : UInt8 → Bool} {s : ByteArray} (ha : s.data.toList.all p = true) (k : Nat) (h : k < s.size) : p s[k] = true := by
  by_cases hp : p s[k] = true
  · exact hp
  · rw [all_false_of p s k h (by simpa using hp)] at ha
    cases ha

def amongB (lo hi : UInt8) (more l : List UInt8) : Bool := l.all (bRange lo hi more)
theorem amongAll (lo hi : UInt8) (more l : List UInt8) : (!(l.any fun b => ((decide (((b.toNat : Nat) : Int) < (lo.toNat : Int)) || decide ((hi.toNat : Int) < (b.toNat : Int))) && !more.contains b))) = l.all (bRange lo hi more) := by
  induction l with
  | nil => rfl
  | cons b l ih =>
    rw [List.any_cons, List.all_cons, ← ih, Bool.not_or]
    congr 1
    unfold bRange
    cases more.contains b
    · simp [UInt8.le_iff_toNat_le]
      rw [Bool.eq_iff_iff]
      simp
    · simp

/-- Whether a rune stands in a text of single bytes. -/
def hasB (l : List UInt8) (r : Int) : Bool := l.any fun b => (b.toNat : Int) == r
theorem hasB_take_succ (s : ByteArray) (k : Nat) (r : Int) (h : k < s.size) : hasB (s.data.toList.take (k + 1)) r = (hasB (s.data.toList.take k) r || (s[k].toNat : Int) == r) := by
  unfold hasB
  rw [List.take_succ_eq_append_getElem (by simpa using h), List.any_append]
  simp
  rfl
theorem hasB_of_take (s : ByteArray) (r : Int) : hasB (s.data.toList.take s.size) r = hasB s.data.toList r := by
  rw [List.take_of_length_le (by simp)]
theorem hasB_true_of (s : ByteArray) (k : Nat) (r : Int) (h : k < s.size) (hr : ((s[k].toNat : Int) == r) = true) : hasB s.data.toList r = true := by
  unfold hasB
  rw [List.any_eq_true]
  refine ⟨s.data.toList[k]'(by simpa using h), List.getElem_mem _, ?_⟩
  have e : s.data.toList[k]'(by simpa using h) = s[k] := by simp; rfl
  rw [e, hr]
theorem hasB_byte (l : List UInt8) (c : UInt8) : hasB l (c.toNat : Int) = l.contains c := by
  unfold hasB
  induction l with
  | nil => rfl
  | cons b l ih =>
    simp only [List.any_cons, List.contains_cons, ih]
    congr 1
    rw [Bool.eq_iff_iff]
    simp only [beq_iff_eq]
    exact ⟨fun h => UInt8.toNat.inj (by omega), fun h => by subst h; rfl⟩
theorem hasB_high (l : List UInt8) (hl : l.all (· < 128) = true) (r : Int) (h : 128 ≤ r) : hasB l r = false := by
  unfold hasB
  rw [List.any_eq_false]
  intro b hb
  have := List.all_eq_true.1 hl b hb
  simp only [decide_eq_true_eq, UInt8.lt_iff_toNat_lt] at this
  have h128 : (128 : UInt8).toNat = 128 := rfl
  simp only [beq_iff_eq]
  omega

/-- A predicate on runes that is true of all beyond ASCII: where it holds nowhere, it holds of no byte. -/
theorem idx_from (p : Nat → Bool) (s : ByteArray) (hp : ∀ r, 128 ≤ r → p r = true) : ∀ (f pos : Nat), s.size ≤ pos + f →
    decide (0 ≤ Lib.idxFuncFrom p true s f pos) = (s.data.toList.drop pos).any (fun b => p b.toNat)
  | 0, pos, h => by
    rw [List.drop_eq_nil_of_le (by simpa using h)]
    rfl
  | f + 1, pos, h => by
    unfold Lib.idxFuncFrom
    by_cases hlt : pos < s.size
    · rw [if_pos hlt]
      have hd : s.data.toList.drop pos = s[pos] :: s.data.toList.drop (pos + 1) := by
        rw [List.drop_eq_getElem_cons (by simpa using hlt)]
        congr 1
      by_cases ha : (s[pos]'hlt).toNat < 128
      · rw [decode_ascii s pos hlt ha, hd, List.any_cons]
        by_cases hb : p (s[pos]'hlt).toNat = true
        · rw [if_pos hb, hb]
          simp
        · rw [if_neg hb, idx_from p s hp f (pos + 1) (by omega)]
          simp [hb]
      · have hh := (decode_high s pos hlt (by omega)).1
        rw [if_pos (hp _ hh), hd, List.any_cons, hp (s[pos]'hlt).toNat (by omega)]
        simp
    · rw [if_neg hlt, List.drop_eq_nil_of_le (by simpa using hlt)]
      rfl
theorem idx_all (p : Nat → Bool) (s : ByteArray) (hp : ∀ r, 128 ≤ r → p r = true) : decide (0 ≤ Lib.idxFunc p true s) = s.data.toList.any (fun b => p b.toNat) := by
  have := idx_from p s hp s.size 0 (by omega)
  rw [List.drop_zero] at this
  exact this

theorem bRange_nil (lo hi c : UInt8) : bRange lo hi [] c = (decide (lo ≤ c) && decide (c ≤ hi)) := by simp [bRange]
theorem toList_data (s : ByteArray) : s.toList = s.data.toList := ByteArray.toList_eq s
theorem hp_head (l : List UInt8) : Lib.hasPrefix l [47] = (l.head? == some 47) := by
  cases l with
  | nil => rfl
  | cons a l =>
    show ((47 == a) && true) = (a == 47)
    rw [Bool.and_true, Bool.eq_iff_iff]
    simp only [beq_iff_eq]
    exact eq_comm
theorem pathB_yes (l : List UInt8) (h : Lib.hasPrefix l [47] = true) : pathB l = amongB 33 126 [] l := by
  unfold pathB amongB
  rw [← hp_head, h, Bool.and_true]
  congr 1
  funext c
  simp [bRange_nil, bPath]
theorem pathB_no (l : List UInt8) (h : Lib.hasPrefix l [47] = false) : pathB l = false := by
  unfold pathB
  rw [← hp_head, h, Bool.and_false]
theorem valueB_eq (l : List UInt8) : amongB 32 126 [9] l = valueB l := by
  unfold valueB amongB
  congr 1
  funext c
  simp [bRange, bVal]
  rfl
theorem methodB_empty (s : ByteArray) (h : s.toList = []) : methodB s.data.toList = false := by
  rw [toList_data] at h
  simp [methodB, h]
theorem methodB_yes (s : ByteArray) (h : ¬ s.toList = []) (h2 : s.size ≤ 16) : methodB s.data.toList = amongB 65 90 [] s.data.toList := by
  rw [toList_data] at h
  have : s.data.toList.length ≤ 16 := by simpa using h2
  unfold methodB amongB
  simp only [this, decide_true, Bool.and_true]
  have h3 : (!s.data.toList.isEmpty) = true := by simpa using h
  rw [h3, Bool.and_true]
  congr 1
  funext c
  simp [bRange_nil, bUp]
theorem methodB_long (s : ByteArray) (h2 : ¬ s.size ≤ 16) : methodB s.data.toList = false := by
  have : ¬ s.data.toList.length ≤ 16 := by simpa using h2
  simp [methodB]
  intros
  simpa using h2

def moreTok : List UInt8 := [48, 49, 50, 51, 52, 53, 54, 55, 56, 57, 33, 35, 36, 37, 38, 39, 42, 43, 45, 46, 94, 95, 96, 124, 126]
theorem byte_all (p : UInt8 → Prop) (h : ∀ n : Fin 256, p (UInt8.ofNat n.val)) (c : UInt8) : p c := by
  have := h ⟨c.toNat, c.toNat_lt⟩
  rwa [show UInt8.ofNat c.toNat = c from by simp] at this
theorem tok_low (c : UInt8) : c < 128 → (bRange 97 122 moreTok (lowB c) && bRange 33 126 [] c) = bTok c :=
  byte_all (fun c => c < 128 → (bRange 97 122 moreTok (lowB c) && bRange 33 126 [] c) = bTok c) (by decide +kernel) c
theorem tok_small (c : UInt8) : bTok c = true → c < 128 := byte_all (fun c => bTok c = true → c < 128) (by decide +kernel) c
theorem path_small (c : UInt8) : bRange 33 126 [] c = true → c < 128 := byte_all (fun c => bRange 33 126 [] c = true → c < 128) (by decide +kernel) c
theorem lower_ascii (l : List UInt8) (h : l.all (· < 128) = true) : Lib.toLowerD l = smallB l := by
  rw [Lib.toLowerD_ascii l (fun b hb => by
    have := List.all_eq_true.1 h b hb
    simpa [UInt8.lt_iff_toNat_lt] using this)]
  unfold Lib.toLowerA smallB
  congr 1
theorem tokenB_empty (s : ByteArray) (h : s.toList = []) : tokenB s.data.toList = false := by
  rw [toList_data] at h
  simp [tokenB, h]
theorem tokenB_eq (s : ByteArray) (h : ¬ s.toList = []) : tokenB s.data.toList = (amongB 97 122 moreTok (Lib.toLowerD s.data.toList) && amongB 33 126 [] s.data.toList) := by
  rw [toList_data] at h
  generalize s.data.toList = l at *
  have hn : (!l.isEmpty) = true := by simpa using h
  unfold tokenB
  rw [hn, Bool.and_true]
  by_cases ha : l.all (· < 128) = true
  · rw [lower_ascii l ha]
    clear h hn
    unfold amongB smallB
    rw [List.all_map]
    induction l with
    | nil => rfl
    | cons c l ih =>
      rw [List.all_cons, Bool.and_eq_true] at ha
      simp only [List.all_cons, Function.comp]
      rw [ih ha.2, ← tok_low c (by simpa using ha.1)]
      cases bRange 97 122 moreTok (lowB c) <;> cases bRange 33 126 [] c <;> simp [Function.comp_def]
  · have h1 : l.all bTok = false := by
      rw [Bool.eq_false_iff]
      intro h2
      exact ha (List.all_eq_true.2 fun b hb => by simpa using tok_small b (List.all_eq_true.1 h2 b hb))
    have h3 : amongB 33 126 [] l = false := by
      rw [Bool.eq_false_iff]
      intro h2
      exact ha (List.all_eq_true.2 fun b hb => by simpa using path_small b (List.all_eq_true.1 h2 b hb))
    rw [h1, h3, Bool.and_false]

theorem methodB_bad (s : ByteArray) (k : Nat) (h : k < s.size) (hp : bUp s[k] = false) : methodB s.data.toList = false := by
  simp only [methodB, all_false_of bUp s k h hp, Bool.false_and]
theorem methodB_end (s : ByteArray) (ha : (s.data.toList.take s.size).all bUp = true) (h : ¬ s.toList = []) : methodB s.data.toList = decide ((s.size : Int) ≤ 16) := by
  rw [all_of_take] at ha
  rw [toList_data] at h
  have h3 : (!s.data.toList.isEmpty) = true := by simpa using h
  have h4 : s.data.toList.length = s.size := by simp
  simp only [methodB, ha, h3, Bool.true_and, h4]
  exact decide_eq_decide.2 (by omega)
theorem pathB_bad (s : ByteArray) (k : Nat) (h : k < s.size) (hp : bPath s[k] = false) : pathB s.data.toList = false := by
  simp only [pathB, all_false_of bPath s k h hp, Bool.false_and]
theorem pathB_empty (s : ByteArray) (h : s.toList = []) : pathB s.data.toList = false := by
  rw [toList_data] at h
  simp [pathB, h]
theorem head_at (s : ByteArray) (h : 0 < s.size) : s.data.toList.head? = some s[0] := by
  rw [List.head?_eq_getElem?, List.getElem?_eq_getElem (by simpa using h)]
  simp
  rfl
theorem pathB_end (s : ByteArray) (ha : (s.data.toList.take s.size).all bPath = true) (h : 0 < s.size) : pathB s.data.toList = ((s[0].toNat : Int) == 47) := by
  rw [all_of_take] at ha
  rw [pathB, ha, head_at s h, Bool.true_and, Bool.eq_iff_iff]
  simp only [beq_iff_eq, Option.some.injEq]
  exact ⟨fun h => by rw [h]; rfl, fun h => UInt8.toNat.inj (by have : (47 : UInt8).toNat = 47 := rfl; omega)⟩
def alnumB (c : UInt8) : Bool := (97 ≤ c && c ≤ 122) || (65 ≤ c && c ≤ 90) || (48 ≤ c && c ≤ 57)
def goodB (c : UInt8) (k : Nat) : Bool := alnumB c || (signsB.take k).contains c
theorem goodB_zero (c : UInt8) : goodB c 0 = alnumB c := by simp [goodB]
theorem goodB_end (c : UInt8) : goodB c 15 = bTok c := rfl
theorem goodB_succ (c : UInt8) (k : Nat) (hk : k < 15) : goodB c (k + 1) = (goodB c k || c == signsB.getD k 0) := by
  have : k = 0 ∨ k = 1 ∨ k = 2 ∨ k = 3 ∨ k = 4 ∨ k = 5 ∨ k = 6 ∨ k = 7 ∨ k = 8 ∨ k = 9 ∨ k = 10 ∨ k = 11 ∨ k = 12 ∨ k = 13 ∨ k = 14 := by omega
  unfold goodB
  rcases this with h | h | h | h | h | h | h | h | h | h | h | h | h | h | h <;> subst h <;>
    simp [signsB, Bool.or_assoc] <;> rfl
theorem alnumB_yes (c : UInt8) (h : (97 ≤ (c.toNat : Int) ∧ (c.toNat : Int) ≤ 122) ∨ (65 ≤ (c.toNat : Int) ∧ (c.toNat : Int) ≤ 90) ∨ (48 ≤ (c.toNat : Int) ∧ (c.toNat : Int) ≤ 57)) : alnumB c = true := by
  simp only [alnumB, Bool.or_eq_true, Bool.and_eq_true, decide_eq_true_eq, UInt8.le_iff_toNat_le]
  have h1 : (97 : UInt8).toNat = 97 := rfl
  have h2 : (122 : UInt8).toNat = 122 := rfl
  have h3 : (65 : UInt8).toNat = 65 := rfl
  have h4 : (90 : UInt8).toNat = 90 := rfl
  have h5 : (48 : UInt8).toNat = 48 := rfl
  have h6 : (57 : UInt8).toNat = 57 := rfl
  omega
theorem alnumB_no (c : UInt8) (h : ¬ ((97 ≤ (c.toNat : Int) ∧ (c.toNat : Int) ≤ 122) ∨ (65 ≤ (c.toNat : Int) ∧ (c.toNat : Int) ≤ 90) ∨ (48 ≤ (c.toNat : Int) ∧ (c.toNat : Int) ≤ 57))) : alnumB c = false := by
  rw [Bool.eq_false_iff]
  intro h0
  apply h
  simp only [alnumB, Bool.or_eq_true, Bool.and_eq_true, decide_eq_true_eq, UInt8.le_iff_toNat_le] at h0
  have h1 : (97 : UInt8).toNat = 97 := rfl
  have h2 : (122 : UInt8).toNat = 122 := rfl
  have h3 : (65 : UInt8).toNat = 65 := rfl
  have h4 : (90 : UInt8).toNat = 90 := rfl
  have h5 : (48 : UInt8).toNat = 48 := rfl
  have h6 : (57 : UInt8).toNat = 57 := rfl
  omega

def sigB : ByteArray := ⟨#[33, 35, 36, 37, 38, 39, 42, 43, 45, 46, 94, 95, 96, 124, 126]⟩
theorem sig_get (j : Nat) (h : j < 15) (hz : j < (⟨#[33, 35, 36, 37, 38, 39, 42, 43, 45, 46, 94, 95, 96, 124, 126]⟩ : ByteArray).size) : (⟨#[33, 35, 36, 37, 38, 39, 42, 43, 45, 46, 94, 95, 96, 124, 126]⟩ : ByteArray)[j] = signsB.getD j 0 := by
  have : ∀ j : Fin 15, (⟨#[33, 35, 36, 37, 38, 39, 42, 43, 45, 46, 94, 95, 96, 124, 126]⟩ : ByteArray)[j.val]'(j.isLt) = signsB.getD j.val 0 := by decide
  exact this ⟨j, h⟩
theorem byte_eq (a b : UInt8) : ((a.toNat : Int) == (b.toNat : Int)) = (a == b) := by
  rw [Bool.eq_iff_iff]
  simp only [beq_iff_eq]
  exact ⟨fun h => UInt8.toNat.inj (by omega), fun h => by rw [h]⟩
theorem tokenB_bad (s : ByteArray) (k : Nat) (h : k < s.size) (hp : bTok s[k] = false) : tokenB s.data.toList = false := by
  simp only [tokenB, all_false_of bTok s k h hp, Bool.false_and]
theorem tokenB_end (s : ByteArray) (ha : (s.data.toList.take s.size).all bTok = true) (h : ¬ s.toList = []) : tokenB s.data.toList = true := by
  rw [all_of_take] at ha
  rw [toList_data] at h
  simpa [tokenB, ha] using h

theorem lowB_cases (c : UInt8) : ((65 ≤ (c.toNat : Int) ∧ (c.toNat : Int) ≤ 90) ∧ ((lowB c).toNat : Int) = (c.toNat : Int) + 32) ∨ ((c.toNat : Int) < 65 ∧ (lowB c).toNat = c.toNat) ∨ (90 < (c.toNat : Int) ∧ (lowB c).toNat = c.toNat) :=
  byte_all (fun c => ((65 ≤ (c.toNat : Int) ∧ (c.toNat : Int) ≤ 90) ∧ ((lowB c).toNat : Int) = (c.toNat : Int) + 32) ∨ ((c.toNat : Int) < 65 ∧ (lowB c).toNat = c.toNat) ∨ (90 < (c.toNat : Int) ∧ (lowB c).toNat = c.toNat)) (by decide +kernel) c
theorem small_take (s : ByteArray) (k : Nat) (h : k < s.size) : smallB (s.data.toList.take (k + 1)) = smallB (s.data.toList.take k) ++ [lowB s[k]] := by
  unfold smallB
  rw [List.take_succ_eq_append_getElem (by simpa using h), List.map_append]
  rfl

def isBlank (c : UInt8) : Bool := c == 32 || c == 9
theorem isBlank_in (c : UInt8) : [32, 9].contains c = isBlank c := byte_all (fun c => [32, 9].contains c = isBlank c) (by decide +kernel) c
theorem isBlank_split (c : UInt8) : ((c.toNat : Int) = 32 ∧ ((c.toNat : Int) == 32) = true ∧ isBlank c = true) ∨ ((c.toNat : Int) = 9 ∧ (((c.toNat : Int) == 32) = false ∧ ((c.toNat : Int) == 9) = true) ∧ isBlank c = true) ∨ (((c.toNat : Int) ≠ 32 ∧ (c.toNat : Int) ≠ 9) ∧ (((c.toNat : Int) == 32) = false ∧ ((c.toNat : Int) == 9) = false) ∧ isBlank c = false) :=
  byte_all (fun c => ((c.toNat : Int) = 32 ∧ ((c.toNat : Int) == 32) = true ∧ isBlank c = true) ∨ ((c.toNat : Int) = 9 ∧ (((c.toNat : Int) == 32) = false ∧ ((c.toNat : Int) == 9) = true) ∧ isBlank c = true) ∨ (((c.toNat : Int) ≠ 32 ∧ (c.toNat : Int) ≠ 9) ∧ (((c.toNat : Int) == 32) = false ∧ ((c.toNat : Int) == 9) = false) ∧ isBlank c = false)) (by decide +kernel) c
theorem nonempty_two (t : ByteArray) (h : 0 < t.size) : ¬ t.toList = [] ∧ (!t.toList.isEmpty) = true := by
  have : t.toList ≠ [] := fun h0 => by
    rw [toList_data] at h0
    have h2 : t.data.toList.length = t.size := by simp
    rw [h0] at h2
    simp at h2
    omega
  exact ⟨this, by simpa using this⟩
theorem blank_fun : (fun c => [32, 9].contains c) = isBlank := funext isBlank_in
theorem bare_cons (c : UInt8) (l : List UInt8) (h : isBlank c = true) : bareB (c :: l) = bareB l := by
  unfold bareB Lib.trimS Lib.trimLeftS Lib.trimRightS
  rw [blank_fun, List.reverse_cons, List.dropWhile_append]
  split
  · rename_i h1
    have h2 : List.dropWhile isBlank l.reverse = [] := by simpa using h1
    rw [h2]
    simp [h]
  · rw [List.reverse_append]
    simp [h]
theorem bare_snoc (c : UInt8) (l : List UInt8) (h : isBlank c = true) : bareB (l ++ [c]) = bareB l := by
  unfold bareB Lib.trimS Lib.trimLeftS Lib.trimRightS
  rw [blank_fun, List.reverse_append]
  simp [h]
theorem dropWhile_head (p : UInt8 → Bool) (l : List UInt8) (h : ∀ c, l.head? = some c → p c = false) : l.dropWhile p = l := by
  cases l with
  | nil => rfl
  | cons c l => rw [List.dropWhile_cons, h c rfl]; rfl
theorem bare_done (l : List UInt8) (h1 : ∀ c, l.head? = some c → isBlank c = false) (h2 : ∀ c, l.getLast? = some c → isBlank c = false) : bareB l = l := by
  unfold bareB Lib.trimS Lib.trimLeftS Lib.trimRightS
  rw [blank_fun, dropWhile_head _ l.reverse (fun c hc => h2 c (by rwa [List.head?_reverse] at hc)), List.reverse_reverse, dropWhile_head _ l h1]
theorem cut_first (t : ByteArray) (h : 0 < t.size) : t.data.toList = t[0] :: (t.extract 1 t.size).data.toList := by
  rw [Lib.extract_data, List.take_of_length_le (by simp)]
  have := List.drop_eq_getElem_cons (l := t.data.toList) (i := 0) (by simpa using h)
  rw [List.drop_zero] at this
  rw [this]
  rfl
theorem cut_last (t : ByteArray) (h : 0 < t.size) : t.data.toList = (t.extract 0 (t.size - 1)).data.toList ++ [t[t.size - 1]] := by
  rw [Lib.extract_data, List.drop_zero, Nat.sub_zero]
  have h1 : t.size - 1 < t.data.toList.length := by simpa using (by omega : t.size - 1 < t.size)
  have h2 := List.take_succ_eq_append_getElem h1
  rw [List.take_of_length_le (by simp; omega)] at h2
  exact h2
theorem bare_cut_first (t s : ByteArray) (h : 0 < t.size) (hb : isBlank t[0] = true) (hs : bareB t.data.toList = bareB s.data.toList) : bareB (t.extract 1 t.size).data.toList = bareB s.data.toList := by
  rw [← hs, cut_first t h, bare_cons _ _ hb]
theorem bare_cut_last (t s : ByteArray) (h : 0 < t.size) (hb : isBlank t[t.size - 1] = true) (hs : bareB t.data.toList = bareB s.data.toList) : bareB (t.extract 0 (t.size - 1)).data.toList = bareB s.data.toList := by
  rw [← hs, cut_last t h, bare_snoc _ _ hb]
theorem head_cut_last (t : ByteArray) (h : ∀ c, t.data.toList.head? = some c → isBlank c = false) : ∀ c, (t.extract 0 (t.size - 1)).data.toList.head? = some c → isBlank c = false := by
  intro c hc
  rw [Lib.extract_data, List.drop_zero] at hc
  refine h c ?_
  cases hl : t.data.toList with
  | nil => rw [hl] at hc; simp at hc
  | cons a l =>
    rw [hl] at hc
    cases hn : t.size - 1 - 0 with
    | zero => rw [hn] at hc; simp at hc
    | succ n => rw [hn] at hc; simpa using hc
theorem last_at (t : ByteArray) (h : t.size - 1 < t.size) : t.data.toList.getLast? = some t[t.size - 1] := by
  have h1 : t.size - 1 < t.data.toList.length := by simpa using h
  rw [List.getLast?_eq_getElem?, show t.data.toList.length - 1 = t.size - 1 by simp, List.getElem?_eq_getElem h1]
  rfl
theorem mk_list (t : ByteArray) {l : List UInt8} (h : l = t.data.toList) : (⟨l.toArray⟩ : ByteArray) = t := by
  subst h
  rfl
theorem bare_end (t s : ByteArray) (h1 : ∀ c, t.data.toList.head? = some c → isBlank c = false) (h2 : ∀ c, t.data.toList.getLast? = some c → isBlank c = false) (h : bareB t.data.toList = bareB s.data.toList) : t = ⟨(bareB s.data.toList).toArray⟩ := by
  rw [← h, bare_done _ h1 h2]
theorem empty_of (t : ByteArray) (h : ¬ 0 < t.size) : t.toList = [] ∧ t.data.toList = [] := by
  have h1 : t.data.toList.length = t.size := by simp
  have h2 : t.data.toList = [] := List.eq_nil_of_length_eq_zero (by omega)
  exact ⟨by rw [toList_data, h2], h2⟩
theorem digit_one (n : Nat) (h : n < 10) : (⟨#[48, 49, 50, 51, 52, 53, 54, 55, 56, 57]⟩ : ByteArray).extract n (n + 1) = ⟨(Lib.itoa (n : Int)).toArray⟩ := by
  have h1 : Lib.itoa (n : Int) = [UInt8.ofNat (48 + n)] := by
    unfold Lib.itoa
    rw [if_neg (by omega), Int.toNat_natCast, Lib.decDigits, dif_pos h]
  rw [h1]
  have : ∀ j : Fin 10, (⟨#[48, 49, 50, 51, 52, 53, 54, 55, 56, 57]⟩ : ByteArray).extract j.val (j.val + 1) = ⟨[UInt8.ofNat (48 + j.val)].toArray⟩ := by decide
  exact this ⟨n, h⟩
theorem digit_more (n : Nat) (h : ¬ n < 10) : Lib.itoa ((n / 10 : Nat) : Int) ++ Lib.itoa ((n % 10 : Nat) : Int) = Lib.itoa (n : Int) := by
  unfold Lib.itoa
  rw [if_neg (by omega), if_neg (by omega), if_neg (by omega), Int.toNat_natCast, Int.toNat_natCast, Int.toNat_natCast, Lib.decDigits.eq_def n, dif_neg h, Lib.decDigits.eq_def (n % 10), dif_pos (Nat.mod_lt _ (by omega))]
theorem digit_int (x : Int) (h0 : 0 ≤ x) (h : x < 10) : (⟨#[48, 49, 50, 51, 52, 53, 54, 55, 56, 57]⟩ : ByteArray).extract x.toNat (x + 1).toNat = ⟨(Lib.itoa x).toArray⟩ := by
  obtain ⟨n, rfl⟩ := Int.eq_ofNat_of_zero_le h0
  rw [show ((n : Int) + 1).toNat = n + 1 by omega]
  exact digit_one n (by omega)
theorem more_int (x : Int) (h0 : 0 ≤ x) (h : ¬ x < 10) : Lib.itoa (x / 10) ++ Lib.itoa (x % 10) = Lib.itoa x := by
  obtain ⟨n, rfl⟩ := Int.eq_ofNat_of_zero_le h0
  rw [← digit_more n (by omega)]
  rfl
theorem cat_mk (a b : List UInt8) : (⟨a.toArray⟩ : ByteArray) ++ ⟨b.toArray⟩ = ⟨(a ++ b).toArray⟩ := by
  apply ByteArray.ext
  simp [ByteArray.data_append]
theorem dec_len (n : Nat) : (Lib.decDigits n).length ≤ n + 1 := by
  induction n using Nat.strongRecOn with
  | _ n ih =>
    rw [Lib.decDigits]
    split
    · simp
    · rw [List.length_append]
      have := ih (n / 10) (by omega)
      simp
      omega
theorem itoa_len (x : Int) (h0 : 0 ≤ x) : ((Lib.itoa x).length : Int) ≤ x + 1 := by
  unfold Lib.itoa
  rw [if_neg (by omega)]
  have := dec_len x.toNat
  omega
end Go.Proofs.YtnicmdlicbnlgaaGreatDoor
