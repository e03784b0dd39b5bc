/-
  Walks: the reference's first line and headers.
-/
import Derived.Test.YtnicmdlicbnlgaaGreatDoorRh
import Derived.Test.YtnicmdlicbnlgaaGreatDoorAm
namespace Go.Proofs.YtnicmdlicbnlgaaGreatDoor
open Go.RowKit
set_option linter.unusedVariables false
set_option linter.unusedSimpArgs false

def topCells (s : RS) (hv : Value) (k : Int) (e : Int) : Array Value := #[.string s.m, .string s.p, hv, .string ⟨#[]⟩, .bool s.close, .int .i64 s.long, .bool s.chunks, .int .i64 k, .int .i64 e]
def top0 : Array Value := #[.string ⟨#[]⟩, .string ⟨#[]⟩, .slice none 0 0, .string ⟨#[]⟩, .bool false, .int .i64 0, .bool false, .int .i64 0, .int .i64 0]
/-- What goes on behind a step. -/
def Out.go (s : RS) (b : List UInt8) : Out → Res
  | .wait => .wait s b
  | .fail e => .refuse e
  | .on s r => tellP s r
  | .whole q r => .done q r
theorem tell_go (s : RS) (b : List UInt8) : tellP s b = (stepP s b).go s b := by
  cases h : stepP s b with
  | wait => rw [tell_wait h]; rfl
  | fail e => rw [tell_fail h]; rfl
  | on s' r => rw [tell_on h]; rfl
  | whole q r => rw [tell_whole h]; rfl
/-- What 'heads' tells, by its error. -/
def HeadsTold (b : List UInt8) (k : Nat) (s : RS) (at' : Nat) (e : Int) : Prop :=
  (e = 0 ∧ at' ≤ b.length ∧ s.wf ∧ s.state = 1 ∧ s.body = [] ∧ tellP RS.init (b.drop k) = (headedP s (b.drop at')).go s (b.drop at')) ∨
  (e = -1 ∧ ∃ s' b', tellP RS.init (b.drop k) = .wait s' b') ∨
  (0 < e ∧ tellP RS.init (b.drop k) = .refuse e)
def HeadsPost (w : World) (b : ByteArray) (k : Nat) (en : Ending) (w' : World) : Prop :=
  ∃ (s : RS) (A : Option Addr) (n c : Nat) (at' : Nat) (e : Int), en = .returned (.agg (topCells s (.slice A n c) at' e)) ∧ HeadsTold b.data.toList k s at' e ∧
    (e = 0 → w'.ownsRow w.heap.size 88 2 (.slice A n c) s.hs.length (headCells s.hs)) ∧ Below w.heap.size w w'
theorem step0_wait {b : List UInt8} (h : lineAt 512 b = .wait) : tellP RS.init b = .wait RS.init b := tell_wait (by unfold stepP; simp only [RS.init, h])
theorem step0_bad {b : List UInt8} (h : lineAt 512 b = .bad) : tellP RS.init b = .refuse 282 := tell_fail (by unfold stepP; simp only [RS.init, h])
theorem step0_no {b l r : List UInt8} (h : lineAt 512 b = .got l r) (hf : firstLn l = none) : tellP RS.init b = .refuse 280 := tell_fail (by unfold stepP; simp only [RS.init, h, hf])
theorem step0_yes {b l r m p : List UInt8} (h : lineAt 512 b = .got l r) (hf : firstLn l = some (m, p)) : tellP RS.init b = tellP { RS.init with state := 1, m := ⟨m.toArray⟩, p := ⟨p.toArray⟩ } r := tell_on (by unfold stepP; simp only [RS.init, h, hf])
theorem line_start {b l r : List UInt8} (h : lineP b = some (l, r)) (hl : ¬ l = []) : ∃ c d t, b = c :: d :: t ∧ ¬ (c = 13 ∧ d = 10) := by
  match b, h with
  | [], h => cases h
  | [_], h => cases h
  | c :: d :: t, h =>
    refine ⟨c, d, t, rfl, fun hh => ?_⟩
    simp only [lineP, hh, and_self, if_true, Option.some.injEq, Prod.mk.injEq] at h
    exact hl h.1.symm
theorem line_none2 {c d : UInt8} {t : List UInt8} (h : lineP (c :: d :: t) = none) : ¬ (c = 13 ∧ d = 10) := fun hh => by
  simp [lineP, hh] at h
theorem step1_wait {s : RS} {b : List UInt8} (hst : s.state = 1) (h : lineAt s.left b = .wait) (hb : s.many = 32 → b = [] ∨ b = [13]) : stepP s b = .wait := by
  rw [step1 s b hst, if_neg]
  · rw [h]
  · unfold manyBad
    by_cases hm : s.many = 32
    · rcases hb hm with rfl | rfl <;> simp
    · simp [hm]
theorem step1_full {s : RS} {b : List UInt8} (hst : s.state = 1) (h : lineAt s.left b = .wait) (hm : s.many = 32) (hb : ¬ (b = [] ∨ b = [13])) : stepP s b = .fail 282 := by
  have hn : lineP b = none := by
    unfold lineAt at h
    cases hl : lineP b with
    | none => rfl
    | some x =>
      rw [hl] at h
      simp only at h
      split at h <;> cases h
  rw [step1 s b hst, if_pos]
  unfold manyBad
  match b, hb, hn with
  | [], hb, hn => exact absurd (.inl rfl) hb
  | [c], hb, hn => simp [hm]; rintro rfl; exact hb (.inr rfl)
  | c :: d :: t, hb, hn =>
    have := line_none2 hn
    simp [hm]
    exact Decidable.not_and_iff_or_not.1 this
theorem step1_bad {s : RS} {b : List UInt8} (hst : s.state = 1) (h : lineAt s.left b = .bad) : stepP s b = .fail 282 := by
  rw [step1 s b hst]
  split
  · rfl
  · rw [h]
theorem step1_end {s : RS} {b r : List UInt8} (hst : s.state = 1) (h : lineAt s.left b = .got [] r) : stepP s b = headedP s r := by
  have hb := (lineAt_len h).1
  rw [step1 s b hst, if_neg, h]
  · simp
  · rw [hb]; simp [manyBad]
theorem step1_many {s : RS} {b l r : List UInt8} (hst : s.state = 1) (h : lineAt s.left b = .got l r) (hl : ¬ l = []) (hm : s.many = 32) : stepP s b = .fail 282 := by
  have hn : lineP b = some (l, r) := by
    unfold lineAt at h
    cases hp : lineP b with
    | none => rw [hp] at h; simp only at h; split at h <;> cases h
    | some x =>
      rw [hp] at h
      simp only at h
      split at h
      · cases h
      · cases h; rfl
  obtain ⟨c, d, t, rfl, hh⟩ := line_start hn hl
  rw [step1 s _ hst, if_pos]
  simp [manyBad, hm]
  exact Decidable.not_and_iff_or_not.1 hh
theorem step1_head {s : RS} {b l r : List UInt8} (hst : s.state = 1) (h : lineAt s.left b = .got l r) (hl : ¬ l = []) (hm : ¬ s.many = 32) : stepP s b = headP s l r := by
  rw [step1 s b hst, if_neg, h]
  · simp [hl]
  · simp [manyBad, hm]
end Go.Proofs.YtnicmdlicbnlgaaGreatDoor
