/-
  Reading, in plain words: a line, the first line, a header, a chunk's number, one step, one request.
-/
import Derived.Test.YtnicmdlicbnlgaaGreatDoorHd
namespace Go.Proofs.YtnicmdlicbnlgaaGreatDoor
set_option linter.unusedVariables false

/-! ### lines -/
/-- The line up to 13 and 10, and what comes behind; none: its end is not there. -/
def lineP : List UInt8 → Option (List UInt8 × List UInt8)
  | [] => none
  | [_] => none
  | c :: d :: r => if c = 13 ∧ d = 10 then some ([], r) else (lineP (d :: r)).map fun x => (c :: x.1, x.2)
/-- How many bytes of a line are there, while its end is not. -/
def thereP (b : List UInt8) : Nat := if b.getLast? = some 13 then b.length - 1 else b.length

inductive Ln where
  | wait
  | bad
  | got (s r : List UInt8)
def lineAt (limit : Nat) (b : List UInt8) : Ln :=
  match lineP b with
  | none => if limit < thereP b then .bad else .wait
  | some (s, r) => if limit < s.length then .bad else .got s r

theorem lineP_append {b s r : List UInt8} (c : List UInt8) (h : lineP b = some (s, r)) : lineP (b ++ c) = some (s, r ++ c) := by
  induction b using lineP.induct generalizing s r with
  | case1 => simp [lineP] at h
  | case2 => simp [lineP] at h
  | case3 x d t hx =>
    simp only [lineP, hx, and_self, if_true, Option.some.injEq, Prod.mk.injEq] at h
    obtain ⟨rfl, rfl⟩ := h
    simp [lineP, hx]
  | case4 x d t hx ih =>
    simp only [lineP, hx, if_false] at h
    obtain ⟨⟨s', r'⟩, h1, h2⟩ := Option.map_eq_some_iff.1 h
    simp only [Prod.mk.injEq] at h2
    obtain ⟨rfl, rfl⟩ := h2
    have := ih h1
    simp only [List.cons_append] at this ⊢
    simp only [lineP, hx, if_false, this, Option.map_some]
theorem lineP_len {b s r : List UInt8} (h : lineP b = some (s, r)) : b = s ++ [13, 10] ++ r := by
  induction b using lineP.induct generalizing s r with
  | case1 => simp [lineP] at h
  | case2 => simp [lineP] at h
  | case3 x d t hx =>
    simp only [lineP, hx, and_self, if_true, Option.some.injEq, Prod.mk.injEq] at h
    obtain ⟨rfl, rfl⟩ := h
    simp [hx]
  | case4 x d t hx ih =>
    simp only [lineP, hx, if_false] at h
    obtain ⟨⟨s', r'⟩, h1, h2⟩ := Option.map_eq_some_iff.1 h
    simp only [Prod.mk.injEq] at h2
    obtain ⟨rfl, rfl⟩ := h2
    rw [ih h1]
    simp
/-- A line that more bytes end is not shorter than what was there. -/
theorem lineP_none {b s r : List UInt8} (c : List UInt8) (h : lineP b = none) (h2 : lineP (b ++ c) = some (s, r)) : thereP b ≤ s.length := by
  induction b using lineP.induct generalizing s r with
  | case1 => simp [thereP]
  | case2 x =>
    by_cases hx : x = 13
    · simp [thereP, hx]
    · cases c with
      | nil => simp [lineP] at h2
      | cons d c =>
        simp only [List.cons_append, List.nil_append, lineP, hx, false_and, if_false] at h2
        obtain ⟨⟨s', r'⟩, h1, h3⟩ := Option.map_eq_some_iff.1 h2
        simp only [Prod.mk.injEq] at h3
        obtain ⟨rfl, rfl⟩ := h3
        simp [thereP]
        split <;> omega
  | case3 x d t hx => simp [lineP, hx] at h
  | case4 x d t hx ih =>
    simp only [lineP, hx, if_false, Option.map_eq_none_iff] at h
    simp only [List.cons_append, lineP, hx, if_false] at h2
    obtain ⟨⟨s', r'⟩, h1, h3⟩ := Option.map_eq_some_iff.1 h2
    simp only [Prod.mk.injEq] at h3
    obtain ⟨rfl, rfl⟩ := h3
    have := ih h (by simpa using h1)
    simp only [thereP, List.getLast?_cons_cons, List.length_cons] at this ⊢
    by_cases hg : (d :: t).getLast? = some 13
    · rw [if_pos hg] at this ⊢
      omega
    · rw [if_neg hg] at this ⊢
      omega
theorem there_mono (b c : List UInt8) (h : lineP (b ++ c) = none) : thereP b ≤ thereP (b ++ c) := by
  cases c with
  | nil => simp
  | cons d c =>
    have e : (b ++ d :: c).length = b.length + c.length + 1 := by simp; omega
    have h1 : thereP b ≤ b.length := by unfold thereP; split <;> omega
    have h2 : b.length + c.length ≤ thereP (b ++ d :: c) := by unfold thereP; split <;> omega
    omega
theorem lineAt_got {n : Nat} {b s r : List UInt8} (c : List UInt8) (h : lineAt n b = .got s r) : lineAt n (b ++ c) = .got s (r ++ c) := by
  unfold lineAt at h ⊢
  cases hl : lineP b with
  | none => simp only [hl] at h; split at h <;> cases h
  | some x =>
    obtain ⟨s', r'⟩ := x
    simp only [hl] at h
    rw [lineP_append c hl]
    simp only
    split at h
    · cases h
    · cases h
      rename_i hn
      rw [if_neg hn]
theorem lineAt_bad {n : Nat} {b : List UInt8} (c : List UInt8) (h : lineAt n b = .bad) : lineAt n (b ++ c) = .bad := by
  unfold lineAt at h ⊢
  cases hl : lineP b with
  | none =>
    simp only [hl] at h
    split at h
    · rename_i hn
      cases hl2 : lineP (b ++ c) with
      | none =>
        have := there_mono b c hl2
        simp only
        rw [if_pos (by omega)]
      | some x =>
        obtain ⟨s', r'⟩ := x
        have := lineP_none c hl hl2
        simp only
        rw [if_pos (by omega)]
    · cases h
  | some x =>
    obtain ⟨s', r'⟩ := x
    simp only [hl] at h
    rw [lineP_append c hl]
    simp only
    split at h
    · rename_i hn
      rw [if_pos hn]
    · cases h
theorem lineAt_len {n : Nat} {b s r : List UInt8} (h : lineAt n b = .got s r) : b = s ++ [13, 10] ++ r ∧ s.length ≤ n := by
  unfold lineAt at h
  cases hl : lineP b with
  | none => simp only [hl] at h; split at h <;> cases h
  | some x =>
    obtain ⟨s', r'⟩ := x
    simp only [hl] at h
    split at h
    · cases h
    · cases h
      exact ⟨lineP_len hl, by omega⟩

/-! ### what a line says -/
/-- Up to the first byte of a kind, and what comes behind it. -/
def cutP (c : UInt8) : List UInt8 → Option (List UInt8 × List UInt8)
  | [] => none
  | x :: r => if x = c then some ([], r) else (cutP c r).map fun y => (x :: y.1, y.2)
/-- The first line's method and path. -/
def firstLn (s : List UInt8) : Option (List UInt8 × List UInt8) :=
  if cHttp.isSuffixOf s then
    match cutP 32 (s.take (s.length - 9)) with
    | some (m, p) => if methodB m && pathB p then some (m, p) else none
    | none => none
  else none
/-- A header's name, made small, and its bare value. -/
def headLn (s : List UInt8) : Option (List UInt8 × List UInt8) :=
  match cutP 58 s with
  | some (n, v) => if tokenB n && valueB v then some (smallB n, bareB v) else none
  | none => none
def isDig (c : UInt8) : Bool := 48 ≤ c && c ≤ 57
/-- From 1 to 7 digits. -/
def numP (s : List UInt8) : Int :=
  if s.isEmpty || decide (7 < s.length) || !s.all isDig then -1 else s.foldl (fun n c => 10 * n + ((c.toNat : Int) - 48)) 0
def hexVal (c : UInt8) : Option Int :=
  if 48 ≤ c && c ≤ 57 then some ((c.toNat : Int) - 48) else if 97 ≤ c && c ≤ 102 then some ((c.toNat : Int) - 87) else none
/-- From 1 to 6 digits in sixteens. -/
def hexP (s : List UInt8) : Int :=
  if s.isEmpty || decide (6 < s.length) || !(smallB s).all (fun c => (hexVal c).isSome) then -1 else (smallB s).foldl (fun n c => 16 * n + (hexVal c).getD 0) 0

/-! ### the reader's steps -/
structure RS where
  state : Nat
  m : ByteArray
  p : ByteArray
  hs : List Hd
  close : Bool
  many : Nat
  left : Nat
  long : Int
  chunks : Bool
  body : List UInt8
def RS.init : RS := ⟨0, ⟨#[]⟩, ⟨#[]⟩, [], false, 0, 1024, -1, false, []⟩
/-- A request. -/
structure Rq where
  m : ByteArray
  p : ByteArray
  hs : List Hd
  body : ByteArray
  close : Bool
def RS.rq (s : RS) : Rq := ⟨s.m, s.p, s.hs, ⟨s.body.toArray⟩, s.close⟩

inductive Out where
  | wait
  | fail (e : Int)
  | on (s : RS) (r : List UInt8)
  | whole (q : Rq) (r : List UInt8)

def cChunked : List UInt8 := [99, 104, 117, 110, 107, 101, 100]
def cClose : List UInt8 := [99, 108, 111, 115, 101]
/-- Behind the empty line. -/
def headedP (s : RS) (r : List UInt8) : Out :=
  if s.chunks && decide (0 ≤ s.long) then .fail 280
  else if 8192 < s.long then .fail 281
  else if s.chunks then .on { s with state := 3 } r
  else .on { s with state := 2 } r
/-- A header. -/
def headP (s : RS) (l r : List UInt8) : Out :=
  match headLn l with
  | none => .fail 280
  | some (n, v) =>
    let t := { s with many := s.many + 1, left := s.left - l.length }
    if n = cLen then (if decide (0 ≤ s.long) || decide (numP v < 0) then .fail 280 else .on { t with long := numP v } r)
    else if n = cEnc then (if s.chunks || !(smallB v == cChunked) then .fail 280 else .on { t with chunks := true } r)
    else if n = cCon then .on { t with close := s.close || (smallB v == cClose) } r
    else .on { t with hs := s.hs ++ [⟨⟨n.toArray⟩, ⟨v.toArray⟩⟩] } r
/-- 13 and 10. -/
def endAt : List UInt8 → Ln
  | [] => .wait
  | c :: r => if c = 13 then (match r with
      | [] => .wait
      | d :: r => if d = 10 then .got [] r else .bad) else .bad
/-- Is it plain, ahead of a line, that there are too many headers? -/
def manyBad (s : RS) (b : List UInt8) : Bool :=
  s.many == 32 && (match b with
    | [] => false
    | [c] => c != 13
    | c :: d :: _ => c != 13 || d != 10)
def stepP (s : RS) (b : List UInt8) : Out :=
  match s.state with
  | 0 => match lineAt 512 b with
    | .wait => .wait
    | .bad => .fail 282
    | .got l r => match firstLn l with
      | none => .fail 280
      | some (m, p) => .on { s with state := 1, m := ⟨m.toArray⟩, p := ⟨p.toArray⟩ } r
  | 1 => if manyBad s b then .fail 282 else match lineAt s.left b with
    | .wait => .wait
    | .bad => .fail 282
    | .got l r => if l = [] then headedP s r else headP s l r
  | 2 => if b.length < s.long.toNat then .wait else .whole { s with body := s.body ++ b.take s.long.toNat }.rq (b.drop s.long.toNat)
  | 3 => match lineAt 6 b with
    | .wait => .wait
    | .bad => .fail 280
    | .got l r => if hexP l < 0 then .fail 280 else if 8192 - (s.body.length : Int) < hexP l then .fail 281 else if hexP l = 0 then .on { s with state := 6 } r else .on { s with state := 4, long := hexP l } r
  | 4 => if b.length < s.long.toNat then .wait else .on { s with state := 5, body := s.body ++ b.take s.long.toNat } (b.drop s.long.toNat)
  | 5 => match endAt b with
    | .wait => .wait
    | .bad => .fail 280
    | .got _ r => .on { s with state := 3 } r
  | _ => match endAt b with
    | .wait => .wait
    | .bad => .fail 280
    | .got _ r => .whole s.rq r

/-! ### more bytes change nothing that has been told -/
def Out.more (c : List UInt8) : Out → Out
  | .wait => .wait
  | .fail e => .fail e
  | .on s r => .on s (r ++ c)
  | .whole q r => .whole q (r ++ c)
theorem headedP_more (s : RS) (r c : List UInt8) : headedP s (r ++ c) = (headedP s r).more c := by
  unfold headedP
  repeat' split
  all_goals rfl
theorem headP_more (s : RS) (l r c : List UInt8) : headP s l (r ++ c) = (headP s l r).more c := by
  unfold headP
  cases headLn l with
  | none => rfl
  | some x =>
    obtain ⟨n, v⟩ := x
    simp only
    repeat' split
    all_goals rfl
theorem manyBad_yes {s : RS} {b : List UInt8} (c : List UInt8) (h : manyBad s b = true) : manyBad s (b ++ c) = true := by
  unfold manyBad at h ⊢
  match b, c, h with
  | [], c, h => simp at h
  | [x], [], h => simpa using h
  | [x], d :: c, h =>
    simp only [Bool.and_eq_true] at h
    simp [h.1]
    simpa using Or.inl h.2
  | x :: y :: t, c, h => simpa using h
theorem manyBad_no {s : RS} {b : List UInt8} {n : Nat} (c : List UInt8) (h : manyBad s b = false) (hw : lineAt n b ≠ .wait) : manyBad s (b ++ c) = false := by
  unfold manyBad at h ⊢
  match b, h, hw with
  | [], h, hw => simp [lineAt, lineP, thereP] at hw
  | [x], h, hw =>
    by_cases hx : x = 13
    · simp [lineAt, lineP, thereP, hx] at hw
    · cases c <;> simp_all
  | x :: y :: t, h, hw => simpa using h
theorem endAt_more {b : List UInt8} (c : List UInt8) (h : endAt b ≠ .wait) : endAt (b ++ c) = (match endAt b with | .wait => .wait | .bad => .bad | .got s r => .got s (r ++ c)) := by
  match b, h with
  | [], h => simp [endAt] at h
  | [x], h =>
    by_cases hx : x = 13
    · simp [endAt, hx] at h
    · simp [endAt, hx]
  | x :: y :: t, h =>
    by_cases hx : x = 13
    · by_cases hy : y = 10
      · simp [endAt, hx, hy]
      · simp [endAt, hx, hy]
    · simp [endAt, hx]
theorem lineAt_more {n : Nat} {b : List UInt8} (c : List UInt8) (h : lineAt n b ≠ .wait) : lineAt n (b ++ c) = (match lineAt n b with | .wait => .wait | .bad => .bad | .got s r => .got s (r ++ c)) := by
  cases hl : lineAt n b with
  | wait => exact absurd hl h
  | bad => exact lineAt_bad c hl
  | got s r => exact lineAt_got c hl

theorem step_more (s : RS) (b c : List UInt8) (h : stepP s b ≠ .wait) : stepP s (b ++ c) = (stepP s b).more c := by
  unfold stepP at h ⊢
  rcases s with ⟨st, m, p, hs, cl, many, left, long, chunks, body⟩
  match st, h with
  | 0, h =>
    simp only at h ⊢
    cases hl : lineAt 512 b with
    | wait => simp [hl] at h
    | bad => rw [lineAt_bad c hl]; rfl
    | got l r =>
      rw [lineAt_got c hl]
      simp only
      cases firstLn l <;> rfl
  | 1, h =>
    simp only at h ⊢
    cases hm : manyBad ⟨1, m, p, hs, cl, many, left, long, chunks, body⟩ b with
    | true => rw [manyBad_yes c hm]; rfl
    | false =>
      simp only [hm, Bool.false_eq_true, if_false] at h ⊢
      have hw : lineAt left b ≠ .wait := fun e => by rw [e] at h; exact h rfl
      rw [manyBad_no c hm hw]
      simp only [Bool.false_eq_true, if_false]
      cases hl : lineAt left b with
      | wait => exact absurd hl hw
      | bad => rw [lineAt_bad c hl]; rfl
      | got l r =>
        rw [lineAt_got c hl]
        simp only
        split
        · exact headedP_more _ _ _
        · exact headP_more _ _ _ _
  | 2, h =>
    simp only at h ⊢
    split at h
    · exact absurd rfl h
    · rename_i hb
      rw [if_neg (by simp; omega), if_neg hb, List.take_append_of_le_length (by omega), List.drop_append_of_le_length (by omega)]
      rfl
  | 3, h =>
    simp only at h ⊢
    cases hl : lineAt 6 b with
    | wait => simp [hl] at h
    | bad => rw [lineAt_bad c hl]; rfl
    | got l r =>
      rw [lineAt_got c hl]
      simp only
      repeat' split
      all_goals rfl
  | 4, h =>
    simp only at h ⊢
    split at h
    · exact absurd rfl h
    · rename_i hb
      rw [if_neg (by simp; omega), if_neg hb, List.take_append_of_le_length (by omega), List.drop_append_of_le_length (by omega)]
      rfl
  | 5, h =>
    simp only at h ⊢
    have hw : endAt b ≠ .wait := fun e => by rw [e] at h; exact h rfl
    rw [endAt_more c hw]
    cases endAt b <;> rfl
  | n + 6, h =>
    simp only at h ⊢
    have hw : endAt b ≠ .wait := fun e => by rw [e] at h; exact h rfl
    rw [endAt_more c hw]
    cases endAt b <;> rfl

/-! ### one request -/
def RS.weight (s : RS) (b : List UInt8) : Nat := 2 * b.length + (if s.state = 4 then 1 else 0)
theorem endAt_len {b l r : List UInt8} (h : endAt b = .got l r) : b = [13, 10] ++ r := by
  match b, h with
  | [], h => simp [endAt] at h
  | [x], h => by_cases hx : x = 13 <;> simp [endAt, hx] at h
  | x :: y :: t, h =>
    by_cases hx : x = 13
    · by_cases hy : y = 10
      · simp [endAt, hx, hy] at h
        simp [hx, hy, h.2]
      · simp [endAt, hx, hy] at h
    · simp [endAt, hx] at h
theorem headedP_rest {s s' : RS} {r r' : List UInt8} (h : headedP s r = .on s' r') : r' = r := by
  unfold headedP at h
  repeat' split at h
  all_goals (first | (cases h; done) | (cases h; rfl))
theorem headP_rest {s s' : RS} {l r r' : List UInt8} (h : headP s l r = .on s' r') : r' = r := by
  unfold headP at h
  cases hl : headLn l with
  | none => simp [hl] at h
  | some x =>
    obtain ⟨n, v⟩ := x
    simp only [hl] at h
    repeat' split at h
    all_goals (first | (cases h; done) | (cases h; rfl))
theorem step_lt {s s' : RS} {b r : List UInt8} (h : stepP s b = .on s' r) : s'.weight r < s.weight b := by
  have w1 : s'.weight r ≤ 2 * r.length + 1 := by unfold RS.weight; split <;> omega
  have w2 : 2 * b.length ≤ s.weight b := by unfold RS.weight; omega
  have key : r.length + 1 ≤ b.length → s'.weight r < s.weight b := fun h => by omega
  unfold stepP at h
  match hs : s.state, h with
  | 0, h =>
    simp only at h
    cases hl : lineAt 512 b with
    | wait => simp [hl] at h
    | bad => simp [hl] at h
    | got l r1 =>
      simp only [hl] at h
      obtain ⟨e, _⟩ := lineAt_len hl
      cases hf : firstLn l with
      | none => simp [hf] at h
      | some x =>
        simp only [hf, Out.on.injEq] at h
        obtain ⟨_, rfl⟩ := h
        exact key (by rw [e]; simp; omega)
  | 1, h =>
    simp only at h
    split at h
    · cases h
    · cases hl : lineAt s.left b with
      | wait => simp [hl] at h
      | bad => simp [hl] at h
      | got l r1 =>
        simp only [hl] at h
        obtain ⟨e, _⟩ := lineAt_len hl
        have : r = r1 := by
          split at h
          · exact headedP_rest h
          · exact headP_rest h
        subst this
        exact key (by rw [e]; simp; omega)
  | 2, h =>
    simp only at h
    split at h <;> cases h
  | 3, h =>
    simp only at h
    cases hl : lineAt 6 b with
    | wait => simp [hl] at h
    | bad => simp [hl] at h
    | got l r1 =>
      simp only [hl] at h
      obtain ⟨e, _⟩ := lineAt_len hl
      have : r = r1 := by
        repeat' split at h
        all_goals (first | (cases h; done) | (cases h; rfl))
      subst this
      exact key (by rw [e]; simp; omega)
  | 4, h =>
    simp only at h
    split at h
    · cases h
    · cases h
      unfold RS.weight
      simp [hs]
      omega
  | 5, h =>
    simp only at h
    cases he : endAt b with
    | wait => simp [he] at h
    | bad => simp [he] at h
    | got l r1 =>
      simp only [he, Out.on.injEq] at h
      obtain ⟨_, rfl⟩ := h
      exact key (by rw [endAt_len he]; simp)
  | n + 6, h =>
    simp only at h
    cases he : endAt b <;> simp [he] at h

inductive Res where
  | wait (s : RS) (b : List UInt8)
  | refuse (e : Int)
  | done (q : Rq) (r : List UInt8)
/-- From a state on: one request, a refusal, or where it stands still. -/
def tellP (s : RS) (b : List UInt8) : Res :=
  match h : stepP s b with
  | .wait => .wait s b
  | .fail e => .refuse e
  | .whole q r => .done q r
  | .on s' r => tellP s' r
termination_by s.weight b
decreasing_by exact step_lt h
theorem tell_wait {s : RS} {b : List UInt8} (h : stepP s b = .wait) : tellP s b = .wait s b := by
  rw [tellP]; split <;> simp_all
theorem tell_fail {s : RS} {b : List UInt8} {e : Int} (h : stepP s b = .fail e) : tellP s b = .refuse e := by
  rw [tellP]; split <;> simp_all
theorem tell_whole {s : RS} {b : List UInt8} {q : Rq} {r : List UInt8} (h : stepP s b = .whole q r) : tellP s b = .done q r := by
  rw [tellP]; split <;> simp_all
theorem tell_on {s s' : RS} {b r : List UInt8} (h : stepP s b = .on s' r) : tellP s b = tellP s' r := by
  rw [tellP]; split <;> simp_all
def Res.more (c : List UInt8) : Res → Res
  | .wait s b => tellP s (b ++ c)
  | .refuse e => .refuse e
  | .done q r => .done q (r ++ c)
/-- THE LAW OF PIECES. -/
theorem tell_more (c : List UInt8) (s : RS) (b : List UInt8) : tellP s (b ++ c) = (tellP s b).more c := by
  induction s, b using tellP.induct with
  | case1 s b h => rw [tell_wait h]; rfl
  | case2 s b e h =>
    rw [tell_fail h, tell_fail (e := e) (by rw [step_more s b c (by rw [h]; simp), h]; rfl)]; rfl
  | case3 s b q r h =>
    rw [tell_whole h, tell_whole (q := q) (r := r ++ c) (by rw [step_more s b c (by rw [h]; simp), h]; rfl)]; rfl
  | case4 s b s' r h ih =>
    rw [tell_on h, tell_on (s' := s') (r := r ++ c) (by rw [step_more s b c (by rw [h]; simp), h]; rfl)]; exact ih
end Go.Proofs.YtnicmdlicbnlgaaGreatDoor
