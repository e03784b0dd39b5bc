/-
  Reading, in plain words: what the library tells of a line, of a cut, of digits; what stays true step by step; all requests.
-/
import Derived.Test.YtnicmdlicbnlgaaGreatDoorPo
import Derived.Lib.IndexMore
import Derived.Lib.IndexBytes
import Derived.Lib.ParseIntB
namespace Go.Proofs.YtnicmdlicbnlgaaGreatDoor
set_option linter.unusedVariables false

theorem index_line (b : List UInt8) : Lib.index b [13, 10] = match lineP b with | none => -1 | some (s, r) => (s.length : Int) := by
  induction b using lineP.induct with
  | case1 => rfl
  | case2 x => simp [Lib.index, lineP, List.isPrefixOf]
  | case3 x d t hx =>
    obtain ⟨rfl, rfl⟩ := hx
    simp [Lib.index, lineP, List.isPrefixOf]
  | case4 x d t hx ih =>
    have hp : List.isPrefixOf [13, 10] (x :: d :: t) = false := by
      simp only [List.isPrefixOf, Bool.and_true]
      rw [Bool.and_eq_false_iff]
      by_cases h1 : x = 13
      · right
        simp only [beq_eq_false_iff_ne]
        intro h2
        exact hx ⟨h1, h2.symm⟩
      · left
        simp only [beq_eq_false_iff_ne]
        exact fun h => h1 h.symm
    rw [Lib.index, hp, ih]
    simp only [lineP, hx, if_false]
    cases h : lineP (d :: t) with
    | none => simp
    | some y =>
      obtain ⟨s, r⟩ := y
      simp only [Option.map_some, List.length_cons]
      have : ((s.length : Int) == -1) = false := by simp
      rw [this]
      simp
theorem cut_spec (c : UInt8) (s : List UInt8) : (cutP c s = none ∧ Lib.indexByte s c = -1) ∨ ∃ a b, cutP c s = some (a, b) ∧ Lib.indexByte s c = (a.length : Int) ∧ s = a ++ c :: b := by
  induction s with
  | nil => exact .inl ⟨rfl, rfl⟩
  | cons x r ih =>
    by_cases hx : x = c
    · subst hx
      exact .inr ⟨[], r, by simp [cutP], by simp [Lib.indexByte], rfl⟩
    · rcases ih with ⟨h1, h2⟩ | ⟨a, b, h1, h2, h3⟩
      · exact .inl ⟨by simp [cutP, hx, h1], by simp [Lib.indexByte, hx, h2]⟩
      · refine .inr ⟨x :: a, b, by simp [cutP, hx, h1], ?_, by simp [h3]⟩
        simp [Lib.indexByte, hx, h2]
theorem cut_one (c : UInt8) (s : List UInt8) : Lib.cut s [c] = match cutP c s with | some (a, b) => (a, b, true) | none => (s, [], false) := by
  unfold Lib.cut
  rw [Lib.index_one]
  rcases cut_spec c s with ⟨h1, h2⟩ | ⟨a, b, h1, h2, h3⟩
  · rw [h1, h2]; simp
  · rw [h1, h2, if_pos (by omega)]
    simp only
    rw [h3]
    simp

/-! ### digits -/
def hexDig (c : UInt8) : Bool := bRange 48 57 [97, 98, 99, 100, 101, 102] c
theorem hexDig_val (c : UInt8) : hexDig c = (hexVal c).isSome := byte_all (fun c => hexDig c = (hexVal c).isSome) (by decide +kernel) c
theorem dig_low (c : UInt8) : isDig c = true → hexDig (lowB c) = true := byte_all (fun c => isDig c = true → hexDig (lowB c) = true) (by decide +kernel) c
theorem dig_128 (c : UInt8) : hexDig (lowB c) = true → c < 128 := byte_all (fun c => hexDig (lowB c) = true → c < 128) (by decide +kernel) c
/-- What is asked ahead of a number. -/
def digOk (most : Nat) (s : List UInt8) : Bool := !s.isEmpty && decide (s.length ≤ most) && amongB 48 57 [97, 98, 99, 100, 101, 102] (smallB s)
theorem dig_int (c : UInt8) (h : isDig c = true) : 48 ≤ c.toNat ∧ c.toNat ≤ 57 := by
  simp only [isDig, Bool.and_eq_true, decide_eq_true_eq, UInt8.le_iff_toNat_le] at h
  exact ⟨h.1, h.2⟩
theorem dig_not (c : UInt8) (h : isDig c = false) : ¬ (48 ≤ c.toNat ∧ c.toNat ≤ 57) := by
  intro hc
  have : isDig c = true := by
    simp only [isDig, Bool.and_eq_true, decide_eq_true_eq, UInt8.le_iff_toNat_le]
    exact hc
  rw [this] at h
  cases h
theorem hex_sign (c : UInt8) : hexDig (lowB c) = true → ¬ (c.toNat = 43 ∨ c.toNat = 45) := byte_all (fun c => hexDig (lowB c) = true → ¬ (c.toNat = 43 ∨ c.toNat = 45)) (by decide +kernel) c
theorem num_fold : ∀ (l : List UInt8) (acc : Nat), l.all isDig = true → (acc + 1) * 10 ^ l.length ≤ 10000000 →
    ∃ u : Nat, Lib.parseUintM (2 ^ 64 - 1) acc l = .ok u ∧ l.foldl (fun n c => 10 * n + ((c.toNat : Int) - 48)) (acc : Int) = (u : Int) ∧ u + 1 ≤ (acc + 1) * 10 ^ l.length
  | [], acc, _, h => ⟨acc, rfl, rfl, by simp⟩
  | c :: r, acc, ha, h => by
    simp only [List.all_cons, Bool.and_eq_true] at ha
    have hd := dig_int c ha.1
    have hp : 1 ≤ 10 ^ r.length := Nat.one_le_pow _ _ (by omega)
    have h10 : (acc + 1) * 10 ^ (r.length + 1) = (acc + 1) * 10 * 10 ^ r.length := by rw [Nat.pow_succ, Nat.mul_comm (10 ^ r.length) 10, ← Nat.mul_assoc]
    have hle : (acc * 10 + (c.toNat - 48) + 1) * 10 ^ r.length ≤ (acc + 1) * 10 * 10 ^ r.length := Nat.mul_le_mul_right _ (by omega)
    have hb : acc < 10000000 := by
      have : (acc + 1) * 1 ≤ (acc + 1) * 10 ^ (r.length + 1) := Nat.mul_le_mul_left _ (Nat.one_le_pow _ _ (by omega))
      simp only [List.length_cons] at h
      omega
    obtain ⟨u, h1, h2, h3⟩ := num_fold r (acc * 10 + (c.toNat - 48)) ha.2 (by simp only [List.length_cons] at h; omega)
    refine ⟨u, ?_, ?_, by simp only [List.length_cons]; omega⟩
    · rw [Lib.parseUintM, if_pos hd, if_neg (by omega), if_neg (by omega)]
      exact h1
    · rw [List.foldl_cons, ← h2]
      congr 1
      omega
theorem num_bad : ∀ (l : List UInt8) (acc : Nat), l.all isDig = false → (acc + 1) * 10 ^ l.length ≤ 10000000 → Lib.parseUintM (2 ^ 64 - 1) acc l = Lib.parseUintB 64 []
  | [], acc, ha, h => by simp at ha
  | c :: r, acc, ha, h => by
    rw [Lib.parseUintM]
    by_cases hc : isDig c = true
    · have hd := dig_int c hc
      simp only [List.all_cons, hc, Bool.true_and] at ha
      have h10 : (acc + 1) * 10 ^ (r.length + 1) = (acc + 1) * 10 * 10 ^ r.length := by rw [Nat.pow_succ, Nat.mul_comm (10 ^ r.length) 10, ← Nat.mul_assoc]
      have hle : (acc * 10 + (c.toNat - 48) + 1) * 10 ^ r.length ≤ (acc + 1) * 10 * 10 ^ r.length := Nat.mul_le_mul_right _ (by omega)
      have hb : acc < 10000000 := by
        have : (acc + 1) * 1 ≤ (acc + 1) * 10 ^ (r.length + 1) := Nat.mul_le_mul_left _ (Nat.one_le_pow _ _ (by omega))
        simp only [List.length_cons] at h
        omega
      rw [if_pos hd, if_neg (by omega), if_neg (by omega)]
      exact num_bad r _ ha (by simp only [List.length_cons] at h; omega)
    · have hc' : isDig c = false := by simpa using hc
      rw [if_neg (dig_not c hc')]
      rfl
/-- A number in tens: what the library tells of it. -/
theorem num_lib (s : List UInt8) (h : digOk 7 s = true) : (0 ≤ numP s ∧ numP s ≤ 9999999 ∧ Lib.parseIntB 64 s = .ok (numP s)) ∨ (numP s = -1 ∧ Lib.parseIntB 64 s = Lib.parseIntB 64 []) := by
  unfold digOk at h
  simp only [Bool.and_eq_true, Bool.not_eq_true', decide_eq_true_eq] at h
  obtain ⟨⟨h1, h2⟩, h3⟩ := h
  match s, h1 with
  | c :: r, _ =>
    have hs : ¬ (c.toNat = 43 ∨ c.toNat = 45) := by
      refine hex_sign c ?_
      unfold amongB smallB at h3
      simp only [List.map_cons, List.all_cons, Bool.and_eq_true] at h3
      exact h3.1
    have hpow : 10 ^ (c :: r).length ≤ 10000000 := by
      have : 10 ^ (c :: r).length ≤ 10 ^ 7 := Nat.pow_le_pow_right (by omega) h2
      omega
    have e : Lib.parseUintB 64 (c :: r) = Lib.parseUintM (2 ^ 64 - 1) 0 (c :: r) := by unfold Lib.parseUintB; rw [if_neg (by simp)]
    unfold Lib.parseIntB
    simp only [hs, if_false, e]
    have hn45 : ¬ c.toNat = 45 := fun h => hs (.inr h)
    cases ha : (c :: r).all isDig with
    | true =>
      obtain ⟨u, p1, p2, p3⟩ := num_fold (c :: r) 0 ha (by omega)
      have hn : numP (c :: r) = (u : Int) := by
        unfold numP
        have hl : decide (7 < (c :: r).length) = false := by simpa using h2
        rw [ha, hl]
        simpa using p2
      left
      rw [p1, hn]
      refine ⟨by omega, by omega, ?_⟩
      have : ¬ 2 ^ (64 - 1) ≤ u := by omega
      simp only [hn45, not_false_eq_true, true_and, false_and, if_false]
      rw [if_neg this]
    | false =>
      right
      refine ⟨by unfold numP; rw [ha]; simp, ?_⟩
      rw [num_bad (c :: r) 0 ha (by omega)]
      rfl
theorem num_not (s : List UInt8) (h : digOk 7 s = false) : numP s = -1 := by
  unfold numP
  rw [if_pos]
  simp only [Bool.or_eq_true, decide_eq_true_eq, Bool.not_eq_true']
  unfold digOk at h
  rw [Bool.and_eq_false_iff, Bool.and_eq_false_iff] at h
  rcases h with (h | h) | h
  · exact .inl (.inl (by simpa using h))
  · exact .inl (.inr (by simpa using h))
  · right
    rw [List.all_eq_false]
    unfold amongB smallB at h
    rw [List.all_map, List.all_eq_false] at h
    obtain ⟨x, h1, h2⟩ := h
    refine ⟨x, h1, fun h3 => h2 ?_⟩
    exact dig_low x h3
theorem hex_not (s : List UInt8) (h : digOk 6 s = false) : hexP s = -1 := by
  unfold hexP
  rw [if_pos]
  simp only [Bool.or_eq_true, decide_eq_true_eq, Bool.not_eq_true']
  unfold digOk at h
  rw [Bool.and_eq_false_iff, Bool.and_eq_false_iff] at h
  rcases h with (h | h) | h
  · exact .inl (.inl (by simpa using h))
  · exact .inl (.inr (by simpa using h))
  · right
    rw [← h]
    unfold amongB
    congr 1
    funext c
    exact (hexDig_val c).symm
theorem dig_ascii (s : List UInt8) (h : amongB 48 57 [97, 98, 99, 100, 101, 102] (smallB s) = true) : s.all (· < 128) = true := by
  unfold amongB smallB at h
  rw [List.all_map] at h
  exact List.all_eq_true.2 fun x hx => by simpa using dig_128 x (List.all_eq_true.1 h x hx)
/-- A digit in sixteens. -/
theorem hex_cases (c : UInt8) : hexDig (lowB c) = true → (48 ≤ c.toNat ∧ c.toNat ≤ 57 ∧ (hexVal (lowB c)).getD 0 = (c.toNat : Int) - 48) ∨ (65 ≤ c.toNat ∧ c.toNat ≤ 70 ∧ (hexVal (lowB c)).getD 0 = (c.toNat : Int) - 55) ∨ (97 ≤ c.toNat ∧ c.toNat ≤ 102 ∧ (hexVal (lowB c)).getD 0 = (c.toNat : Int) - 87) :=
  byte_all (fun c => hexDig (lowB c) = true → (48 ≤ c.toNat ∧ c.toNat ≤ 57 ∧ (hexVal (lowB c)).getD 0 = (c.toNat : Int) - 48) ∨ (65 ≤ c.toNat ∧ c.toNat ≤ 70 ∧ (hexVal (lowB c)).getD 0 = (c.toNat : Int) - 55) ∨ (97 ≤ c.toNat ∧ c.toNat ≤ 102 ∧ (hexVal (lowB c)).getD 0 = (c.toNat : Int) - 87)) (by decide +kernel) c
def hexTo (l : List UInt8) : Int := l.foldl (fun n c => 16 * n + (hexVal (lowB c)).getD 0) 0
theorem hexTo_snoc (l : List UInt8) (c : UInt8) : hexTo (l ++ [c]) = 16 * hexTo l + (hexVal (lowB c)).getD 0 := by unfold hexTo; rw [List.foldl_append]; rfl
theorem hex_yes (s : List UInt8) (h : digOk 6 s = true) : hexP s = hexTo s := by
  unfold digOk at h
  simp only [Bool.and_eq_true, Bool.not_eq_true', decide_eq_true_eq] at h
  obtain ⟨⟨h1, h2⟩, h3⟩ := h
  unfold hexP
  rw [if_neg]
  · unfold hexTo smallB
    rw [List.foldl_map]
  · simp only [Bool.or_eq_true, decide_eq_true_eq, Bool.not_eq_true', h1, Bool.false_eq_true, false_or, not_or, Bool.not_eq_false]
    refine ⟨by omega, ?_⟩
    rw [← h3]
    unfold amongB
    congr 1
    funext c
    exact (hexDig_val c).symm
theorem hexTo_bound (l : List UInt8) (h : amongB 48 57 [97, 98, 99, 100, 101, 102] (smallB l) = true) : 0 ≤ hexTo l ∧ hexTo l + 1 ≤ 16 ^ l.length := by
  rw [← List.reverse_reverse l] at h ⊢
  generalize l.reverse = m at h
  induction m with
  | nil => exact ⟨Int.le_refl _, by decide⟩
  | cons c r ih =>
    have e : amongB 48 57 [97, 98, 99, 100, 101, 102] (smallB r.reverse) = true ∧ hexDig (lowB c) = true := by
      unfold amongB smallB at h ⊢
      simp only [List.reverse_cons, List.map_append, List.all_append, Bool.and_eq_true] at h
      refine ⟨h.1, ?_⟩
      have := h.2
      simp only [List.map_cons, List.map_nil, List.all_cons, List.all_nil, Bool.and_true] at this
      exact this
    obtain ⟨i1, i2⟩ := ih e.1
    rw [List.reverse_cons, hexTo_snoc, List.length_append, List.length_singleton, Int.pow_succ]
    have := hex_cases c e.2
    omega
/-! ### what stays true -/
structure RS.wf (s : RS) : Prop where
  state : s.state ≤ 6
  many : s.many ≤ 32
  left : s.left ≤ 1024
  low : -1 ≤ s.long
  high : s.long ≤ 9999999
  heads : s.hs.length ≤ s.many
  bare : s.state ≤ 2 → s.body = []
  body : s.body.length ≤ 8192
  two : s.state = 2 → s.long ≤ 8192
  four : s.state = 4 → 0 ≤ s.long ∧ s.long + s.body.length ≤ 8192
theorem wf_init : RS.init.wf := ⟨by decide, by decide, by decide, by decide, by decide, by decide, fun _ => rfl, by decide, by decide, by decide⟩
theorem num_high (s : List UInt8) : numP s ≤ 9999999 := by
  cases h : digOk 7 s with
  | false => rw [num_not s h]; decide
  | true => rcases num_lib s h with ⟨_, h, _⟩ | ⟨h, _⟩ <;> omega
theorem headedP_wf {s s' : RS} {r r' : List UInt8} (h : s.wf) (h1 : s.state = 1) (e : headedP s r = .on s' r') : s'.wf := by
  have hb := h.bare (by omega)
  unfold headedP at e
  split at e
  · cases e
  · split at e
    · cases e
    · rename_i h2
      split at e
      · cases e
        exact ⟨(by decide : 3 ≤ 6), h.many, h.left, h.low, h.high, h.heads, fun hh => hb, h.body, (fun hh => by cases hh), (fun hh => by cases hh)⟩
      · cases e
        exact ⟨(by decide : 2 ≤ 6), h.many, h.left, h.low, h.high, h.heads, fun hh => hb, h.body, fun hh => by show s.long ≤ 8192; omega, (fun hh => by cases hh)⟩
theorem headP_wf {s s' : RS} {l r r' : List UInt8} (h : s.wf) (h1 : s.state = 1) (hm : s.many < 32) (e : headP s l r = .on s' r') : s'.wf ∧ s'.state = 1 := by
  have hb := h.bare (by omega)
  have hl := h.left
  have hh := h.heads
  have hlow := h.low
  have hhigh := h.high
  unfold headP at e
  cases hx : headLn l with
  | none => rw [hx] at e; cases e
  | some x =>
    obtain ⟨n, v⟩ := x
    have hnum := num_high v
    rw [hx] at e
    simp only at e
    split at e
    · split at e
      · cases e
      · rename_i h2
        simp only [Bool.or_eq_true, decide_eq_true_eq, not_or] at h2
        cases e
        exact ⟨⟨by show s.state ≤ 6; omega, by show s.many + 1 ≤ 32; omega, by show s.left - l.length ≤ 1024; omega, by show -1 ≤ numP v; omega, hnum, by show s.hs.length ≤ s.many + 1; omega, fun _ => hb, h.body, fun (hh : s.state = 2) => by omega, fun (hh : s.state = 4) => by omega⟩, h1⟩
    · split at e
      · split at e
        · cases e
        · cases e
          exact ⟨⟨by show s.state ≤ 6; omega, by show s.many + 1 ≤ 32; omega, by show s.left - l.length ≤ 1024; omega, hlow, hhigh, by show s.hs.length ≤ s.many + 1; omega, fun _ => hb, h.body, fun (hh : s.state = 2) => by omega, fun (hh : s.state = 4) => by omega⟩, h1⟩
      · split at e
        · cases e
          exact ⟨⟨by show s.state ≤ 6; omega, by show s.many + 1 ≤ 32; omega, by show s.left - l.length ≤ 1024; omega, hlow, hhigh, by show s.hs.length ≤ s.many + 1; omega, fun _ => hb, h.body, fun (hh : s.state = 2) => by omega, fun (hh : s.state = 4) => by omega⟩, h1⟩
        · cases e
          exact ⟨⟨by show s.state ≤ 6; omega, by show s.many + 1 ≤ 32; omega, by show s.left - l.length ≤ 1024; omega, hlow, hhigh, by show (s.hs ++ [_]).length ≤ s.many + 1; simp; omega, fun _ => hb, h.body, fun (hh : s.state = 2) => by omega, fun (hh : s.state = 4) => by omega⟩, h1⟩
theorem many_lt {s : RS} {b l r : List UInt8} {n : Nat} (h : s.many ≤ 32) (hm : manyBad s b = false) (hl : lineAt n b = .got l r) (hne : l ≠ []) : s.many < 32 := by
  rcases Nat.lt_or_ge s.many 32 with h1 | h1
  · exact h1
  · exfalso
    have e : s.many = 32 := by omega
    unfold manyBad at hm
    rw [e] at hm
    obtain ⟨hb, _⟩ := lineAt_len hl
    match b, hm, hb with
    | [], hm, hb => simp at hb
    | [x], hm, hb =>
      have := congrArg List.length hb
      simp at this
      omega
    | x :: y :: t, hm, hb =>
      simp at hm
      obtain ⟨rfl, rfl⟩ := hm
      unfold lineAt at hl
      simp [lineP] at hl
      exact hne hl.1.symm.symm
theorem step_wf {s s' : RS} {b r : List UInt8} (h : s.wf) (e : stepP s b = .on s' r) : s'.wf := by
  have hs6 := h.state
  unfold stepP at e
  match hs : s.state, e with
  | 0, e =>
    simp only at e
    cases hl : lineAt 512 b with
    | wait => simp [hl] at e
    | bad => simp [hl] at e
    | got l r1 =>
      simp only [hl] at e
      cases hf : firstLn l with
      | none => simp [hf] at e
      | some x =>
        simp only [hf, Out.on.injEq] at e
        obtain ⟨rfl, _⟩ := e
        exact ⟨(by decide : 1 ≤ 6), h.many, h.left, h.low, h.high, h.heads, fun _ => h.bare (by omega), h.body, (fun hh => by cases hh), (fun hh => by cases hh)⟩
  | 1, e =>
    simp only at e
    cases hm : manyBad s b with
    | true => rw [hm] at e; cases e
    | false =>
      rw [hm] at e
      simp only [Bool.false_eq_true, if_false] at e
      cases hl : lineAt s.left b with
      | wait => simp [hl] at e
      | bad => simp [hl] at e
      | got l r1 =>
        simp only [hl] at e
        split at e
        · exact headedP_wf h hs e
        · rename_i hne
          exact (headP_wf h hs (many_lt h.many hm hl hne) e).1
  | 2, e =>
    simp only at e
    split at e <;> cases e
  | 3, e =>
    simp only at e
    cases hl : lineAt 6 b with
    | wait => simp [hl] at e
    | bad => simp [hl] at e
    | got l r1 =>
      simp only [hl] at e
      have hb := h.body
      split at e
      · cases e
      · split at e
        · cases e
        · split at e
          · cases e
            exact ⟨(by decide : 6 ≤ 6), h.many, h.left, h.low, h.high, h.heads, fun (hh : 6 ≤ 2) => by omega, h.body, (fun hh => by cases hh), (fun hh => by cases hh)⟩
          · rename_i h1 h2 h3
            cases e
            exact ⟨(by decide : 4 ≤ 6), h.many, h.left, by show -1 ≤ hexP l; omega, by show hexP l ≤ 9999999; omega, h.heads, fun (hh : 4 ≤ 2) => by omega, h.body, (fun hh => by cases hh), fun _ => ⟨by show 0 ≤ hexP l; omega, by show hexP l + s.body.length ≤ 8192; omega⟩⟩
  | 4, e =>
    simp only at e
    have h4 := h.four hs
    split at e
    · cases e
    · cases e
      refine ⟨(by decide : 5 ≤ 6), h.many, h.left, h.low, h.high, h.heads, fun (hh : 5 ≤ 2) => by omega, ?_, (fun hh => by cases hh), (fun hh => by cases hh)⟩
      show (s.body ++ b.take s.long.toNat).length ≤ 8192
      rw [List.length_append, List.length_take]
      omega
  | 5, e =>
    simp only at e
    cases he : endAt b with
    | wait => simp [he] at e
    | bad => simp [he] at e
    | got l r1 =>
      simp only [he, Out.on.injEq] at e
      obtain ⟨rfl, _⟩ := e
      exact ⟨(by decide : 3 ≤ 6), h.many, h.left, h.low, h.high, h.heads, fun (hh : 3 ≤ 2) => by omega, h.body, (fun hh => by cases hh), (fun hh => by cases hh)⟩
  | n + 6, e =>
    simp only at e
    cases he : endAt b <;> simp [he] at e

/-! ### all requests -/
theorem step_len {s s' : RS} {b r : List UInt8} (h : stepP s b = .on s' r) : r.length ≤ b.length := by
  have := step_lt h
  unfold RS.weight at this
  split at this <;> split at this <;> omega
theorem whole_len {s : RS} {b r : List UInt8} {q : Rq} (h : stepP s b = .whole q r) : r.length ≤ b.length ∧ s.state ≠ 0 := by
  unfold stepP at h
  match hs : s.state, h with
  | 0, h =>
    simp only at h
    cases hl : lineAt 512 b with
    | wait => simp [hl] at h
    | bad => simp [hl] at h
    | got l r1 =>
      simp only [hl] at h
      cases hf : firstLn l <;> simp [hf] at h
  | 1, h =>
    simp only at h
    split at h
    · cases h
    · cases hl : lineAt s.left b with
      | wait => simp [hl] at h
      | bad => simp [hl] at h
      | got l r1 =>
        simp only [hl] at h
        split at h
        · unfold headedP at h
          repeat' split at h
          all_goals cases h
        · unfold headP at h
          cases hx : headLn l with
          | none => simp [hx] at h
          | some x =>
            simp only [hx] at h
            repeat' split at h
            all_goals cases h
  | 2, h =>
    simp only at h
    split at h
    · cases h
    · cases h
      simp
  | 3, h =>
    simp only at h
    cases hl : lineAt 6 b with
    | wait => simp [hl] at h
    | bad => simp [hl] at h
    | got l r1 =>
      simp only [hl] at h
      repeat' split at h
      all_goals cases h
  | 4, h =>
    simp only at h
    split at h <;> cases h
  | 5, h =>
    simp only at h
    cases he : endAt b <;> simp [he] at h
  | n + 6, h =>
    simp only at h
    cases he : endAt b with
    | wait => simp [he] at h
    | bad => simp [he] at h
    | got l r1 =>
      simp only [he, Out.whole.injEq] at h
      obtain ⟨_, rfl⟩ := h
      rw [endAt_len he]
      exact ⟨by simp; omega, by omega⟩
theorem done_len {s : RS} {b r : List UInt8} {q : Rq} (h : tellP s b = .done q r) : r.length ≤ b.length := by
  induction s, b using tellP.induct with
  | case1 s b h1 => rw [tell_wait h1] at h; cases h
  | case2 s b e h1 => rw [tell_fail h1] at h; cases h
  | case3 s b q1 r1 h1 => rw [tell_whole h1] at h; cases h; exact (whole_len h1).1
  | case4 s b s1 r1 h1 ih => rw [tell_on h1] at h; exact Nat.le_trans (ih h) (step_len h1)
theorem done_lt {b r : List UInt8} {q : Rq} (h : tellP RS.init b = .done q r) : r.length < b.length := by
  cases hs : stepP RS.init b with
  | wait => rw [tell_wait hs] at h; cases h
  | fail e => rw [tell_fail hs] at h; cases h
  | whole q1 r1 => exact absurd rfl (whole_len hs).2
  | on s1 r1 =>
    rw [tell_on hs] at h
    have h1 := done_len h
    have h2 := step_lt hs
    have h3 : RS.init.weight b = 2 * b.length := rfl
    unfold RS.weight at h2
    have h4 : (RS.init).state = 0 := rfl
    rw [h4] at h2
    simp at h2
    omega
/-- All requests; what is left of the bytes; the refusal. -/
def allP (b : List UInt8) : List Rq × List UInt8 × Int :=
  match h : tellP RS.init b with
  | .wait _ _ => ([], b, 0)
  | .refuse e => ([], b, e)
  | .done q r => (q :: (allP r).1, (allP r).2)
termination_by b.length
decreasing_by all_goals exact done_lt h
theorem all_wait {b b' : List UInt8} {s : RS} (h : tellP RS.init b = .wait s b') : allP b = ([], b, 0) := by rw [allP]; split <;> simp_all
theorem all_refuse {b : List UInt8} {e : Int} (h : tellP RS.init b = .refuse e) : allP b = ([], b, e) := by rw [allP]; split <;> simp_all
theorem all_done {b r : List UInt8} {q : Rq} (h : tellP RS.init b = .done q r) : allP b = (q :: (allP r).1, (allP r).2) := by rw [allP]; split <;> simp_all
theorem step_err {s : RS} {b : List UInt8} {e : Int} (h : stepP s b = .fail e) : e = 280 ∨ e = 281 ∨ e = 282 := by
  unfold stepP headedP headP at h
  repeat' split at h
  all_goals (first | (cases h; done) | (cases h; simp; done) | skip)
theorem tell_err {s : RS} {b : List UInt8} {e : Int} (h : tellP s b = .refuse e) : e = 280 ∨ e = 281 ∨ e = 282 := by
  induction s, b using tellP.induct with
  | case1 s b h1 => rw [tell_wait h1] at h; cases h
  | case2 s b e1 h1 => rw [tell_fail h1] at h; cases h; exact step_err h1
  | case3 s b q1 r1 h1 => rw [tell_whole h1] at h; cases h
  | case4 s b s1 r1 h1 ih => rw [tell_on h1] at h; exact ih h
theorem all_induct (P : List UInt8 → Prop) (h : ∀ b, (∀ q r, tellP RS.init b = .done q r → P r) → P b) : ∀ b, P b := by
  intro b
  induction hn : b.length using Nat.strongRecOn generalizing b with
  | ind n ih => exact h b fun q r hd => ih r.length (by have := done_lt hd; omega) r rfl
theorem all_len : ∀ b, (allP b).2.1.length ≤ b.length ∧ (allP b).1.length ≤ b.length := by
  refine all_induct _ fun b ih => ?_
  cases h : tellP RS.init b with
  | wait s b' => rw [all_wait h]; simp
  | refuse e => rw [all_refuse h]; simp
  | done q r =>
    rw [all_done h]
    have := ih q r h
    have h2 := done_lt h
    simp only [List.length_cons]
    omega
theorem all_err : ∀ b, (allP b).2.2 = 0 ∨ (allP b).2.2 = 280 ∨ (allP b).2.2 = 281 ∨ (allP b).2.2 = 282 := by
  refine all_induct _ fun b ih => ?_
  cases h : tellP RS.init b with
  | wait s b' => rw [all_wait h]; simp
  | refuse e => rw [all_refuse h]; exact .inr (tell_err h)
  | done q r => rw [all_done h]; exact ih q r h
/-- What bytes tell begins what more bytes tell; a refusal stays. -/
theorem all_more (c : List UInt8) : ∀ b, allP (b ++ c) = if (allP b).2.2 = 0 then ((allP b).1 ++ (allP ((allP b).2.1 ++ c)).1, (allP ((allP b).2.1 ++ c)).2) else ((allP b).1, (allP b).2.1 ++ c, (allP b).2.2) := by
  refine all_induct _ fun b ih => ?_
  cases h : tellP RS.init b with
  | wait s b' => rw [all_wait h]; simp
  | refuse e =>
    have he := tell_err h
    have h2 : tellP RS.init (b ++ c) = .refuse e := by rw [tell_more, h]; rfl
    rw [all_refuse h2, all_refuse h]
    simp only
    rw [if_neg (by omega)]
  | done q r =>
    have h2 : tellP RS.init (b ++ c) = .done q (r ++ c) := by rw [tell_more, h]; rfl
    rw [all_done h2, all_done h, ih q r h]
    simp only
    split <;> simp
end Go.Proofs.YtnicmdlicbnlgaaGreatDoor
