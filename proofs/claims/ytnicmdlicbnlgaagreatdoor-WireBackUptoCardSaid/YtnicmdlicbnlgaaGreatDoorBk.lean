/-
  Plain: what is written of a request is read back, alone.
-/
import Derived.Test.YtnicmdlicbnlgaaGreatDoorPq
namespace Go.Proofs.YtnicmdlicbnlgaaGreatDoor
set_option linter.unusedVariables false
set_option linter.unusedSimpArgs false

theorem lineP_mk {s : List UInt8} (r : List UInt8) (h : ∀ x ∈ s, x ≠ 13) : lineP (s ++ 13 :: 10 :: r) = some (s, r) := by
  induction s with
  | nil => simp [lineP]
  | cons x t ih =>
    have ht := ih fun y hy => h y (List.mem_cons_of_mem _ hy)
    have hx := h x List.mem_cons_self
    cases t with
    | nil => simp [lineP, hx]
    | cons y u =>
      simp only [List.cons_append] at ht ⊢
      rw [lineP, if_neg (fun e => hx e.1), ht]
      rfl
theorem lineAt_mk {s : List UInt8} {n : Nat} (r : List UInt8) (h : ∀ x ∈ s, x ≠ 13) (hn : s.length ≤ n) : lineAt n (s ++ 13 :: 10 :: r) = .got s r := by
  unfold lineAt
  rw [lineP_mk r h]
  simp only
  rw [if_neg (by omega)]
theorem cutP_mk {a : List UInt8} {c : UInt8} (b : List UInt8) (h : ∀ x ∈ a, x ≠ c) : cutP c (a ++ c :: b) = some (a, b) := by
  induction a with
  | nil => simp [cutP]
  | cons x t ih =>
    have hx := h x List.mem_cons_self
    simp only [List.cons_append]
    rw [cutP, if_neg hx, ih fun y hy => h y (List.mem_cons_of_mem _ hy)]
    rfl
theorem up_ne (c : UInt8) : bUp c = true → c ≠ 13 ∧ c ≠ 32 := byte_all (fun c => bUp c = true → c ≠ 13 ∧ c ≠ 32) (by decide +kernel) c
theorem path_ne (c : UInt8) : bPath c = true → c ≠ 13 := byte_all (fun c => bPath c = true → c ≠ 13) (by decide +kernel) c
theorem tok_ne (c : UInt8) : bTok c = true → c ≠ 13 ∧ c ≠ 58 := byte_all (fun c => bTok c = true → c ≠ 13 ∧ c ≠ 58) (by decide +kernel) c
theorem val_ne (c : UInt8) : bVal c = true → c ≠ 13 := byte_all (fun c => bVal c = true → c ≠ 13) (by decide +kernel) c
theorem dig_val (c : UInt8) : isDig c = true → bVal c = true ∧ isBlank c = false := byte_all (fun c => isDig c = true → bVal c = true ∧ isBlank c = false) (by decide +kernel) c

theorem first_ne {m p : List UInt8} (hm : methodB m = true) (hp : pathB p = true) : ∀ x ∈ firstP m p, x ≠ 13 := by
  unfold methodB at hm
  unfold pathB at hp
  simp only [Bool.and_eq_true] at hm hp
  intro x hx
  unfold firstP at hx
  simp only [List.mem_append] at hx
  rcases hx with ((hx | hx) | hx) | hx
  · exact (up_ne x (List.all_eq_true.1 hm.1.1 x hx)).1
  · simp only [List.mem_singleton] at hx; subst hx; decide
  · exact path_ne x (List.all_eq_true.1 hp.1 x hx)
  · have : ∀ y ∈ cHttp, y ≠ 13 := by decide
    exact this x hx
theorem first_back {m p : List UInt8} (hm : methodB m = true) (hp : pathB p = true) : firstLn (firstP m p) = some (m, p) := by
  unfold firstLn
  have hs : cHttp.isSuffixOf (firstP m p) = true := List.isSuffixOf_iff_suffix.2 ⟨m ++ [32] ++ p, rfl⟩
  have ht : (firstP m p).take ((firstP m p).length - 9) = m ++ 32 :: p := by
    have hc : cHttp.length = 9 := rfl
    unfold firstP
    rw [List.length_append, hc, Nat.add_sub_cancel, List.take_left' rfl]
    simp
  rw [hs, if_pos rfl, ht, cutP_mk p (fun x hx => ?_)]
  · simp only [hm, hp, Bool.and_self, if_true]
  · unfold methodB at hm
    simp only [Bool.and_eq_true] at hm
    exact (up_ne x (List.all_eq_true.1 hm.1.1 x hx)).2
/-- A header's line. -/
theorem headLn_mk {n v : List UInt8} (hn : tokenB n = true) (hv : valueB v = true) (hb : bareB v = v) : headLn (n ++ [58, 32] ++ v) = some (smallB n, v) := by
  have hn' := hn
  unfold tokenB at hn'
  simp only [Bool.and_eq_true] at hn'
  unfold headLn
  rw [show n ++ [58, 32] ++ v = n ++ 58 :: (32 :: v) by simp, cutP_mk _ (fun x hx => (tok_ne x (List.all_eq_true.1 hn'.1 x hx)).2)]
  have h2 : valueB (32 :: v) = true := by
    unfold valueB at hv ⊢
    rw [List.all_cons, hv]
    rfl
  simp only [hn, h2, Bool.and_self, if_true]
  rw [bare_cons 32 v (by decide), hb]
theorem line_ne {n v : List UInt8} (hn : tokenB n = true) (hv : valueB v = true) : ∀ x ∈ n ++ [58, 32] ++ v, x ≠ 13 := by
  unfold tokenB at hn
  unfold valueB at hv
  simp only [Bool.and_eq_true] at hn
  intro x hx
  simp only [List.mem_append] at hx
  rcases hx with (hx | hx) | hx
  · exact (tok_ne x (List.all_eq_true.1 hn.1 x hx)).1
  · have : ∀ y ∈ ([58, 32] : List UInt8), y ≠ 13 := by decide
    exact this x hx
  · exact val_ne x (List.all_eq_true.1 hv x hx)

/-- A line that is there, and has room. -/
theorem step_line {s : RS} {l r : List UInt8} (hst : s.state = 1) (hm : s.many < 32) (hl : l.length ≤ s.left) (hne : ∀ x ∈ l, x ≠ 13) (h0 : ¬ l = []) : stepP s (l ++ 13 :: 10 :: r) = headP s l r := by
  have h1 : manyBad s (l ++ 13 :: 10 :: r) = false := by
    unfold manyBad
    rw [Bool.and_eq_false_iff]
    left
    simp only [beq_eq_false_iff_ne]
    omega
  unfold stepP
  rw [hst]
  simp only [h1, Bool.false_eq_true, if_false]
  rw [lineAt_mk r hne hl]
  simp only [h0, if_false]
theorem step_empty {s : RS} {r : List UInt8} (hst : s.state = 1) : stepP s (13 :: 10 :: r) = headedP s r := by
  have h1 : manyBad s (13 :: 10 :: r) = false := by simp [manyBad]
  unfold stepP
  rw [hst]
  simp only [h1, Bool.false_eq_true, if_false]
  rw [show (13 : UInt8) :: 10 :: r = [] ++ 13 :: 10 :: r by simp, lineAt_mk (s := []) r (by simp) (by simp)]
  simp only [if_true]

/-- All lines that are no length and no close. -/
theorem tell_heads : ∀ (hs : List Hd) (s : RS) (r : List UInt8), s.state = 1 → hs.all headOk = true → s.many + hs.length ≤ 32 → ((hs.map headLine).flatten.length ≤ s.left) →
    tellP s ((hs.map headLine).flatMap (fun l => l ++ [13, 10]) ++ r) = tellP { s with many := s.many + hs.length, left := s.left - (hs.map headLine).flatten.length, hs := s.hs ++ hs } r
  | [], s, r, _, _, _, _ => by
    simp
  | h :: hs, s, r, hst, hok, hmany, hleft => by
    simp only [List.all_cons, Bool.and_eq_true] at hok
    obtain ⟨h1, h2⟩ := hok
    unfold headOk at h1
    simp only [Bool.and_eq_true, Bool.not_eq_true', beq_eq_false_iff_ne, beq_iff_eq] at h1
    obtain ⟨⟨⟨⟨⟨⟨ht, hsm⟩, n1⟩, n2⟩, n3⟩, hv⟩, hb⟩ := h1
    simp only [List.length_cons] at hmany
    simp only [List.map_cons, List.flatten_cons, List.length_append] at hleft
    have hl0 : ¬ headLine h = [] := by unfold headLine; simp
    have hstep : stepP s (headLine h ++ 13 :: 10 :: ((hs.map headLine).flatMap (fun l => l ++ [13, 10]) ++ r)) = .on { s with many := s.many + 1, left := s.left - (headLine h).length, hs := s.hs ++ [h] } ((hs.map headLine).flatMap (fun l => l ++ [13, 10]) ++ r) := by
      rw [step_line (l := headLine h) hst (by omega) (by omega) (line_ne ht hv) hl0]
      unfold headP
      rw [show headLn (headLine h) = some (smallB h.n.data.toList, h.v.data.toList) from headLn_mk ht hv hb, hsm]
      simp only [n1, n2, n3, if_false]
    rw [show ((h :: hs).map headLine).flatMap (fun l => l ++ [13, 10]) ++ r = headLine h ++ 13 :: 10 :: ((hs.map headLine).flatMap (fun l => l ++ [13, 10]) ++ r) by simp, tell_on hstep]
    rw [tell_heads hs { s with many := s.many + 1, left := s.left - (headLine h).length, hs := s.hs ++ [h] } r hst h2 (by show s.many + 1 + hs.length ≤ 32; omega) (by show _ ≤ s.left - (headLine h).length; omega)]
    simp only [List.map_cons, List.flatten_cons, List.length_append, List.length_cons, List.append_assoc, List.singleton_append]
    rw [show s.many + 1 + hs.length = s.many + (hs.length + 1) by omega, Nat.sub_sub]
/-! ### a number's digits -/
theorem dec_all (n : Nat) : (Lib.decDigits n).all isDig = true := by
  induction n using Nat.strongRecOn with
  | ind n ih =>
    rw [Lib.decDigits]
    split
    · rename_i h
      have : ∀ k : Fin 10, isDig (UInt8.ofNat (48 + k.val)) = true := by decide
      simpa using this ⟨n, h⟩
    · rename_i h
      have : ∀ k : Fin 10, isDig (UInt8.ofNat (48 + k.val)) = true := by decide
      rw [List.all_append, ih (n / 10) (by omega)]
      simpa using this ⟨n % 10, Nat.mod_lt _ (by omega)⟩
theorem dec_ne (n : Nat) : Lib.decDigits n ≠ [] := by
  rw [Lib.decDigits]
  split <;> simp
theorem dec_fold (n : Nat) : (Lib.decDigits n).foldl (fun n c => 10 * n + ((c.toNat : Int) - 48)) 0 = (n : Int) := by
  induction n using Nat.strongRecOn with
  | ind n ih =>
    have d : ∀ k : Fin 10, (((UInt8.ofNat (48 + k.val)).toNat : Int) - 48) = (k.val : Int) := by decide
    rw [Lib.decDigits]
    split
    · rename_i h
      have := d ⟨n, h⟩
      simp only at this
      simp only [List.foldl_cons, List.foldl_nil, this]
      omega
    · rename_i h
      have := d ⟨n % 10, Nat.mod_lt _ (by omega)⟩
      simp only at this
      rw [List.foldl_append, ih (n / 10) (by omega)]
      simp only [List.foldl_cons, List.foldl_nil, this]
      omega
theorem dec_small (n : Nat) (h : n < 10000) : (Lib.decDigits n).length ≤ 4 := by
  rw [Lib.decDigits]
  split
  · simp
  · rw [Lib.decDigits]
    split
    · simp
    · rw [Lib.decDigits]
      split
      · simp
      · rw [Lib.decDigits, dif_pos (by omega)]
        simp
theorem num_itoa (n : Nat) (h : n < 10000) : numP (Lib.itoa (n : Int)) = n ∧ valueB (Lib.itoa (n : Int)) = true ∧ bareB (Lib.itoa (n : Int)) = Lib.itoa (n : Int) ∧ (Lib.itoa (n : Int)).length ≤ 4 := by
  have e : Lib.itoa (n : Int) = Lib.decDigits n := by
    unfold Lib.itoa
    rw [if_neg (by omega)]
    simp
  have h1 := dec_all n
  have h2 := dec_ne n
  have h3 := dec_small n h
  rw [e]
  refine ⟨?_, ?_, ?_, h3⟩
  · unfold numP
    have e1 : (Lib.decDigits n).isEmpty = false := by simpa using h2
    have e2 : decide (7 < (Lib.decDigits n).length) = false := by simpa using Nat.le_trans h3 (by decide)
    rw [e1, e2, h1]
    exact dec_fold n
  · unfold valueB
    exact List.all_eq_true.2 fun x hx => (dig_val x (List.all_eq_true.1 h1 x hx)).1
  · exact bare_done _ (fun c hc => (dig_val c (List.all_eq_true.1 h1 c (List.mem_of_head? hc))).2) (fun c hc => (dig_val c (List.all_eq_true.1 h1 c (List.mem_of_getLast? hc))).2)

theorem flat_turn (L : List (List UInt8)) (r : List UInt8) : L.flatMap (fun l => [13, 10] ++ l) ++ 13 :: 10 :: r = 13 :: 10 :: (L.flatMap (fun l => l ++ [13, 10]) ++ r) := by
  induction L generalizing r with
  | nil => simp
  | cons l L ih =>
    have := ih r
    simp only [List.flatMap_cons, List.append_assoc, List.cons_append, List.nil_append] at this ⊢
    rw [this]
theorem app2 (K r : List UInt8) : K ++ [13, 10] ++ r = K ++ 13 :: 10 :: r := by simp
def lenL (n : Nat) : List UInt8 := cLen ++ [58, 32] ++ Lib.itoa (n : Int)
theorem linesP_eq (hs : List Hd) (body : List UInt8) (close : Bool) : linesP hs body close = hs.map headLine ++ (if body.isEmpty then [] else [lenL body.length]) ++ (if close then [cCons] else []) := rfl
/-- A length. -/
theorem tell_long {s : RS} {n : Nat} (r : List UInt8) (hst : s.state = 1) (hm : s.many < 32) (hlong : s.long = -1) (hn : n < 10000) (hl : (lenL n).length ≤ s.left) :
    tellP s ((lenL n) ++ 13 :: 10 :: r) = tellP { s with many := s.many + 1, left := s.left - (lenL n).length, long := n } r := by
  obtain ⟨h1, h2, h3, h4⟩ := num_itoa n hn
  refine tell_on ?_
  rw [step_line hst hm hl (show ∀ x ∈ lenL n, x ≠ 13 from line_ne (by decide) h2) (by simp [lenL])]
  unfold headP
  rw [show headLn (lenL n) = some (cLen, Lib.itoa (n : Int)) from headLn_mk (n := cLen) (by decide) h2 h3]
  simp only [if_true, h1, hlong]
  rw [if_neg]
  simp only [Bool.or_eq_true, decide_eq_true_eq]
  omega
theorem tell_close {s : RS} (r : List UInt8) (hst : s.state = 1) (hm : s.many < 32) (hl : cCons.length ≤ s.left) :
    tellP s (cCons ++ 13 :: 10 :: r) = tellP { s with many := s.many + 1, left := s.left - cCons.length, close := true } r := by
  refine tell_on ?_
  rw [step_line hst hm hl (by decide) (by decide)]
  unfold headP
  rw [show headLn cCons = some (cCon, cClose) by decide]
  have e1 : ¬ cCon = cLen := by decide
  have e2 : ¬ cCon = cEnc := by decide
  have e3 : smallB cClose == cClose := by decide
  simp only [e1, e2, if_false, if_true, e3, Bool.or_true]
/-- The end of the heads, and the body. -/
theorem tell_body {s : RS} {body : List UInt8} (r : List UInt8) (hst : s.state = 1) (hc : s.chunks = false) (hb : s.body = []) (hlong : (body = [] ∧ s.long = -1) ∨ (s.long = (body.length : Int) ∧ body.length ≤ 8192)) :
    tellP s (13 :: 10 :: (body ++ r)) = .done ⟨s.m, s.p, s.hs, ⟨body.toArray⟩, s.close⟩ r := by
  have e : s.long.toNat = body.length := by
    rcases hlong with ⟨rfl, h⟩ | ⟨h, _⟩ <;> rw [h] <;> rfl
  have h81 : ¬ 8192 < s.long := by
    rcases hlong with ⟨rfl, h⟩ | ⟨h, _⟩ <;> omega
  rw [tell_on (s' := { s with state := 2 }) (r := body ++ r)]
  · refine tell_whole ?_
    unfold stepP
    simp only [e]
    rw [if_neg (by simp), List.take_left' rfl, List.drop_left' rfl, hb]
    rfl
  · rw [step_empty hst]
    unfold headedP
    simp only [hc, Bool.false_and, Bool.false_eq_true, if_false, h81]
/-- THE LAW: what is written is read back, alone, whatever comes behind. -/
theorem write_back (m p : ByteArray) (hs : List Hd) (body : ByteArray) (close : Bool) (c : List UInt8) (h : (writeP m.data.toList p.data.toList hs body.data.toList close).2 = 0) :
    tellP RS.init ((writeP m.data.toList p.data.toList hs body.data.toList close).1 ++ c) = .done ⟨m, p, hs, body, close⟩ c := by
  unfold writeP at h ⊢
  split at h
  · cases h
  rename_i h1
  rw [if_neg h1]
  split at h
  · cases h
  rename_i h2
  rw [if_neg h2]
  split at h
  · cases h
  rename_i h3
  rw [if_neg h3]
  split at h
  · cases h
  rename_i h4
  rw [if_neg h4]
  simp only [Bool.or_eq_true, Bool.not_eq_true', not_or, Bool.not_eq_false] at h1 h2
  simp only [Bool.or_eq_true, decide_eq_true_eq, not_or] at h4
  obtain ⟨hm, hp⟩ := h1
  obtain ⟨⟨h5, h6⟩, h7⟩ := h4
  have e1 : firstP m.data.toList p.data.toList ++ (linesP hs body.data.toList close).flatMap (fun l => [13, 10] ++ l) ++ [13, 10, 13, 10] ++ body.data.toList ++ c =
      firstP m.data.toList p.data.toList ++ 13 :: 10 :: ((linesP hs body.data.toList close).flatMap (fun l => l ++ [13, 10]) ++ 13 :: 10 :: (body.data.toList ++ c)) := by
    rw [← flat_turn]
    simp
  simp only
  rw [e1]
  rw [tell_on (s' := { RS.init with state := 1, m := m, p := p }) (r := (linesP hs body.data.toList close).flatMap (fun l => l ++ [13, 10]) ++ 13 :: 10 :: (body.data.toList ++ c))]
  · rw [linesP_eq] at h6 h7 ⊢
    simp only [List.flatMap_append, List.append_assoc, List.length_append, List.length_map, List.flatten_append] at h6 h7 ⊢
    rw [tell_heads hs _ _ rfl h2 (by show 0 + hs.length ≤ 32; omega) (by show _ ≤ 1024; omega)]
    generalize hA : (hs.map headLine).flatten.length = A at h7
    cases hb : body.data.toList.isEmpty with
    | true =>
      have hb0 : body.data.toList = [] := by simpa using hb
      simp only [hb, if_true, List.length_nil, List.flatten_nil, List.flatMap_nil, List.nil_append] at h6 h7 ⊢
      cases close with
      | false =>
        simp only [Bool.false_eq_true, if_false, List.flatMap_nil, List.nil_append]
        rw [tell_body c rfl rfl rfl (.inl ⟨hb0, rfl⟩)]
        simp [RS.init]
      | true =>
        simp only [if_true, List.length_cons, List.length_nil, List.flatten_cons, List.flatten_nil, List.append_nil] at h6 h7
        simp only [if_true, List.flatMap_cons, List.flatMap_nil, List.append_nil, List.append_assoc, List.cons_append, List.nil_append]
        rw [tell_close _ rfl (by show 0 + hs.length < 32; omega) (by show _ ≤ 1024 - A; omega)]
        rw [tell_body c rfl rfl rfl (.inl ⟨hb0, rfl⟩)]
        simp [RS.init]
    | false =>
      have hlen : body.data.toList.length < 10000 := by omega
      simp only [hb, Bool.false_eq_true, if_false, List.length_cons, List.length_nil, List.flatten_cons, List.flatten_nil, List.append_nil] at h6 h7
      simp only [hb, Bool.false_eq_true, if_false, List.flatMap_cons, List.flatMap_nil, List.append_nil]
      generalize hK : lenL body.data.toList.length = K at h7
      cases close with
      | false =>
        simp only [Bool.false_eq_true, if_false, List.flatMap_nil, List.nil_append, List.length_nil, List.flatten_nil] at h6 h7 ⊢
        rw [app2 K, ← hK, tell_long _ rfl (by show 0 + hs.length < 32; omega) rfl hlen (by rw [hK]; show _ ≤ 1024 - A; omega)]
        rw [tell_body c rfl rfl rfl (.inr ⟨rfl, by omega⟩)]
        simp [RS.init]
      | true =>
        simp only [if_true, List.length_cons, List.length_nil, List.flatten_cons, List.flatten_nil, List.append_nil] at h6 h7
        simp only [if_true, List.flatMap_cons, List.flatMap_nil, List.append_nil]
        rw [app2 K, app2 cCons, ← hK, tell_long _ rfl (by show 0 + hs.length < 32; omega) rfl hlen (by rw [hK]; show _ ≤ 1024 - A; omega)]
        rw [tell_close _ rfl (by show 0 + hs.length + 1 < 32; omega) (by rw [hK]; show _ ≤ 1024 - A - K.length; omega)]
        rw [tell_body c rfl rfl rfl (.inr ⟨rfl, by omega⟩)]
        simp [RS.init]
  · unfold stepP
    simp only [RS.init]
    rw [lineAt_mk _ (first_ne hm hp) (by omega)]
    simp only []
    rw [first_back hm hp]
end Go.Proofs.YtnicmdlicbnlgaaGreatDoor
