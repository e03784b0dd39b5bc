/-
  Requests: their heads in memory; what is written of one, in plain words.
-/
import Derived.Test.YtnicmdlicbnlgaaGreatDoorPl
import Derived.Test.YtnicmdlicbnlgaaGreatDoorMem
import Derived.Deep.AppendLies
namespace Go.Proofs.YtnicmdlicbnlgaaGreatDoor
open Go.RowKit
set_option linter.unusedVariables false

structure Hd where
  n : ByteArray
  v : ByteArray

/-- The heads lie from a place on, two cells each. -/
def HeadsAt (w : World) (b off : Nat) (hs : List Hd) : Prop :=
  ∀ i (h : i < hs.length), w.cell? ⟨b, off + i * 2, none⟩ = some (.string hs[i].n) ∧ w.cell? ⟨b, off + i * 2 + 1, none⟩ = some (.string hs[i].v)

theorem HeadsAt.below {w w' : World} {b off : Nat} {hs : List Hd} (h : HeadsAt w b off hs) (hb : Below w.heap.size w w') : HeadsAt w' b off hs := fun i hi =>
  ⟨(hb.cell (p := ⟨b, off + i * 2, none⟩) (lt_of_cell (h i hi).1)).trans (h i hi).1, (hb.cell (p := ⟨b, off + i * 2 + 1, none⟩) (lt_of_cell (h i hi).2)).trans (h i hi).2⟩

def cLen : List UInt8 := [99, 111, 110, 116, 101, 110, 116, 45, 108, 101, 110, 103, 116, 104]
def cEnc : List UInt8 := [116, 114, 97, 110, 115, 102, 101, 114, 45, 101, 110, 99, 111, 100, 105, 110, 103]
def cCon : List UInt8 := [99, 111, 110, 110, 101, 99, 116, 105, 111, 110]
def cCons : List UInt8 := [99, 111, 110, 110, 101, 99, 116, 105, 111, 110, 58, 32, 99, 108, 111, 115, 101]
def cHttp : List UInt8 := [32, 72, 84, 84, 80, 47, 49, 46, 49]

/-- May a head be written? -/
def headOk (h : Hd) : Bool :=
  tokenB h.n.data.toList && (smallB h.n.data.toList == h.n.data.toList) && !(h.n.data.toList == cLen) && !(h.n.data.toList == cEnc) && !(h.n.data.toList == cCon) && valueB h.v.data.toList && (bareB h.v.data.toList == h.v.data.toList)
def headLine (h : Hd) : List UInt8 := h.n.data.toList ++ [58, 32] ++ h.v.data.toList
def linesP (hs : List Hd) (body : List UInt8) (close : Bool) : List (List UInt8) :=
  hs.map headLine ++ (if body.isEmpty then [] else [cLen ++ [58, 32] ++ Lib.itoa (body.length : Int)]) ++ (if close then [cCons] else [])
def firstP (m p : List UInt8) : List UInt8 := m ++ [32] ++ p ++ cHttp
/-- What is written of a request, and the error. -/
def writeP (m p : List UInt8) (hs : List Hd) (body : List UInt8) (close : Bool) : List UInt8 × Int :=
  if !methodB m || !pathB p then ([], 280)
  else if !hs.all headOk then ([], 280)
  else if 8192 < body.length then ([], 281)
  else if 512 < (firstP m p).length || 32 < (linesP hs body close).length || 1024 < (linesP hs body close).flatten.length then ([], 282)
  else (firstP m p ++ (linesP hs body close).flatMap (fun l => [13, 10] ++ l) ++ [13, 10, 13, 10] ++ body, 0)

theorem all_bad {hs : List Hd} {k : Nat} (h : k < hs.length) (hb : headOk hs[k] = false) : hs.all headOk = false := by
  rw [List.all_eq_false]
  exact ⟨hs[k], List.getElem_mem _, by rw [hb]; decide⟩
theorem writeP_bad {m p : List UInt8} {hs : List Hd} {body : List UInt8} {close : Bool} {k : Nat} (hm : methodB m = true) (hp : pathB p = true) (h : k < hs.length) (hb : headOk hs[k] = false) :
    ((⟨#[]⟩ : ByteArray), (280 : Int)) = (⟨(writeP m p hs body close).1.toArray⟩, (writeP m p hs body close).2) := by
  unfold writeP
  rw [hm, hp, all_bad h hb]
  rfl
theorem bad_tok {h : Hd} {nm : ByteArray} (hn : nm = h.n) (ht : false = tokenB nm.data.toList) : headOk h = false := by
  subst hn
  simp only [headOk, ← ht, Bool.false_and]
theorem tok_ascii {l : List UInt8} (h : tokenB l = true) : l.all (· < 128) = true := by
  unfold tokenB at h
  rw [Bool.and_eq_true] at h
  exact List.all_eq_true.2 fun b hb => by simpa using tok_small b (List.all_eq_true.1 h.1 b hb)
theorem low_eq {nm lw : ByteArray} {eb : Bool} (ht : true = tokenB nm.data.toList) (hl : lw = ⟨(Lib.toLowerD nm.data.toList).toArray⟩) (he : (lw.toList == nm.toList) = eb) : (smallB nm.data.toList == nm.data.toList) = eb := by
  subst hl
  rw [lower_ascii _ (tok_ascii ht.symm), toList_data, toList_data] at he
  exact he
theorem bad_low {h : Hd} {nm lw : ByteArray} (hn : nm = h.n) (ht : true = tokenB nm.data.toList) (hl : lw = ⟨(Lib.toLowerD nm.data.toList).toArray⟩) (he : (lw.toList == nm.toList) = false) : headOk h = false := by
  have := low_eq ht hl he
  subst hn
  simp only [headOk, this, Bool.and_false, Bool.false_and]
theorem bad_len {h : Hd} {nm : ByteArray} (hn : nm = h.n) (he : (nm.toList == [99, 111, 110, 116, 101, 110, 116, 45, 108, 101, 110, 103, 116, 104]) = true) : headOk h = false := by
  subst hn
  rw [toList_data] at he
  simp only [headOk, cLen, he, Bool.not_true, Bool.and_false, Bool.false_and]
theorem bad_enc {h : Hd} {nm : ByteArray} (hn : nm = h.n) (he : (nm.toList == [116, 114, 97, 110, 115, 102, 101, 114, 45, 101, 110, 99, 111, 100, 105, 110, 103]) = true) : headOk h = false := by
  subst hn
  rw [toList_data] at he
  simp only [headOk, cEnc, he, Bool.not_true, Bool.and_false, Bool.false_and]
theorem bad_con {h : Hd} {nm : ByteArray} (hn : nm = h.n) (he : (nm.toList == [99, 111, 110, 110, 101, 99, 116, 105, 111, 110]) = true) : headOk h = false := by
  subst hn
  rw [toList_data] at he
  simp only [headOk, cCon, he, Bool.not_true, Bool.and_false, Bool.false_and]
theorem bad_val {h : Hd} {vl : ByteArray} (hn : vl = h.v) (he : false = valueB vl.data.toList) : headOk h = false := by
  subst hn
  simp only [headOk, ← he, Bool.and_false, Bool.false_and]
theorem trim_eq {vl tv : ByteArray} {eb : Bool} (ht : tv = ⟨(Lib.trimS vl.data.toList [32, 9]).toArray⟩) (he : (tv.toList == vl.toList) = eb) : (bareB vl.data.toList == vl.data.toList) = eb := by
  subst ht
  rw [toList_data, toList_data] at he
  exact he
theorem bad_trim {h : Hd} {vl tv : ByteArray} (hn : vl = h.v) (ht : tv = ⟨(Lib.trimS vl.data.toList [32, 9]).toArray⟩) (he : (tv.toList == vl.toList) = false) : headOk h = false := by
  have := trim_eq ht he
  subst hn
  simp only [headOk, this, Bool.and_false]
theorem head_ok {h : Hd} {nm lw vl tv : ByteArray} (hn : nm = h.n) (hv : vl = h.v) (ht : true = tokenB nm.data.toList) (hl : lw = ⟨(Lib.toLowerD nm.data.toList).toArray⟩) (h1 : (lw.toList == nm.toList) = true)
    (h2 : (nm.toList == [99, 111, 110, 116, 101, 110, 116, 45, 108, 101, 110, 103, 116, 104]) = false) (h3 : (nm.toList == [116, 114, 97, 110, 115, 102, 101, 114, 45, 101, 110, 99, 111, 100, 105, 110, 103]) = false)
    (h4 : (nm.toList == [99, 111, 110, 110, 101, 99, 116, 105, 111, 110]) = false) (h5 : true = valueB vl.data.toList) (h6 : tv = ⟨(Lib.trimS vl.data.toList [32, 9]).toArray⟩) (h7 : (tv.toList == vl.toList) = true) : headOk h = true := by
  have e1 := low_eq ht hl h1
  have e7 := trim_eq h6 h7
  subst hn; subst hv
  rw [toList_data] at h2 h3 h4
  simp only [headOk, cLen, cEnc, cCon, ← ht, e1, h2, h3, h4, ← h5, e7, Bool.not_false, Bool.and_true]
theorem cat3 (a b : ByteArray) : a ++ ⟨#[58, 32]⟩ ++ b = ⟨(a.data.toList ++ [58, 32] ++ b.data.toList).toArray⟩ := by
  apply ByteArray.ext
  simp [ByteArray.data_append]
theorem lines_step {w : World} {base : Nat} {v : Value} {hs : List Hd} {k : Nat} {nm vl : ByteArray} (h : w.ownsRow base 9 1 v (k + 1) (((hs.take k).map fun h => Value.string ⟨(headLine h).toArray⟩) ++ [.string (nm ++ ⟨#[58, 32]⟩ ++ vl)]))
    (hk : k < hs.length) (hn : nm = hs[k].n) (hv : vl = hs[k].v) : w.ownsRow base 9 1 v (k + 1) ((hs.take (k + 1)).map fun h => Value.string ⟨(headLine h).toArray⟩) := by
  subst hn; subst hv
  rw [List.take_succ_eq_append_getElem hk, List.map_append]
  rw [cat3] at h
  exact h
theorem all_step {hs : List Hd} {k : Nat} (hk : k < hs.length) (h : (hs.take k).all headOk = true) (h2 : headOk hs[k] = true) : (hs.take (k + 1)).all headOk = true := by
  rw [List.take_succ_eq_append_getElem hk, List.all_append, h]
  simp [h2]
theorem writeP_long {m p : List UInt8} {hs : List Hd} {body : ByteArray} {close : Bool} (hm : methodB m = true) (hp : pathB p = true) (h : hs.all headOk = true) (hb : 8192 < body.size) :
    ((⟨#[]⟩ : ByteArray), (281 : Int)) = (⟨(writeP m p hs body.data.toList close).1.toArray⟩, (writeP m p hs body.data.toList close).2) := by
  have : 8192 < body.data.toList.length := by simpa using hb
  unfold writeP
  rw [hm, hp, h, if_neg (by decide), if_neg (by decide), if_pos this]
def strs (L : List (List UInt8)) : List Value := L.map fun l => Value.string ⟨l.toArray⟩
theorem heads_strs (hs : List Hd) : (hs.map fun h => Value.string ⟨(headLine h).toArray⟩) = strs (hs.map headLine) := by simp [strs]
theorem lines_no {w : World} {base : Nat} {v : Value} {hs : List Hd} {k : Nat} {body : ByteArray} {L : List (List UInt8)} (h : w.ownsRow base 9 1 v k (hs.map fun h => Value.string ⟨(headLine h).toArray⟩)) (hb : body.data.toList = []) (hk : k = hs.length) (hL : L = linesP hs body.data.toList false) :
    w.ownsRow base 9 1 v L.length (strs L) ∧ L.length ≤ k + 2 := by
  subst hk
  rw [heads_strs] at h
  have e : L = hs.map headLine := by rw [hL, linesP, hb]; simp
  subst e
  rw [List.length_map]
  exact ⟨h, by omega⟩
theorem lines_nc {w : World} {base : Nat} {v : Value} {hs : List Hd} {k : Nat} {body : ByteArray} {L : List (List UInt8)} (h : w.ownsRow base 9 1 v (k + 1) ((hs.map fun h => Value.string ⟨(headLine h).toArray⟩) ++ [.string ⟨#[99, 111, 110, 110, 101, 99, 116, 105, 111, 110, 58, 32, 99, 108, 111, 115, 101]⟩])) (hb : body.data.toList = []) (hk : k = hs.length) (hL : L = linesP hs body.data.toList true) :
    w.ownsRow base 9 1 v L.length (strs L) ∧ L.length ≤ k + 2 := by
  subst hk
  rw [heads_strs] at h
  have e : L = hs.map headLine ++ [cCons] := by rw [hL, linesP, hb]; simp
  subst e
  rw [List.length_append, List.length_map]
  unfold strs at *
  rw [List.map_append]
  exact ⟨h, by simp⟩
theorem cat_len (n : List UInt8) : (⟨#[99, 111, 110, 116, 101, 110, 116, 45, 108, 101, 110, 103, 116, 104, 58, 32]⟩ : ByteArray) ++ ⟨n.toArray⟩ = ⟨(cLen ++ [58, 32] ++ n).toArray⟩ := by
  apply ByteArray.ext
  simp [ByteArray.data_append, cLen]
theorem lines_bo {w : World} {base : Nat} {v : Value} {hs : List Hd} {k : Nat} {body : ByteArray} {L : List (List UInt8)} (h : w.ownsRow base 9 1 v (k + 1) ((hs.map fun h => Value.string ⟨(headLine h).toArray⟩) ++ [.string ((⟨#[99, 111, 110, 116, 101, 110, 116, 45, 108, 101, 110, 103, 116, 104, 58, 32]⟩ : ByteArray) ++ ⟨(Lib.itoa (body.size : Int)).toArray⟩)])) (hb : 0 < body.size) (hk : k = hs.length) (hL : L = linesP hs body.data.toList false) :
    w.ownsRow base 9 1 v L.length (strs L) ∧ L.length ≤ k + 2 := by
  subst hk
  rw [heads_strs, cat_len] at h
  have hne : body.data.toList.isEmpty = false := by
    cases hh : body.data.toList with
    | nil => have : body.data.toList.length = body.size := by simp
             rw [hh] at this; simp at this; omega
    | cons a l => rfl
  have hl : body.data.toList.length = body.size := by simp
  have e : L = hs.map headLine ++ [cLen ++ [58, 32] ++ Lib.itoa (body.size : Int)] := by rw [hL, linesP, hne, hl]; simp
  subst e
  rw [List.length_append, List.length_map]
  unfold strs at *
  rw [List.map_append]
  exact ⟨h, by simp⟩
theorem lines_bc {w : World} {base : Nat} {v : Value} {hs : List Hd} {k : Nat} {body : ByteArray} {L : List (List UInt8)} (h : w.ownsRow base 9 1 v (k + 1 + 1) ((hs.map fun h => Value.string ⟨(headLine h).toArray⟩) ++ [.string ((⟨#[99, 111, 110, 116, 101, 110, 116, 45, 108, 101, 110, 103, 116, 104, 58, 32]⟩ : ByteArray) ++ ⟨(Lib.itoa (body.size : Int)).toArray⟩)] ++ [.string ⟨#[99, 111, 110, 110, 101, 99, 116, 105, 111, 110, 58, 32, 99, 108, 111, 115, 101]⟩])) (hb : 0 < body.size) (hk : k = hs.length) (hL : L = linesP hs body.data.toList true) :
    w.ownsRow base 9 1 v L.length (strs L) ∧ L.length ≤ k + 2 := by
  subst hk
  rw [heads_strs, cat_len] at h
  have hne : body.data.toList.isEmpty = false := by
    cases hh : body.data.toList with
    | nil => have : body.data.toList.length = body.size := by simp
             rw [hh] at this; simp at this; omega
    | cons a l => rfl
  have hl : body.data.toList.length = body.size := by simp
  have e : L = hs.map headLine ++ [cLen ++ [58, 32] ++ Lib.itoa (body.size : Int)] ++ [cCons] := by rw [hL, linesP, hne, hl]; simp
  subst e
  rw [List.length_append, List.length_append, List.length_map]
  unfold strs at *
  rw [List.map_append, List.map_append]
  exact ⟨h, by simp⟩
theorem own_shape {w : World} {base : Nat} {e : TypeId} {sz : Nat} {v : Value} {n : Nat} {xs : List Value} (h : w.ownsRow base e sz v n xs) : ∃ ao cp, v = .slice ao n cp := by
  obtain ⟨_, h2⟩ := h
  rcases h2 with ⟨h, h0⟩ | ⟨g, cap, cur, h, _⟩
  · exact ⟨none, 0, by rw [h, h0]⟩
  · exact ⟨_, _, h⟩
theorem first_len (m p : ByteArray) : (firstP m.data.toList p.data.toList).length = m.size + 1 + p.size + 9 := by
  simp [firstP, cHttp]
  omega
theorem writeP_first {m p : ByteArray} {hs : List Hd} {body : ByteArray} {close : Bool} {L : List (List UInt8)} (hm : methodB m.data.toList = true) (hp : pathB p.data.toList = true) (h : hs.all headOk = true) (hb : ¬ 8192 < body.size) (hL : L = linesP hs body.data.toList close) (c1 : 512 < m.size + 1 + p.size + 9) :
    ((⟨#[]⟩ : ByteArray), (282 : Int)) = (⟨(writeP m.data.toList p.data.toList hs body.data.toList close).1.toArray⟩, (writeP m.data.toList p.data.toList hs body.data.toList close).2) := by
  have : ¬ 8192 < body.data.toList.length := by simpa using hb
  unfold writeP
  rw [hm, hp, h, if_neg (by decide), if_neg (by decide), if_neg this, first_len, if_pos (by simp only [Bool.or_eq_true, decide_eq_true_eq]; exact .inl (.inl c1))]
theorem writeP_many {m p : ByteArray} {hs : List Hd} {body : ByteArray} {close : Bool} {L : List (List UInt8)} (hm : methodB m.data.toList = true) (hp : pathB p.data.toList = true) (h : hs.all headOk = true) (hb : ¬ 8192 < body.size) (hL : L = linesP hs body.data.toList close) (c2 : 32 < L.length) :
    ((⟨#[]⟩ : ByteArray), (282 : Int)) = (⟨(writeP m.data.toList p.data.toList hs body.data.toList close).1.toArray⟩, (writeP m.data.toList p.data.toList hs body.data.toList close).2) := by
  have : ¬ 8192 < body.data.toList.length := by simpa using hb
  unfold writeP
  rw [hm, hp, h, if_neg (by decide), if_neg (by decide), if_neg this, ← hL, if_pos (by simp only [Bool.or_eq_true, decide_eq_true_eq]; exact .inl (.inr c2))]
theorem writeP_flat {m p : ByteArray} {hs : List Hd} {body : ByteArray} {close : Bool} {L : List (List UInt8)} (hm : methodB m.data.toList = true) (hp : pathB p.data.toList = true) (h : hs.all headOk = true) (hb : ¬ 8192 < body.size) (hL : L = linesP hs body.data.toList close) (c2 : 1024 < L.flatten.length) :
    ((⟨#[]⟩ : ByteArray), (282 : Int)) = (⟨(writeP m.data.toList p.data.toList hs body.data.toList close).1.toArray⟩, (writeP m.data.toList p.data.toList hs body.data.toList close).2) := by
  have : ¬ 8192 < body.data.toList.length := by simpa using hb
  unfold writeP
  rw [hm, hp, h, if_neg (by decide), if_neg (by decide), if_neg this, ← hL, if_pos (by simp only [Bool.or_eq_true, decide_eq_true_eq]; exact .inr c2)]
theorem join_nil (L : List (List UInt8)) : Lib.join L [] = L.flatten := by
  unfold Lib.join
  induction L with
  | nil => rfl
  | cons a L ih =>
    cases L with
    | nil => simp [List.intercalate]
    | cons b L =>
      simp only [List.intercalate, List.intersperse] at ih ⊢
      simp only [List.flatten_cons, List.nil_append] at ih ⊢
      rw [ih]
theorem flat_small (L : List (List UInt8)) (B : Nat) (h : ∀ l ∈ L, l.length ≤ B) : L.flatten.length ≤ L.length * B := by
  induction L with
  | nil => simp
  | cons a L ih =>
    have h1 := h a (by simp)
    have h2 := ih (fun l hl => h l (by simp [hl]))
    simp only [List.flatten_cons, List.length_append, List.length_cons, Nat.succ_mul]
    omega
theorem lines_small {hs : List Hd} {body : ByteArray} {close : Bool} {L : List (List UInt8)} (hL : L = linesP hs body.data.toList close) (sb : body.size ≤ 1000000) (sh : ∀ h ∈ hs, h.n.size ≤ 1000000 ∧ h.v.size ≤ 1000000) : ∀ l ∈ L, l.length ≤ 2000100 := by
  intro l hl
  rw [hL, linesP, List.mem_append, List.mem_append] at hl
  rcases hl with (h | h) | h
  · obtain ⟨x, hx, rfl⟩ := List.mem_map.1 h
    obtain ⟨h1, h2⟩ := sh x hx
    have e1 : x.n.data.toList.length = x.n.size := by simp
    have e2 : x.v.data.toList.length = x.v.size := by simp
    simp only [headLine, List.length_append, List.length_cons, List.length_nil, e1, e2]
    omega
  · split at h
    · simp at h
    · have h3 : l = cLen ++ [58, 32] ++ Lib.itoa (body.data.toList.length : Int) := by simpa using h
      have h4 := itoa_len (body.data.toList.length : Int) (by omega)
      have e1 : body.data.toList.length = body.size := by simp
      rw [h3]
      simp only [cLen, List.length_append, List.length_cons, List.length_nil]
      omega
  · split at h
    · have h3 : l = cCons := by simpa using h
      rw [h3]
      simp [cCons]
    · simp at h
theorem join_small {hs : List Hd} {body : ByteArray} {close : Bool} {L : List (List UInt8)} (hL : L = linesP hs body.data.toList close) (sb : body.size ≤ 1000000) (sh : ∀ h ∈ hs, h.n.size ≤ 1000000 ∧ h.v.size ≤ 1000000) (hn : ¬ 32 < L.length) : (Lib.join L (⟨#[]⟩ : ByteArray).data.toList).length ≤ 140737488355328 := by
  have h1 := flat_small L _ (lines_small hL sb sh)
  have h2 : (⟨#[]⟩ : ByteArray).data.toList = [] := rfl
  rw [h2, join_nil]
  have h3 : L.length * 2000100 ≤ 32 * 2000100 := Nat.mul_le_mul_right _ (by omega)
  omega
theorem small_eq {nm lw : ByteArray} {eb : Bool} (hl : lw = ⟨(smallB nm.data.toList).toArray⟩) (he : (lw.toList == nm.toList) = eb) : (smallB nm.data.toList == nm.data.toList) = eb := by
  subst hl
  rw [toList_data, toList_data] at he
  exact he
theorem bad_small {h : Hd} {nm lw : ByteArray} (hn : nm = h.n) (hl : lw = ⟨(smallB nm.data.toList).toArray⟩) (he : (lw.toList == nm.toList) = false) : headOk h = false := by
  have := small_eq hl he
  subst hn
  simp only [headOk, this, Bool.and_false, Bool.false_and]
theorem head_ok2 {h : Hd} {nm lw vl tv : ByteArray} (hn : nm = h.n) (hv : vl = h.v) (ht : true = tokenB nm.data.toList) (hl : lw = ⟨(smallB nm.data.toList).toArray⟩) (h1 : (lw.toList == nm.toList) = true)
    (h2 : (nm.toList == [99, 111, 110, 116, 101, 110, 116, 45, 108, 101, 110, 103, 116, 104]) = false) (h3 : (nm.toList == [116, 114, 97, 110, 115, 102, 101, 114, 45, 101, 110, 99, 111, 100, 105, 110, 103]) = false)
    (h4 : (nm.toList == [99, 111, 110, 110, 101, 99, 116, 105, 111, 110]) = false) (h5 : true = valueB vl.data.toList) (h6 : tv = ⟨(Lib.trimS vl.data.toList [32, 9]).toArray⟩) (h7 : (tv.toList == vl.toList) = true) : headOk h = true := by
  have e1 := small_eq hl h1
  have e7 := trim_eq h6 h7
  subst hn; subst hv
  rw [toList_data] at h2 h3 h4
  simp only [headOk, cLen, cEnc, cCon, ← ht, e1, h2, h3, h4, ← h5, e7, Bool.not_false, Bool.and_true]
theorem strs_len (L : List (List UInt8)) : (strs L).length = L.length * 1 := by simp [strs]
theorem oneCell_strs (L : List (List UInt8)) : ∀ u ∈ strs L, u.oneCell' = true := by
  intro u hu
  obtain ⟨l, _, rfl⟩ := List.mem_map.1 hu
  rfl
theorem own_one (w : World) (F : ByteArray) : ((w.alloc (.cells #[.string F] 9)).drew).ownsRow w.heap.size 9 1 (.slice (some ⟨w.heap.size, 0, none⟩) 1 1) 1 [.string F] := by
  have : (w.alloc (.cells #[.string F] 9)).ownsRow w.heap.size 9 1 (.slice (some ⟨w.heap.size, 0, none⟩) 1 1) 1 [.string F] := by
    refine ⟨rfl, .inr ⟨w.heap.size, 1, #[.string F], rfl, Nat.le_refl _, ?_, Nat.le_refl _, by decide, rfl, rfl⟩⟩
    show (w.heap.push _)[w.heap.size]? = _
    simp
  exact this
theorem own_some {w : World} {base n cp : Nat} {ao : Option Addr} {xs : List Value} (h : w.ownsRow base 9 1 (.slice ao n cp) n xs) (h0 : 0 < n) :
    ∃ g, ao = some ⟨g, 0, none⟩ ∧ g < w.heap.size ∧ ∀ o, ∀ (j : Nat) (u : Value), xs[j]? = some u → ((w.alloc o).drew).cell? ((⟨g, 0, none⟩ : Addr).add j) = some u := by
  have hc := fun g hg => h.cells (g := g) hg
  have hlt := h.lt
  obtain ⟨h1, h2⟩ := h
  rcases h2 with ⟨h2, h3⟩ | ⟨g, cap, cur, h2, _⟩
  · omega
  · cases h2
    refine ⟨g, rfl, (hlt g rfl).2, fun o j u hj => ?_⟩
    have h4 := hc g rfl j u hj
    show (w.alloc o).cell? _ = _
    rw [World.cell?_of_block (w := w) (Below.heap_alloc w o _ (lt_of_cell h4)), h4]
theorem join_flat (a : List UInt8) (L : List (List UInt8)) (sep : List UInt8) : Lib.join (a :: L) sep = a ++ L.flatMap (fun l => sep ++ l) := by
  rw [Lib.join_cons, Lib.joinTail, List.flatMap_def]
theorem join2_small {F m p : ByteArray} {hs : List Hd} {body : ByteArray} {close : Bool} {L : List (List UInt8)} {J : List UInt8} (hL : L = linesP hs body.data.toList close) (hF : F = m ++ ⟨#[32]⟩ ++ p ++ ⟨#[32, 72, 84, 84, 80, 47, 49, 46, 49]⟩)
    (sm : m.size ≤ 1000000) (sp : p.size ≤ 1000000) (sb : body.size ≤ 1000000) (sh : ∀ h ∈ hs, h.n.size ≤ 1000000 ∧ h.v.size ≤ 1000000) (hn : ¬ 32 < L.length) (hJ : J = Lib.join (F.data.toList :: L) [13, 10]) : J.length ≤ 100000000 := by
  have h1 : (L.map (fun l => [13, 10] ++ l)).flatten.length ≤ L.length * 2000102 := by
    have := flat_small (L.map (fun l => [13, 10] ++ l)) 2000102 (by
      intro l hl
      obtain ⟨x, hx, rfl⟩ := List.mem_map.1 hl
      have := lines_small hL sb sh x hx
      simp
      omega)
    rw [List.length_map] at this
    exact this
  have h2 : F.data.toList.length = F.size := by simp
  have h3 : F.size ≤ 2000010 := by
    rw [hF, ByteArray.size_append, ByteArray.size_append, ByteArray.size_append, show (⟨#[32]⟩ : ByteArray).size = 1 from rfl, show (⟨#[32, 72, 84, 84, 80, 47, 49, 46, 49]⟩ : ByteArray).size = 9 from rfl]
    omega
  have h4 : L.length * 2000102 ≤ 32 * 2000102 := Nat.mul_le_mul_right _ (by omega)
  rw [hJ, join_flat, List.length_append, List.flatMap_def]
  omega
theorem join_first {w : World} {base : Nat} {v : Value} {F : ByteArray} {L : List (List UInt8)} {J : List UInt8} (h : w.ownsRow base 9 1 v (1 + L.length) ([.string F] ++ strs L)) (hJ : J = Lib.join (F.data.toList :: L) [13, 10]) (hj : J.length ≤ 100000000) (hn : ¬ 32 < L.length)
    (hown : ∀ {w : World} {base : Nat} {v : Value} {xs : List (List UInt8)} (sep : ByteArray) (h : w.ownsRow base 9 1 v xs.length (xs.map fun l => Value.string ⟨l.toArray⟩)) (hl : (Lib.join xs sep.data.toList).length ≤ 140737488355328) (hn : xs.length ≤ 140737488355328),
      Calls Tryz.prog 54 #[v, .string sep] w fun e w' => e = .returned (.string ⟨(Lib.join xs sep.data.toList).toArray⟩) ∧ Below w.heap.size w w') :
    Calls Tryz.prog 54 #[v, .string ⟨#[13, 10]⟩] w fun e w' => e = .returned (.string ⟨J.toArray⟩) ∧ Below w.heap.size w w' := by
  have h2 : w.ownsRow base 9 1 v (F.data.toList :: L).length ((F.data.toList :: L).map fun l => Value.string ⟨l.toArray⟩) := by
    rw [List.length_cons, Nat.add_comm]
    exact h
  have := hown ⟨#[13, 10]⟩ h2 (by rw [show (⟨#[13, 10]⟩ : ByteArray).data.toList = [13, 10] from rfl, ← hJ]; omega) (by simp; omega)
  rw [show (⟨#[13, 10]⟩ : ByteArray).data.toList = [13, 10] from rfl, ← hJ] at this
  exact this
theorem writeP_done {m p F : ByteArray} {hs : List Hd} {body : ByteArray} {close : Bool} {L : List (List UInt8)} {J : List UInt8} (hm : methodB m.data.toList = true) (hp : pathB p.data.toList = true) (h : hs.all headOk = true) (hb : ¬ 8192 < body.size) (hL : L = linesP hs body.data.toList close)
    (hF : F = m ++ ⟨#[32]⟩ ++ p ++ ⟨#[32, 72, 84, 84, 80, 47, 49, 46, 49]⟩) (hJ : J = Lib.join (F.data.toList :: L) [13, 10]) (c1 : ¬ 512 < m.size + 1 + p.size + 9) (c2 : ¬ 32 < L.length) (c3 : ¬ 1024 < L.flatten.length) :
    ((⟨J.toArray⟩ : ByteArray) ++ ⟨#[13, 10, 13, 10]⟩ ++ body, (0 : Int)) = (⟨(writeP m.data.toList p.data.toList hs body.data.toList close).1.toArray⟩, (writeP m.data.toList p.data.toList hs body.data.toList close).2) := by
  have h1 : ¬ 8192 < body.data.toList.length := by simpa using hb
  have h2 : F.data.toList = firstP m.data.toList p.data.toList := by
    rw [hF]
    simp [ByteArray.data_append, firstP, cHttp]
  unfold writeP
  rw [hm, hp, h, if_neg (by decide), if_neg (by decide), if_neg h1, ← hL, first_len, if_neg (by simp only [Bool.or_eq_true, decide_eq_true_eq]; omega)]
  rw [hJ, join_flat, h2]
  refine Prod.ext ?_ rfl
  apply ByteArray.ext
  apply Array.ext'
  simp [ByteArray.data_append]
theorem own_get {w : World} {base n cp : Nat} {ao : Option Addr} {L : List (List UInt8)} (h : w.ownsRow base 9 1 (.slice ao n cp) n (strs L)) (hn : n = L.length) :
    ∃ g, (0 < L.length → ao = some ⟨g, 0, none⟩) ∧ ∀ j (hj : j < L.length), w.cell? ⟨g, j, none⟩ = some (.string ⟨L[j].toArray⟩) := by
  have hc := fun g hg => h.cells (g := g) hg
  obtain ⟨h1, h2⟩ := h
  rcases h2 with ⟨h2, h3⟩ | ⟨g, cap, cur, h2, _⟩
  · exact ⟨0, fun h0 => by omega, fun j hj => by omega⟩
  · cases h2
    refine ⟨g, fun _ => rfl, fun j hj => ?_⟩
    have := hc g rfl j (.string ⟨L[j].toArray⟩) (by simp [strs, hj])
    rw [← this]
    simp only [Addr.add]
    split
    · rename_i h; subst h; rfl
    · simp
/-- The text behind so many of the lines. -/
def textTo (m p : ByteArray) (L : List (List UInt8)) (j : Nat) : List UInt8 := firstP m.data.toList p.data.toList ++ (L.take j).flatMap (fun l => [13, 10] ++ l)
def flatTo (L : List (List UInt8)) (j : Nat) : Int := ((L.take j).flatten.length : Int)
theorem textTo_zero (m p : ByteArray) (L : List (List UInt8)) : m ++ ⟨#[32]⟩ ++ p ++ ⟨#[32, 72, 84, 84, 80, 47, 49, 46, 49]⟩ = ⟨(textTo m p L 0).toArray⟩ := by
  apply ByteArray.ext
  apply Array.ext'
  simp [ByteArray.data_append, textTo, firstP, cHttp]
theorem textTo_succ (m p : ByteArray) (L : List (List UInt8)) (j : Nat) (h : j < L.length) : (⟨(textTo m p L j).toArray⟩ : ByteArray) ++ ⟨#[13, 10]⟩ ++ ⟨L[j].toArray⟩ = ⟨(textTo m p L (j + 1)).toArray⟩ := by
  apply ByteArray.ext
  apply Array.ext'
  unfold textTo
  rw [List.take_succ_eq_append_getElem h, List.flatMap_append]
  simp [ByteArray.data_append]
theorem flatTo_succ (L : List (List UInt8)) (j : Nat) (h : j < L.length) : flatTo L j + (L[j].length : Int) = flatTo L (j + 1) := by
  unfold flatTo
  rw [List.take_succ_eq_append_getElem h, List.flatten_append, List.length_append]
  simp
theorem flatTo_small {hs : List Hd} {body : ByteArray} {close : Bool} {L : List (List UInt8)} (hL : L = linesP hs body.data.toList close) (sb : body.size ≤ 1000000) (sh : ∀ h ∈ hs, h.n.size ≤ 1000000 ∧ h.v.size ≤ 1000000) (hn : ¬ 32 < L.length) (j : Nat) : 0 ≤ flatTo L j ∧ flatTo L j ≤ 70000000 := by
  have h1 := flat_small (L.take j) 2000100 (fun l hl => lines_small hL sb sh l (List.mem_of_mem_take hl))
  have h2 : (L.take j).length ≤ 32 := by rw [List.length_take]; omega
  have h3 : (L.take j).length * 2000100 ≤ 32 * 2000100 := Nat.mul_le_mul_right _ h2
  unfold flatTo
  omega
theorem textTo_small {m p : ByteArray} {hs : List Hd} {body : ByteArray} {close : Bool} {L : List (List UInt8)} (hL : L = linesP hs body.data.toList close) (sm : m.size ≤ 1000000) (sp : p.size ≤ 1000000) (sb : body.size ≤ 1000000) (sh : ∀ h ∈ hs, h.n.size ≤ 1000000 ∧ h.v.size ≤ 1000000) (hn : ¬ 32 < L.length) (j : Nat) : (textTo m p L j).length ≤ 70000000 := by
  have h1 := flat_small ((L.take j).map (fun l => [13, 10] ++ l)) 2000102 (by
    intro l hl
    obtain ⟨x, hx, rfl⟩ := List.mem_map.1 hl
    have := lines_small hL sb sh x (List.mem_of_mem_take hx)
    simp
    omega)
  rw [List.length_map] at h1
  have h2 : (L.take j).length ≤ 32 := by rw [List.length_take]; omega
  have h3 : (L.take j).length * 2000102 ≤ 32 * 2000102 := Nat.mul_le_mul_right _ h2
  unfold textTo
  rw [List.length_append, first_len, List.flatMap_def]
  omega
theorem writeP_flat2 {m p : ByteArray} {hs : List Hd} {body : ByteArray} {close : Bool} {L : List (List UInt8)} (hm : methodB m.data.toList = true) (hp : pathB p.data.toList = true) (h : hs.all headOk = true) (hb : ¬ 8192 < body.size) (hL : L = linesP hs body.data.toList close) (c2 : 1024 < flatTo L L.length) :
    ((⟨#[]⟩ : ByteArray), (282 : Int)) = (⟨(writeP m.data.toList p.data.toList hs body.data.toList close).1.toArray⟩, (writeP m.data.toList p.data.toList hs body.data.toList close).2) :=
  writeP_flat hm hp h hb hL (by unfold flatTo at c2; rw [List.take_of_length_le (Nat.le_refl _)] at c2; omega)
theorem writeP_done2 {m p : ByteArray} {hs : List Hd} {body : ByteArray} {close : Bool} {L : List (List UInt8)} (hm : methodB m.data.toList = true) (hp : pathB p.data.toList = true) (h : hs.all headOk = true) (hb : ¬ 8192 < body.size) (hL : L = linesP hs body.data.toList close)
    (c1 : ¬ 512 < m.size + 1 + p.size + 9) (c2 : ¬ 32 < L.length) (c3 : ¬ 1024 < flatTo L L.length) :
    ((⟨(textTo m p L L.length).toArray⟩ : ByteArray) ++ ⟨#[13, 10, 13, 10]⟩ ++ body, (0 : Int)) = (⟨(writeP m.data.toList p.data.toList hs body.data.toList close).1.toArray⟩, (writeP m.data.toList p.data.toList hs body.data.toList close).2) := by
  have h1 : ¬ 8192 < body.data.toList.length := by simpa using hb
  have h5 : ¬ 1024 < L.flatten.length := by
    unfold flatTo at c3
    rw [List.take_of_length_le (Nat.le_refl _)] at c3
    omega
  unfold writeP
  rw [hm, hp, h, if_neg (by decide), if_neg (by decide), if_neg h1, ← hL, first_len, if_neg (by simp only [Bool.or_eq_true, decide_eq_true_eq]; omega)]
  refine Prod.ext ?_ rfl
  apply ByteArray.ext
  apply Array.ext'
  simp [ByteArray.data_append, textTo]
end Go.Proofs.YtnicmdlicbnlgaaGreatDoor
