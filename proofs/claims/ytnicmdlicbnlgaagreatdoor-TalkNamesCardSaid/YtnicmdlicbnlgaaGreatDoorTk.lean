/-
  A connection in memory: what it has been fed, taken, given.
-/
import Derived.Test.YtnicmdlicbnlgaaGreatDoorTl
import Derived.Test.YtnicmdlicbnlgaaGreatDoorAn
namespace Go.Proofs.YtnicmdlicbnlgaaGreatDoor
open Go.RowKit
set_option linter.unusedVariables false
set_option linter.unusedSimpArgs false

theorem own_setK {W : World} {base : Nat} {e : TypeId} {size : Nat} {v : Value} {n : Nat} {xs : List Value} (h : W.ownsRow base e size v n xs) {a : Addr} (hn : v.ownBlock ≠ some a.block) (u : Value) : (W.setCell a u).ownsRow base e size v n xs :=
  own_keep h fun g hg => Below.heap_setCell _ _ _ _ (by rintro rfl; exact hn hg)
theorem own_drewK {W : World} {base : Nat} {e : TypeId} {size : Nat} {v : Value} {n : Nat} {xs : List Value} (h : W.ownsRow base e size v n xs) : W.drew.ownsRow base e size v n xs := own_keep h fun g hg => rfl
def rq0 : Rq := ⟨⟨#[]⟩, ⟨#[]⟩, [], ⟨#[]⟩, false⟩
def codeP (e : Int) : Int := if e = 280 then 400 else if e = 281 then 413 else if e = 282 then 431 else 0
/-- The next one: a request or a refusal's code. -/
def nextP (F : List UInt8) (k : Nat) : Option (Rq × Int) :=
  match (allP F).1[k]? with
  | some q => some (q, 0)
  | none => if 0 < codeP (allP F).2.2 then some (rq0, codeP (allP F).2.2) else none
theorem next_code {F : List UInt8} {k : Nat} {q : Rq} {c : Int} (h : nextP F k = some (q, c)) : (c = 0 ∧ (allP F).1[k]? = some q) ∨ (0 < c ∧ q = rq0 ∧ (allP F).1[k]? = none ∧ c = codeP (allP F).2.2) := by
  unfold nextP at h
  split at h
  · rename_i q' hq
    cases h
    exact .inl ⟨rfl, hq⟩
  · rename_i hq
    split at h
    · rename_i hc
      cases h
      exact .inr ⟨hc, rfl, hq, rfl⟩
    · cases h
/-- More bytes change nothing of what is there. -/
theorem next_more {F : List UInt8} {k : Nat} {x : Rq × Int} (c : List UInt8) (h : nextP F k = some x) : nextP (F ++ c) k = some x := by
  obtain ⟨q, e⟩ := x
  have hm := all_more c F
  rcases next_code h with ⟨rfl, hq⟩ | ⟨hc, rfl, hq, hcc⟩
  · have hlt : k < (allP F).1.length := (List.getElem?_eq_some_iff.1 hq).1
    have : (allP (F ++ c)).1[k]? = some q := by
      rw [hm]
      split
      · rw [List.getElem?_append_left hlt]; exact hq
      · exact hq
    unfold nextP
    rw [this]
  · have he : ¬ (allP F).2.2 = 0 := fun e0 => by rw [e0] at hcc; simp [codeP] at hcc; omega
    rw [if_neg he] at hm
    unfold nextP
    rw [hm]
    simp only
    rw [hq]
    simp only
    rw [if_pos (by omega), hcc]

/-- What waits, in memory. -/
def NxAt (ok : Nat → Prop) (w : World) (v : Value) : Option (Rq × Int) → Prop
  | none => v = .pointer none
  | some (q, c) => ∃ (A : Nat) (hv : Value), v = .pointer (some ⟨A, 0, none⟩) ∧ Blk w A 95 #[.string q.m, .string q.p, hv, .string q.body, .bool q.close, .int .i64 c] ∧ w.ownsRow 0 88 2 hv q.hs.length (headCells q.hs) ∧ ok A ∧ ∀ g, hv.ownBlock = some g → ok g
theorem NxAt.keep {ok ok' : Nat → Prop} {w w' : World} {v : Value} {o : Option (Rq × Int)} (h : NxAt ok w v o) (hk : ∀ g, ok g → g < w.heap.size → w'.heap[g]? = w.heap[g]? ∧ ok' g) : NxAt ok' w' v o := by
  match o, h with
  | none, h => exact h
  | some (q, c), ⟨A, hv, h1, h2, h3, h4, h5⟩ =>
    exact ⟨A, hv, h1, (hk A h4 h2.lt).1.trans h2, own_keep h3 fun g hg => (hk g (h5 g hg) (h3.lt g hg).2).1, (hk A h4 h2.lt).2, fun g hg => (hk g (h5 g hg) (h3.lt g hg).2).2⟩
def isReq : Option (Rq × Int) → Nat
  | some (_, 0) => 1
  | _ => 0
/-- The list of what was told, by how many. -/
def Lst (F : List UInt8) (told : List Rq) (j : Nat) : Prop := told = (allP F).1.take j ∧ (j ≤ (allP F).1.length ∨ ¬ (allP F).2.2 = 0)
theorem Lst.more {F : List UInt8} {told : List Rq} {j : Nat} (h : Lst F told j) (c : List UInt8) : Lst (F ++ c) told j := by
  obtain ⟨h1, h2⟩ := h
  have hm := all_more c F
  by_cases he : (allP F).2.2 = 0
  · rw [if_pos he] at hm
    have hj := h2.resolve_right (fun h => h he)
    refine ⟨?_, .inl ?_⟩
    · rw [hm, List.take_append_of_le_length hj]; exact h1
    · rw [hm, List.length_append]; omega
  · rw [if_neg he] at hm
    exact ⟨by rw [hm]; exact h1, .inr (by rw [hm]; exact he)⟩
/-- A connection: all its blocks are of S, or N and above. -/
structure TalkIn (N : Nat) (S : Nat → Prop) (fp : Nat → Prop) (w : World) (T R : Nat) (va vw pv bv : Value) (ah wait : Option (Rq × Int)) (F : List UInt8) (told : List Rq) (out : List UInt8) (over : Bool) : Prop where
  tell : TellAt fp w R F told
  blk : Blk w T 66 #[.pointer (some ⟨R, 0, none⟩), va, vw, pv, bv, .bool over]
  ahead : NxAt (fun g => ¬ fp g ∧ (S g ∨ N ≤ g)) w va ah
  waits : NxAt (fun g => ¬ fp g ∧ (S g ∨ N ≤ g)) w vw wait
  tn : ¬ fp T
  ts : S T ∨ N ≤ T
  fs : ∀ g, fp g → S g ∨ N ≤ g
  addr : pv = .pointer none ∨ pv = .pointer (some ⟨T, 3, none⟩)
  buf : w.ownsRow 0 5 1 bv out.length (u8s out)
  bn : ∀ g, bv.ownBlock = some g → ¬ fp g ∧ (S g ∨ N ≤ g)
  bz : out = [] → bv = .slice none 0 0
  low : N ≤ w.heap.size
def TalkAt (N : Nat) (S : Nat → Prop) (w : World) (T : Nat) (wait : Option (Rq × Int)) (F : List UInt8) (k : Nat) (out : List UInt8) (over : Bool) : Prop :=
  ∃ (fp : Nat → Prop) (R : Nat) (va vw pv bv : Value) (ah : Option (Rq × Int)) (told : List Rq), TalkIn N S fp w T R va vw pv bv ah wait F told out over ∧ (ah = none ∨ ah = nextP F k) ∧ Lst F told (k + isReq ah)
section
variable {N : Nat} {S fp : Nat → Prop} {w w' : World} {T R : Nat} {va vw pv bv : Value} {ah wait : Option (Rq × Int)} {F : List UInt8} {k : Nat} {told : List Rq} {out : List UInt8} {over : Bool}
theorem TalkIn.keep (h : TalkIn N S fp w T R va vw pv bv ah wait F told out over) (hk : ∀ g, (S g ∨ N ≤ g) → g < w.heap.size → w'.heap[g]? = w.heap[g]?) (hz : w.heap.size ≤ w'.heap.size) : TalkIn N S fp w' T R va vw pv bv ah wait F told out over :=
  ⟨h.tell.keep (fun g hg hl => hk g (h.fs g hg) hl) hz, (hk T h.ts h.blk.lt).trans h.blk, h.ahead.keep fun g hg hl => ⟨hk g hg.2 hl, hg⟩, h.waits.keep fun g hg hl => ⟨hk g hg.2 hl, hg⟩, h.tn, h.ts, h.fs, h.addr, own_keep h.buf fun g hg => hk g (h.bn g hg).2 (h.buf.lt g hg).2, h.bn, h.bz, Nat.le_trans h.low hz⟩
theorem TalkIn.below (h : TalkIn N S fp w T R va vw pv bv ah wait F told out over) (hb : Below w.heap.size w w') : TalkIn N S fp w' T R va vw pv bv ah wait F told out over := h.keep (fun g _ hl => hb.block g hl) hb.size
theorem TalkAt.keep (h : TalkAt N S w T wait F k out over) (hk : ∀ g, (S g ∨ N ≤ g) → g < w.heap.size → w'.heap[g]? = w.heap[g]?) (hz : w.heap.size ≤ w'.heap.size) : TalkAt N S w' T wait F k out over := by
  obtain ⟨fp, R, va, vw, pv, bv, ah, told, h, h2⟩ := h
  exact ⟨fp, R, va, vw, pv, bv, ah, told, h.keep hk hz, h2⟩
theorem TalkAt.below (h : TalkAt N S w T wait F k out over) (hb : Below w.heap.size w w') : TalkAt N S w' T wait F k out over := h.keep (fun g _ hl => hb.block g hl) hb.size
theorem TalkAt.low (h : TalkAt N S w T wait F k out over) : N ≤ w.heap.size := by
  obtain ⟨fp, R, va, vw, pv, bv, ah, told, h, _⟩ := h
  exact h.low
/-- The reader alone has turned. -/
theorem TalkIn.turn (h : TalkIn N S fp w T R va vw pv bv ah wait F told out over) {fp' : Nat → Prop} {F' : List UInt8} {told' : List Rq} (ht : Turned w.heap.size fp w w') (h' : TellAt fp' w' R F' told') (hf : ∀ g, fp' g → fp g ∨ w.heap.size ≤ g) : TalkIn N S fp' w' T R va vw pv bv ah wait F' told' out over := by
  have hlow := h.low
  have key : ∀ g, ¬ fp g ∧ (S g ∨ N ≤ g) → g < w.heap.size → w'.heap[g]? = w.heap[g]? ∧ ¬ fp' g ∧ (S g ∨ N ≤ g) := fun g hg hl => ⟨ht.block g hl hg.1, fun h1 => (hf g h1).elim hg.1 fun h2 => by omega, hg.2⟩
  exact ⟨h', (key T ⟨h.tn, h.ts⟩ h.blk.lt).1.trans h.blk, h.ahead.keep key, h.waits.keep key, (key T ⟨h.tn, h.ts⟩ h.blk.lt).2.1, h.ts, fun g hg => (hf g hg).elim (h.fs g) fun h2 => .inr (by omega), h.addr, own_keep h.buf fun g hg => (key g (h.bn g hg) (h.buf.lt g hg).2).1, fun g hg => (key g (h.bn g hg) (h.buf.lt g hg).2).2, h.bz, Nat.le_trans hlow ht.size⟩
theorem TalkIn.turned (h : TalkIn N S fp w T R va vw pv bv ah wait F told out over) (ht : Turned w.heap.size fp w w') : Turned N S w w' := ht.more h.low fun g hg hf => (h.fs g hf).resolve_right fun h2 => by omega
theorem NxAt.setT {ok : Nat → Prop} {v : Value} {o : Option (Rq × Int)} {cs : Array Value} (h : NxAt ok w v o) (hT : Blk w T 66 cs) (i : Nat) (u : Value) : NxAt ok (w.setCell ⟨T, i, none⟩ u) v o := by
  have hne : ∀ g, g ≠ T → (w.setCell ⟨T, i, none⟩ u).heap[g]? = w.heap[g]? := fun g hg => Below.heap_setCell _ _ _ _ hg
  match o, h with
  | none, h => exact h
  | some (q, c), ⟨A, hv, h1, h2, h3, h4, h5⟩ =>
    refine ⟨A, hv, h1, (hne A fun e => ?_).trans h2, own_keep h3 fun g hg => hne g fun e => ?_, h4, h5⟩
    · subst e
      unfold Blk at h2 hT
      rw [hT] at h2
      injection h2 with h2
      injection h2 with _ h2
      exact absurd h2 (by decide)
    · subst e
      exact own_blk h3 hT (by decide) hg
theorem TalkIn.other (h : TalkIn N S fp w T R va vw pv bv ah wait F told out over) (i : Nat) (u : Value) : TellAt fp (w.setCell ⟨T, i, none⟩ u) R F told ∧ (w.setCell ⟨T, i, none⟩ u).ownsRow 0 5 1 bv out.length (u8s out) :=
  ⟨h.tell.keep (fun g hg _ => Below.heap_setCell _ _ _ _ (fun e => h.tn (show fp T from (show g = T from e) ▸ hg))) (by simp [World.setCell]), own_keep h.buf fun g hg => Below.heap_setCell _ _ _ _ fun e => own_blk h.buf h.blk (by decide) ((show g = T from e) ▸ hg)⟩
theorem size_set (w : World) (a : Addr) (u : Value) : (w.setCell a u).heap.size = w.heap.size := by simp [World.setCell]
theorem TalkIn.setAhead (h : TalkIn N S fp w T R va vw pv bv ah wait F told out over) {va' : Value} {ah' : Option (Rq × Int)} (ha : NxAt (fun g => ¬ fp g ∧ (S g ∨ N ≤ g)) w va' ah') :
    TalkIn N S fp (w.setCell ⟨T, 1, none⟩ va') T R va' vw pv bv ah' wait F told out over :=
  ⟨(h.other 1 va').1, h.blk.set_ 1 va', ha.setT h.blk 1 va', h.waits.setT h.blk 1 va', h.tn, h.ts, h.fs, h.addr, (h.other 1 va').2, h.bn, h.bz, by rw [size_set]; exact h.low⟩
theorem TalkIn.setWait (h : TalkIn N S fp w T R va vw pv bv ah wait F told out over) {vw' : Value} {wait' : Option (Rq × Int)} (ha : NxAt (fun g => ¬ fp g ∧ (S g ∨ N ≤ g)) w vw' wait') :
    TalkIn N S fp (w.setCell ⟨T, 2, none⟩ vw') T R va vw' pv bv ah wait' F told out over :=
  ⟨(h.other 2 vw').1, h.blk.set_ 2 vw', h.ahead.setT h.blk 2 vw', ha.setT h.blk 2 vw', h.tn, h.ts, h.fs, h.addr, (h.other 2 vw').2, h.bn, h.bz, by rw [size_set]; exact h.low⟩
theorem TalkIn.setAddr (h : TalkIn N S fp w T R va vw pv bv ah wait F told out over) {pv' : Value} (hp : pv' = .pointer none ∨ pv' = .pointer (some ⟨T, 3, none⟩)) :
    TalkIn N S fp (w.setCell ⟨T, 3, none⟩ pv') T R va vw pv' bv ah wait F told out over :=
  ⟨(h.other 3 pv').1, h.blk.set_ 3 pv', h.ahead.setT h.blk 3 pv', h.waits.setT h.blk 3 pv', h.tn, h.ts, h.fs, hp, (h.other 3 pv').2, h.bn, h.bz, by rw [size_set]; exact h.low⟩
theorem TalkIn.setOver (h : TalkIn N S fp w T R va vw pv bv ah wait F told out over) (over' : Bool) :
    TalkIn N S fp (w.setCell ⟨T, 5, none⟩ (.bool over')) T R va vw pv bv ah wait F told out over' :=
  ⟨(h.other 5 _).1, h.blk.set_ 5 _, h.ahead.setT h.blk 5 _, h.waits.setT h.blk 5 _, h.tn, h.ts, h.fs, h.addr, (h.other 5 _).2, h.bn, h.bz, by rw [size_set]; exact h.low⟩
theorem TalkIn.setBuf (h : TalkIn N S fp w T R va vw pv bv ah wait F told out over) {bv' : Value} {out' : List UInt8} (hb : w.ownsRow 0 5 1 bv' out'.length (u8s out')) (hn : ∀ g, bv'.ownBlock = some g → ¬ fp g ∧ (S g ∨ N ≤ g)) (hz : out' = [] → bv' = .slice none 0 0) :
    TalkIn N S fp (w.setCell ⟨T, 4, none⟩ bv') T R va vw pv bv' ah wait F told out' over :=
  ⟨(h.other 4 _).1, h.blk.set_ 4 _, h.ahead.setT h.blk 4 _, h.waits.setT h.blk 4 _, h.tn, h.ts, h.fs, h.addr, own_keep hb fun g hg => Below.heap_setCell _ _ _ _ fun e => own_blk hb h.blk (by decide) ((show g = T from e) ▸ hg), hn, hz, by rw [size_set]; exact h.low⟩
theorem TalkIn.turnT (h : TalkIn N S fp w T R va vw pv bv ah wait F told out over) {W : World} (ht : Turned N S W w) (i : Nat) (u : Value) : Turned N S W (w.setCell ⟨T, i, none⟩ u) := ht.set_ (a := ⟨T, i, none⟩) h.ts u
/-- New blocks stand apart from the reader. -/
theorem TalkIn.tight (h : TalkIn N S fp w T R va vw pv bv ah wait F told out over) : TalkIn N S (fun g => fp g ∧ g < w.heap.size) w T R va vw pv bv ah wait F told out over :=
  ⟨h.tell.mono fun g hl hg => ⟨hg, hl⟩, h.blk, h.ahead.keep fun g hg _ => ⟨rfl, fun h1 => hg.1 h1.1, hg.2⟩, h.waits.keep fun g hg _ => ⟨rfl, fun h1 => hg.1 h1.1, hg.2⟩, fun h1 => h.tn h1.1, h.ts, fun g hg => h.fs g hg.1, h.addr, h.buf, fun g hg => ⟨fun h1 => (h.bn g hg).1 h1.1, (h.bn g hg).2⟩, h.bz, h.low⟩
/-- What is told is laid down as what comes next. -/
theorem TalkIn.lookNew (h : TalkIn N S fp w T R va vw pv bv ah wait F told out over) {w2 : World} (hb : Below w.heap.size w w2) {A : Nat} {q : Rq} {c : Int} {hv : Value} (hA : w.heap.size ≤ A) (hB : Blk w2 A 95 #[.string q.m, .string q.p, hv, .string q.body, .bool q.close, .int .i64 c])
    (ho : w.ownsRow 0 88 2 hv q.hs.length (headCells q.hs)) (okh : ∀ g, hv.ownBlock = some g → ¬ fp g ∧ (S g ∨ N ≤ g)) :
    TalkIn N S (fun g => fp g ∧ g < w.heap.size) (w2.setCell ⟨T, 1, none⟩ (.pointer (some ⟨A, 0, none⟩))) T R (.pointer (some ⟨A, 0, none⟩)) vw pv bv (some (q, c)) wait F told out over := by
  have hlow := h.low
  exact (h.tight.below hb).setAhead ⟨A, hv, rfl, hB, own_keep ho fun g hg => hb.block g (ho.lt g hg).2, ⟨fun h1 => by omega, .inr (by omega)⟩, fun g hg => ⟨fun h1 => (okh g hg).1 h1.1, (okh g hg).2⟩⟩
end
end Go.Proofs.YtnicmdlicbnlgaaGreatDoor
