/-
  A reader alone, with what it has been fed and has told.
-/
import Derived.Test.YtnicmdlicbnlgaaGreatDoorAg
namespace Go.Proofs.YtnicmdlicbnlgaaGreatDoor
open Go.RowKit
set_option linter.unusedVariables false
set_option linter.unusedSimpArgs false

/-- A reader that stands nowhere but in 'fp'. -/
def TellAt (fp : Nat → Prop) (w : World) (R : Nat) (F : List UInt8) (told : List Rq) : Prop :=
  ∃ (s : RS) (b : List UInt8) (bv hv yv : Value) (wrong used taken : Int), RdAt w.heap.size (foot R bv hv yv) w R true s b bv hv yv wrong used taken ∧ Story F told s b wrong ∧ 0 ≤ used ∧ 0 ≤ taken ∧ used + taken + b.length = F.length ∧ ∀ k, foot R bv hv yv k → fp k
theorem TellAt.keep {fp : Nat → Prop} {w w' : World} {R : Nat} {F : List UInt8} {told : List Rq} (h : TellAt fp w R F told) (hk : ∀ k, fp k → k < w.heap.size → w'.heap[k]? = w.heap[k]?) (hz : w.heap.size ≤ w'.heap.size) : TellAt fp w' R F told := by
  obtain ⟨s, b, bv, hv, yv, wrong, used, taken, h1, h2, h3, h4, h5, h6⟩ := h
  exact ⟨s, b, bv, hv, yv, wrong, used, taken, (h1.keep (fun k hkf => hk k (h6 k hkf) (h1.lt hkf)) hz).rebase, h2, h3, h4, h5, h6⟩
theorem TellAt.below {fp : Nat → Prop} {w w' : World} {R : Nat} {F : List UInt8} {told : List Rq} (h : TellAt fp w R F told) (hb : Below w.heap.size w w') : TellAt fp w' R F told := h.keep (fun k _ hk => hb.block k hk) hb.size
theorem TellAt.mono {fp fp' : Nat → Prop} {w : World} {R : Nat} {F : List UInt8} {told : List Rq} (h : TellAt fp w R F told) (hf : ∀ k, k < w.heap.size → fp k → fp' k) : TellAt fp' w R F told := by
  obtain ⟨s, b, bv, hv, yv, wrong, used, taken, h1, h2, h3, h4, h5, h6⟩ := h
  exact ⟨s, b, bv, hv, yv, wrong, used, taken, h1, h2, h3, h4, h5, fun k hk => hf k (h1.lt hk) (h6 k hk)⟩
theorem TellAt.new (w : World) : TellAt (fun k => k = w.heap.size) (w.alloc (.cells (rdCells RS.init (.slice none 0 0) (.slice none 0 0) (.slice none 0 0) 0 0 0) 50)) w.heap.size [] [] :=
  ⟨RS.init, [], _, _, _, 0, 0, 0, (new_rd w true).rebase, Story.start, by omega, by omega, rfl, fun k hk => by
    rcases hk with hk | hk | hk | hk
    · exact hk
    · simp [Value.ownBlock] at hk
    · simp [Value.ownBlock] at hk
    · simp [Value.ownBlock] at hk⟩
/-- What a call leaves of the world: but for the blocks of fp all is as it was, and they are in fp or new. -/
theorem tl_feed (fp : Nat → Prop) (w : World) (R : Nat) (F : List UInt8) (told : List Rq) (x : ByteArray) (h : TellAt fp w R F told) (hx : x.size ≤ 16384) (hF : F.length ≤ 1000000) :
    Calls Tryz.prog 14 #[.pointer (some ⟨R, 0, none⟩), .string x] w fun e w' => e = .returned (.int .i64 0) ∧ Turned w.heap.size fp w w' ∧ TellAt (fun k => fp k ∨ w.heap.size ≤ k) w' R (F ++ x.data.toList) told := by
  obtain ⟨s, b, bv, hv, yv, wrong, used, taken, h1, h2, h3, h4, h5, h6⟩ := h
  have hc := rk_feed w.heap.size (foot R bv hv yv) R s b bv hv yv wrong used taken x w h1 hx (by omega)
  refine hc.mono ?_
  rintro e w' ⟨rfl, hT, bv', hR⟩
  exact ⟨rfl, hT.more (Nat.le_refl _) fun k _ hk => h6 k hk, s, b ++ x.data.toList, bv', hv, yv, wrong, used, taken, hR.rebase, h2.feed _, h3, h4, by rw [List.length_append, List.length_append]; omega, fun k hk => (hR.mine k hk).imp (h6 k) id⟩
/-- What 'Next' tells. -/
def TlNext (fp : Nat → Prop) (w : World) (R : Nat) (F : List UInt8) (told : List Rq) (en : Ending) (w' : World) : Prop :=
  Turned w.heap.size fp w w' ∧ ((∃ e, en = .returned (.tuple #[zeroReq, .bool false, .int .i64 e]) ∧ TellAt (fun k => fp k ∨ w.heap.size ≤ k) w' R F told ∧ (allP F).1 = told ∧ (allP F).2.2 = e) ∨
    (∃ q hq, en = .returned (.tuple #[rqVal q hq, .bool true, .int .i64 0]) ∧ TellAt (fun k => (fp k ∨ w.heap.size ≤ k) ∧ hq.ownBlock ≠ some k) w' R F (told ++ [q]) ∧
      w'.ownsRow 0 88 2 hq q.hs.length (headCells q.hs) ∧ (∀ k, hq.ownBlock = some k → fp k ∨ w.heap.size ≤ k) ∧ ∃ l, (allP F).1 = told ++ q :: l))
theorem tl_next (fp : Nat → Prop) (w : World) (R : Nat) (F : List UInt8) (told : List Rq) (B : Nat) (he : EnvAt B w) (hB : B ≤ w.heap.size) (hBS : ∀ k, fp k → B ≤ k) (h : TellAt fp w R F told) (hF : F.length ≤ 1000000) :
    Calls Tryz.prog 16 #[.pointer (some ⟨R, 0, none⟩)] w (TlNext fp w R F told) := by
  obtain ⟨s, b, bv, hv, yv, wrong, used, taken, h1, h2, h3, h4, h5, h6⟩ := h
  by_cases hw : wrong = 0
  · subst hw
    have hwf : s.wf := by
      rcases h2 with ⟨_, q, _⟩ | ⟨q, _⟩
      · exact q
      · exact absurd rfl q
    have hc := rk_next w.heap.size (foot R bv hv yv) R true s b bv hv yv used taken w h1 B he hB (fun k hk => hBS k (h6 k hk)) h4 h3 (by omega) hwf
    refine hc.mono ?_
    rintro en w' ⟨hT, hcase⟩
    refine ⟨hT.more (Nat.le_refl _) fun k _ hk => h6 k hk, ?_⟩
    cases htl : tellP s b with
    | wait s' b' =>
      rw [htl] at hcase
      obtain ⟨rfl, hwf', bv', hv', yv', t', hR, q0, q1⟩ := hcase
      obtain ⟨a1, a2, a3⟩ := h2.wait htl hwf'
      exact .inl ⟨0, rfl, ⟨s', b', bv', hv', yv', 0, used, t', hR.rebase, a1, h3, q0, by omega, fun k hk => (hR.mine k hk).imp (h6 k) id⟩, a2, a3⟩
    | refuse e =>
      rw [htl] at hcase
      obtain ⟨rfl, s', b', bv', hv', yv', t', hR, q0, q1⟩ := hcase
      obtain ⟨a1, a2, a3⟩ := h2.refuse htl s' b'
      exact .inl ⟨e, rfl, ⟨s', b', bv', hv', yv', e, used, t', hR.rebase, a1, h3, q0, by omega, fun k hk => (hR.mine k hk).imp (h6 k) id⟩, a2, a3⟩
    | done q r =>
      rw [htl] at hcase
      obtain ⟨bv', hq, rfl, hR, hH, hap⟩ := hcase
      obtain ⟨a1, a2⟩ := h2.done htl
      have hlen := done_len htl
      exact .inr ⟨q, hq, rfl, ⟨RS.init, r, bv', _, _, 0, used + (taken + b.length - r.length), 0, hR.rebase, a1, by omega, by omega, by omega, fun k hk => ⟨(hR.mine k hk).imp (h6 k) id, fun e => (hap k e).2 hk⟩⟩, hH, fun k hk => ((hap k hk).1).imp (h6 k) id, a2⟩
  · refine (rk_next_wrong w.heap.size (foot R bv hv yv) R true s b bv hv yv wrong used taken w h1 hw).mono ?_
    rintro en w' ⟨rfl, hb⟩
    obtain ⟨a2, a3⟩ := h2.wrong hw
    exact ⟨Turned.of_below hb (Nat.le_refl _), .inl ⟨wrong, rfl, ⟨s, b, bv, hv, yv, wrong, used, taken, (h1.below hb).rebase, h2, h3, h4, h5, fun k hk => .inl (h6 k hk)⟩, a2, a3⟩⟩
end Go.Proofs.YtnicmdlicbnlgaaGreatDoor
