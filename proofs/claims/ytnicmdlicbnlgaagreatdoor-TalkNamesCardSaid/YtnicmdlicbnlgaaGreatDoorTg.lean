/-
  Walks: a connection's Out and Give.
-/
import Derived.Test.YtnicmdlicbnlgaaGreatDoorTb
namespace Go.Proofs.YtnicmdlicbnlgaaGreatDoor
open Go.RowKit
set_option linter.unusedVariables false
set_option linter.unusedSimpArgs false

theorem set_same_heap {w w' : World} {g : Nat} (a : Addr) (v : Value) (h : w'.heap[g]? = w.heap[g]?) : (w'.setCell a v).heap[g]? = (w.setCell a v).heap[g]? := by
  unfold World.setCell
  simp only [Array.getElem?_modify, h]
set_option maxRecDepth 100000 in
set_option maxHeartbeats 1600000 in
theorem tk_out (N : Nat) (S : Nat → Prop) (w : World) (T : Nat) (wait : Option (Rq × Int)) (F : List UInt8) (k : Nat) (out : List UInt8) (over : Bool) (h : TalkAt N S w T wait F k out over) :
    Calls Tryz.prog 31 #[.pointer (some ⟨T, 0, none⟩)] w (TalkGoes N S w T wait F k [] over (.tuple #[.string ⟨out.toArray⟩, .int .i64 0])) := by
  obtain ⟨fp, R, va, vw, pv, bv, ah, told, h, hn, hl⟩ := h
  have HN := Lib.hid (tk_none h.blk)
  have HS := Lib.hid (bd_string h.blk h.buf h.bz)
  have hTlt : T < w.heap.size := h.blk.lt
  have HQ : Hid (∀ w1, Turned w.heap.size (fun g => bv.ownBlock = some g) w w1 → Blk w1 T 66 #[.pointer (some ⟨R, 0, none⟩), va, vw, pv, bv, .bool over] ∧
      TalkGoes N S w T wait F k [] over (.tuple #[.string ⟨out.toArray⟩, .int .i64 0]) (.returned (.tuple #[.string ⟨out.toArray⟩, .int .i64 0])) ((w1.setCell ⟨T, 3, none⟩ (.pointer none)).setCell ⟨T, 4, none⟩ (.slice none 0 0))) := fun w1 ht => by
    refine ⟨(ht.block T hTlt (own_blk h.buf h.blk (by decide))).trans h.blk, rfl, ?_, ?_⟩
    · exact ((ht.more h.low fun g hg hb => ((h.bn g hb).2).resolve_right (by omega)).set_ (a := ⟨T, 3, none⟩) h.ts _).set_ (a := ⟨T, 4, none⟩) h.ts _
    · have h3 := h.setAddr (pv' := .pointer none) (.inl rfl)
      exact ⟨_, R, va, vw, .pointer none, .slice none 0 0, ah, told, h3.wrote (w' := w1.setCell ⟨T, 3, none⟩ (.pointer none)) (World.ownsRow_nil _ _ _ _) (fun g hg hne => set_same_heap _ _ (ht.block g (by rw [size_set] at hg; exact hg) hne)) (by rw [size_set, size_set]; exact ht.size) (fun g hg => by simp [Value.ownBlock] at hg) (fun _ => rfl), hn, hl⟩
  generalize TalkGoes N S w T wait F k [] over (.tuple #[.string ⟨out.toArray⟩, .int .i64 0]) = Q at HQ ⊢
  clear h hn hl
  go_enter Tryz.func31, Tryz.ntmps31
  go_wp2_with fail
  refine HN.out.mono ?_
  rintro en w1 ⟨rfl, rfl⟩
  go_wp2_with fail
  refine HS.out.mono ?_
  rintro en w1 ⟨rfl, ht⟩
  obtain ⟨hb, hq⟩ := HQ.out w1 ht
  have HB := Lib.hid hb
  have HQ2 := Lib.hid hq
  clear hb hq ht
  go_wp2_with fail
  refine (bd_reset HB.out).mono ?_
  rintro en w2 ⟨rfl, hw2⟩
  rw [← hw2] at HQ2
  clear hw2
  go_wp2_with fail
  exact HQ2.out
theorem tk_give_none (N : Nat) (S : Nat → Prop) (w : World) (T : Nat) (F : List UInt8) (k : Nat) (out : List UInt8) (over : Bool) (code : Int) (body : ByteArray) (h : TalkAt N S w T none F k out over) :
    Calls Tryz.prog 29 #[.pointer (some ⟨T, 0, none⟩), .int .i64 code, .string body] w fun e w' => e = .returned (.int .i64 6) ∧ w = w' := by
  obtain ⟨fp, R, va, vw, pv, bv, ah, told, h, -, -⟩ := h
  have HN := Lib.hid (tk_none h.blk)
  obtain rfl : vw = .pointer none := h.waits
  have c2 : w.cell? ⟨T, 2, none⟩ = some (.pointer none) := h.blk.cell 2
  clear h
  go_enter Tryz.func29, Tryz.ntmps29
  go_wp2_with fail
  refine HN.out.mono ?_
  rintro en w1 ⟨rfl, rfl⟩
  go_wp2_with fail
  go_ret
  exact ⟨rfl, rfl⟩
theorem answer_size (code : Int) (body : ByteArray) (last : Bool) : (answerP code body.data.toList last).1.length ≤ 900000000000 := by
  unfold answerP
  split
  · simp
  · split
    · simp
    · rename_i h1 h2
      simp only [Bool.or_eq_true, decide_eq_true_eq, not_or] at h1
      have l1 := itoa_len code (by omega)
      have l2 := itoa_len (body.data.toList.length : Int) (by omega)
      have l3 := reason_len code
      simp only [List.length_append, List.length_cons, List.length_nil]
      split
      · simp only [List.length_cons, List.length_nil]; omega
      · simp only [List.length_nil]; omega
def lastP (q : Rq) (c : Int) : Bool := decide (0 < c) || q.close
def GivePost (N : Nat) (S : Nat → Prop) (w : World) (T : Nat) (q : Rq) (c : Int) (F : List UInt8) (k : Nat) (out : List UInt8) (over : Bool) (p : List UInt8 × Int) (en : Ending) (w' : World) : Prop :=
  en = .returned (.int .i64 p.2) ∧ Turned N S w w' ∧ (if p.2 = 0 then TalkAt N S w' T none F k (out ++ p.1) (lastP q c) else TalkAt N S w' T (some (q, c)) F k out over)
set_option maxRecDepth 100000 in
set_option maxHeartbeats 1600000 in
theorem tk_give (N : Nat) (S : Nat → Prop) (w : World) (T : Nat) (q : Rq) (c : Int) (F : List UInt8) (k : Nat) (out : List UInt8) (over : Bool) (code : Int) (body : ByteArray) (he : Env w) (h : TalkAt N S w T (some (q, c)) F k out over) (hb : body.size ≤ 140737488355328) (ho : out.length ≤ 100000000000) :
    Calls Tryz.prog 29 #[.pointer (some ⟨T, 0, none⟩), .int .i64 code, .string body] w (GivePost N S w T q c F k out over (answerP code body.data.toList (lastP q c))) := by
  obtain ⟨fp, R, va, vw, pv, bv, ah, told, h, hn, hl⟩ := h
  have HN := Lib.hid (tk_none h.blk)
  obtain ⟨A, hv, rfl, hA, -⟩ := h.waits
  have HAN := Lib.hid (wr_Answer code body (lastP q c) w he hb)
  have c2 : w.cell? ⟨T, 2, none⟩ = some (.pointer (some ⟨A, 0, none⟩)) := h.blk.cell 2
  have a4 : w.cell? ⟨A, 4, none⟩ = some (.bool q.close) := hA.cell 4
  have a5 : w.cell? ⟨A, 5, none⟩ = some (.int .i64 c) := hA.cell 5
  have hplen : (answerP code body.data.toList (lastP q c)).1.length ≤ 900000000000 := answer_size code body (lastP q c)
  obtain ⟨lb, hlb⟩ : ∃ lb, lb = lastP q c := ⟨_, rfl⟩
  obtain ⟨p, hp⟩ : ∃ p, p = answerP code body.data.toList (lastP q c) := ⟨_, rfl⟩
  rw [← hp] at HAN hplen ⊢
  rw [← hlb] at HAN
  have HBAD : Hid (∀ W, Below w.heap.size w W → ¬ p.2 = 0 → GivePost N S w T q c F k out over p (.returned (.int .i64 p.2)) W) := fun W hW h1 => ⟨rfl, Turned.of_below hW h.low, by rw [if_neg h1]; exact ⟨_, R, va, _, pv, bv, ah, told, h.below hW, hn, hl⟩⟩
  have HW : Hid (∀ W, Below w.heap.size w W → Calls Tryz.prog 56 #[.pointer (some ⟨T, 3, none⟩), .string ⟨p.1.toArray⟩] W (WrPost N S W T R va (.pointer (some ⟨A, 0, none⟩)) ah (some (q, c)) F told (out ++ p.1) over (⟨p.1.toArray⟩ : ByteArray).size)) := fun W hW => by
    have := tk_write N S fp W T R va (.pointer (some ⟨A, 0, none⟩)) pv bv ah (some (q, c)) F told out over ⟨p.1.toArray⟩ (h.below hW) (by
      have : (⟨p.1.toArray⟩ : ByteArray).size = p.1.length := by simp [ByteArray.size]
      omega)
    simpa using this
  have HOK : Hid (∀ W W2 fp2 bv2, p.2 = 0 → Below w.heap.size w W → Turned N S W W2 → TalkIn N S fp2 W2 T R va (.pointer (some ⟨A, 0, none⟩)) (.pointer (some ⟨T, 3, none⟩)) bv2 ah (some (q, c)) F told (out ++ p.1) over → GivePost N S w T q c F k out over p (.returned (.int .i64 0)) ((W2.setCell ⟨T, 2, none⟩ (.pointer none)).setCell ⟨T, 5, none⟩ (.bool lb))) := fun W W2 fp2 bv2 h0 hW hT h2 => by
    refine ⟨by rw [h0], (((Turned.of_below hW h.low).trans hT).set_ (a := ⟨T, 2, none⟩) h.ts _).set_ (a := ⟨T, 5, none⟩) h.ts _, ?_⟩
    rw [if_pos h0, ← hlb]
    exact ⟨fp2, R, va, .pointer none, _, bv2, ah, told, (h2.setWait (vw' := .pointer none) (wait' := none) rfl).setOver lb, hn, hl⟩
  have hlb2 : (0 < c ∧ lb = true) ∨ (¬ 0 < c ∧ lb = q.close) := by
    rw [hlb]
    unfold lastP
    by_cases hc : 0 < c
    · exact .inl ⟨hc, by simp [hc]⟩
    · exact .inr ⟨hc, by simp [hc]⟩
  generalize GivePost N S w T q c F k out over p = Q at HBAD HOK ⊢
  obtain ⟨s, hs⟩ : ∃ s : ByteArray, (⟨p.1.toArray⟩ : ByteArray) = s := ⟨_, rfl⟩
  rw [hs] at HAN HW
  generalize p.2 = e at HAN HBAD HOK ⊢
  have HP1 : Hid (∀ W W2, e = 0 → Below w.heap.size w W → WrPost N S W T R va (.pointer (some ⟨A, 0, none⟩)) ah (some (q, c)) F told (out ++ p.1) over s.size (.returned (.tuple #[.int .i64 s.size, .nilIface])) W2 → (∃ pv2 bv2, Blk W2 T 66 #[.pointer (some ⟨R, 0, none⟩), va, .pointer (some ⟨A, 0, none⟩), pv2, bv2, .bool over]) ∧ Q (.returned (.int .i64 0)) ((W2.setCell ⟨T, 2, none⟩ (.pointer none)).setCell ⟨T, 5, none⟩ (.bool lb))) := fun W W2 h0 hW ⟨_, hT, fp2, bv2, h2⟩ => ⟨⟨_, _, h2.blk⟩, HOK.out W W2 fp2 bv2 h0 hW hT h2⟩
  clear h hn hl hA hp hlb hs HOK hplen he hb ho
  rcases hlb2 with ⟨hc, rfl⟩ | ⟨hc, rfl⟩
  · by_cases h0 : e = 0
    · subst h0
      go_enter Tryz.func29, Tryz.ntmps29
      go_wp2_with fail
      refine HN.out.mono ?_
      rintro en w1 ⟨rfl, rfl⟩
      go_wp2_with fail
      refine HAN.out.mono ?_
      rintro en w2 ⟨rfl, hb2⟩
      have HB2 := Lib.hid hb2; clear hb2
      go_wp2_with fail
      refine (HW.out _ HB2.out).mono ?_
      rintro en w3 hwr
      obtain rfl : en = .returned (.tuple #[.int .i64 s.size, .nilIface]) := hwr.1
      obtain ⟨⟨pv2, bv2, hb3⟩, hq⟩ := HP1.out w2 w3 (by first | rfl | trivial) HB2.out hwr
      have HQ := Lib.hid hq
      have k2 : w3.cell? ⟨T, 2, none⟩ = some (.pointer (some ⟨A, 0, none⟩)) := hb3.cell 2
      have k5 : w3.cell? ⟨T, 5, none⟩ = some (.bool over) := hb3.cell 5
      have f2 := hb3.frozen 2
      have f5 := hb3.frozen 5
      have hlt := hb3.lt
      clear hwr hq hb3
      go_wp2_with fail
      exact HQ.out
    · skip
      go_enter Tryz.func29, Tryz.ntmps29
      go_wp2_with fail
      refine HN.out.mono ?_
      rintro en w1 ⟨rfl, rfl⟩
      go_wp2_with fail
      refine HAN.out.mono ?_
      rintro en w2 ⟨rfl, hb2⟩
      have HB2 := Lib.hid hb2; clear hb2
      go_wp2_with fail
      exact HBAD.out _ HB2.out h0
  · have hd : decide ((0 : Int) < c) = false := by simpa using hc
    clear hc
    by_cases h0 : e = 0
    · subst h0
      cases hcl : q.close <;> rw [hcl] at a4 HAN HP1
      all_goals
        go_enter Tryz.func29, Tryz.ntmps29
        go_wp2_with fail
        refine HN.out.mono ?_
        rintro en w1 ⟨rfl, rfl⟩
        go_wp2_with fail
        refine HAN.out.mono ?_
        rintro en w2 ⟨rfl, hb2⟩
        have HB2 := Lib.hid hb2; clear hb2
        go_wp2_with fail
        refine (HW.out _ HB2.out).mono ?_
        rintro en w3 hwr
        obtain rfl : en = .returned (.tuple #[.int .i64 s.size, .nilIface]) := hwr.1
        obtain ⟨⟨pv2, bv2, hb3⟩, hq⟩ := HP1.out w2 w3 (by first | rfl | trivial) HB2.out hwr
        have HQ := Lib.hid hq
        have k2 : w3.cell? ⟨T, 2, none⟩ = some (.pointer (some ⟨A, 0, none⟩)) := hb3.cell 2
        have k5 : w3.cell? ⟨T, 5, none⟩ = some (.bool over) := hb3.cell 5
        have f2 := hb3.frozen 2
        have f5 := hb3.frozen 5
        have hlt := hb3.lt
        clear hwr hq hb3
        go_wp2_with fail
        exact HQ.out
    · cases hcl : q.close <;> rw [hcl] at a4 HAN HP1
      all_goals
        go_enter Tryz.func29, Tryz.ntmps29
        go_wp2_with fail
        refine HN.out.mono ?_
        rintro en w1 ⟨rfl, rfl⟩
        go_wp2_with fail
        refine HAN.out.mono ?_
        rintro en w2 ⟨rfl, hb2⟩
        have HB2 := Lib.hid hb2; clear hb2
        go_wp2_with fail
        exact HBAD.out _ HB2.out h0
end Go.Proofs.YtnicmdlicbnlgaaGreatDoor
