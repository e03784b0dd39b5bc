/-
  Walks: the reference's chunks.
-/
import Derived.Test.YtnicmdlicbnlgaaGreatDoorRh
import Derived.Test.YtnicmdlicbnlgaaGreatDoorNx
namespace Go.Proofs.YtnicmdlicbnlgaaGreatDoor
open Go.RowKit
set_option linter.unusedVariables false
set_option linter.unusedSimpArgs false

section
variable {s : RS} {d l r : List UInt8}
theorem ck_wait (h : s.state = 3) (hl : lineAt 6 d = .wait) : tellP s d = .wait s d := tell_wait (by rw [step3 s d h, hl])
theorem ck_bad (h : s.state = 3) (hl : lineAt 6 d = .bad) : tellP s d = .refuse 280 := tell_fail (by rw [step3 s d h, hl])
theorem ck_neg (h : s.state = 3) (hl : lineAt 6 d = .got l r) (hn : hexP l < 0) : tellP s d = .refuse 280 := tell_fail (by rw [step3 s d h, hl]; simp [hn])
theorem ck_long (h : s.state = 3) (hl : lineAt 6 d = .got l r) (hn : ¬ hexP l < 0) (hb : 8192 - (s.body.length : Int) < hexP l) : tellP s d = .refuse 281 := tell_fail (by rw [step3 s d h, hl]; simp [hn, hb])
theorem ck_zero (h : s.state = 3) (hl : lineAt 6 d = .got l r) (hn : hexP l = 0) (hb : ¬ 8192 - (s.body.length : Int) < hexP l) : tellP s d = tellP { s with state := 6 } r := tell_on (by
  rw [step3 s d h, hl]
  simp only
  rw [if_neg (by omega), if_neg hb, if_pos hn])
theorem ck_some (h : s.state = 3) (hl : lineAt 6 d = .got l r) {n : Nat} (hn : hexP l = n) (h0 : 0 < n) (hb : ¬ 8192 - (s.body.length : Int) < hexP l) : tellP s d = tellP { s with state := 4, long := n } r := tell_on (by
  rw [step3 s d h, hl]
  simp only
  rw [if_neg (by omega), if_neg hb, if_neg (by omega), hn])
theorem ck_short (h : s.state = 3) (hl : lineAt 6 d = .got l r) {n : Nat} (hn : hexP l = n) (hb : ¬ 8192 - (s.body.length : Int) < hexP l) (hr : r.length < n) : ∃ s' b', tellP s d = .wait s' b' := by
  rw [ck_some h hl hn (by omega) hb]
  exact ⟨_, _, tell_wait (by rw [step4 _ _ rfl, if_pos (by simpa using hr)])⟩
theorem ck_four (h : s.state = 3) (hl : lineAt 6 d = .got l r) {n : Nat} (hn : hexP l = n) (h0 : 0 < n) (hb : ¬ 8192 - (s.body.length : Int) < hexP l) (hr : ¬ r.length < n) :
    tellP s d = tellP { s with state := 5, long := n, body := s.body ++ r.take n } (r.drop n) := by
  rw [ck_some h hl hn h0 hb, tell_on (s' := { s with state := 5, long := n, body := s.body ++ r.take n }) (r := r.drop n)]
  rw [step4 _ _ rfl, if_neg (by simpa using hr)]
  simp
theorem ck_end_wait (h : s.state = 3) (hl : lineAt 6 d = .got l r) {n : Nat} (hn : hexP l = n) (hb : ¬ 8192 - (s.body.length : Int) < hexP l) (hr : ¬ r.length < n) (he : endAt (r.drop n) = .wait) : ∃ s' b', tellP s d = .wait s' b' := by
  rcases Nat.eq_zero_or_pos n with rfl | h0
  · rw [ck_zero h hl (by simpa using hn) hb]
    exact ⟨_, _, tell_wait (by rw [step6 _ _ rfl]; simp only [List.drop_zero] at he; rw [he])⟩
  · rw [ck_four h hl hn h0 hb hr]
    exact ⟨_, _, tell_wait (by rw [step5 _ _ rfl, he])⟩
theorem ck_end_bad (h : s.state = 3) (hl : lineAt 6 d = .got l r) {n : Nat} (hn : hexP l = n) (hb : ¬ 8192 - (s.body.length : Int) < hexP l) (hr : ¬ r.length < n) (he : endAt (r.drop n) = .bad) : tellP s d = .refuse 280 := by
  rcases Nat.eq_zero_or_pos n with rfl | h0
  · rw [ck_zero h hl (by simpa using hn) hb]
    exact tell_fail (by rw [step6 _ _ rfl]; simp only [List.drop_zero] at he; rw [he])
  · rw [ck_four h hl hn h0 hb hr]
    exact tell_fail (by rw [step5 _ _ rfl, he])
theorem ck_done (h : s.state = 3) (hl : lineAt 6 d = .got l r) (hn : hexP l = 0) (hb : ¬ 8192 - (s.body.length : Int) < hexP l) {x r2 : List UInt8} (he : endAt r = .got x r2) : tellP s d = .done s.rq r2 := by
  rw [ck_zero h hl hn hb]
  exact tell_whole (by rw [step6 _ _ rfl, he]; rfl)
theorem ck_next (h : s.state = 3) (hl : lineAt 6 d = .got l r) {n : Nat} (hn : hexP l = n) (h0 : 0 < n) (hb : ¬ 8192 - (s.body.length : Int) < hexP l) (hr : ¬ r.length < n) {x r2 : List UInt8} (he : endAt (r.drop n) = .got x r2) :
    tellP s d = tellP { s with state := 3, long := n, body := s.body ++ r.take n } r2 := by
  rw [ck_four h hl hn h0 hb hr]
  exact tell_on (by rw [step5 _ _ rfl, he])
end
def ChTold (b : List UInt8) (k : Nat) (s : RS) (body : ByteArray) (next e : Int) : Prop :=
  (e = 0 ∧ ∃ n : Nat, next = n ∧ n ≤ b.length ∧ tellP s (b.drop k) = .done ({ s with body := body.data.toList } : RS).rq (b.drop n)) ∨
  (e = -1 ∧ ∃ s' b', tellP s (b.drop k) = .wait s' b') ∨
  (0 < e ∧ tellP s (b.drop k) = .refuse e)
def ChPost (w : World) (b : ByteArray) (k : Nat) (s : RS) (en : Ending) (w' : World) : Prop :=
  ∃ (body : ByteArray) (next e : Int), en = .returned (.tuple #[.string body, .int .i64 next, .int .i64 e]) ∧ ChTold b.data.toList k s body next e ∧ Below w.heap.size w w'
def ChRel (w : World) (b : ByteArray) (k : Nat) (s0 : RS) (at' body : Value) (wr : World) : Prop :=
  ∃ (a : Nat) (bd : ByteArray) (s : RS), at' = .int .i64 a ∧ body = .string bd ∧ a ≤ b.size ∧ bd.size ≤ 8192 ∧
    Hid (s.state = 3 ∧ s.body = bd.data.toList ∧ (∀ x, ({ s with body := x } : RS).rq = ({ s0 with body := x } : RS).rq) ∧ tellP s0 (b.data.toList.drop k) = tellP s (b.data.toList.drop a)) ∧ Hid (Below w.heap.size w wr)
theorem end_pos {b : ByteArray} {k : Nat} {x r : List UInt8} (h : endAt (b.data.toList.drop k) = .got x r) : r = b.data.toList.drop (k + 2) ∧ k + 2 ≤ b.size := by
  have h1 := endAt_len h
  refine ⟨?_, ?_⟩
  · rw [← List.drop_drop, h1]; rfl
  · have := congrArg List.length h1
    simp at this
    omega
set_option maxRecDepth 100000 in
set_option maxHeartbeats 25600000 in
theorem rf_chunks (b : ByteArray) (k : Nat) (s0 : RS) (w : World) (hs : b.size ≤ 1000000) (hk : k ≤ b.size) (h3 : s0.state = 3) (h0 : s0.body = []) :
    Calls Tryz.prog 63 #[.string b, .int .i64 k] w (ChPost w b k s0) := by
  have hst : ChRel w b k s0 (.int .i64 k) (.string ⟨#[]⟩) w := ⟨k, ⟨#[]⟩, s0, rfl, rfl, hk, by decide, ⟨h3, h0, fun _ => rfl, rfl⟩, Below.refl _ _⟩
  have HST := Lib.hid hst; clear hst h3 h0
  generalize hQ : ChPost w b k s0 = Q
  have HF : Hid (∀ W body next e, ChTold b.data.toList k s0 body next e → Below w.heap.size w W → Q (.returned (.tuple #[.string body, .int .i64 next, .int .i64 e])) W) := fun W body next e h1 h2 => by rw [← hQ]; exact ⟨body, next, e, rfl, h1, h2⟩
  clear hQ
  go_enter Tryz.func63, Tryz.ntmps63
  go_wp2_with fail
  go_loopw [1, 7] (fun at' body wr => ChRel w b k s0 at' body wr) (fun at' _ _ => b.size - (intOf at').toNat)
  case atStart => exact HST.out
  case round =>
    obtain ⟨a, bd, s, rfl, rfl, ha, hbd, HI, HB⟩ := hrel
    have hC := rf_line b a 6 280 wr (by omega) ha (by omega)
    have HC := Lib.hid hC; clear hC
    unfold lineV at HC
    cases hl : lineAt 6 (b.data.toList.drop a) with
    | wait =>
      rw [hl] at HC
      simp only at HC
      have HTO : Hid (ChTold b.data.toList k s0 ⟨#[]⟩ 0 (-1)) := .inr (.inl ⟨rfl, s, _, by rw [HI.out.2.2.2, ck_wait HI.out.1 hl]⟩)
      clear hl
      go_wp2_with fail
      refine HC.out.mono ?_
      rintro en w2 ⟨rfl, rfl⟩
      go_wp2_with fail
      go_ret3
      exact HF.out _ _ _ _ HTO.out HB.out
    | bad =>
      rw [hl] at HC
      simp only at HC
      have HTO : Hid (ChTold b.data.toList k s0 ⟨#[]⟩ 0 280) := .inr (.inr ⟨by decide, by rw [HI.out.2.2.2, ck_bad HI.out.1 hl]⟩)
      clear hl
      go_wp2_with fail
      refine HC.out.mono ?_
      rintro en w2 ⟨rfl, rfl⟩
      go_wp2_with fail
      go_ret3
      exact HF.out _ _ _ _ HTO.out HB.out
    | got l r =>
      rw [hl] at HC
      simp only at HC
      have hL := lineAt_len hl
      obtain ⟨nx, hnx⟩ : ∃ nx : Nat, nx = a + l.length + 2 := ⟨_, rfl⟩
      have hat : nx ≤ b.size := by
        have := congrArg List.length hL.1
        simp at this
        omega
      have hdr : b.data.toList.drop nx = r := by
        have := congrArg (List.drop (l.length + 2)) hL.1
        rw [List.drop_drop] at this
        rw [hnx, show a + l.length + 2 = a + (l.length + 2) from by omega, this]
        simp
      have hrl : r.length = b.size - nx := by rw [← hdr]; simp
      have han : a < nx := by omega
      have hlz : l.length ≤ 6 := hL.2
      rw [show (a : Int) + l.length + 2 = (nx : Int) by omega] at HC
      clear hL hnx
      have HDR := Lib.hid hdr; clear hdr
      have HL := Lib.hid hl; clear hl
      obtain ⟨ls, hls⟩ : ∃ ls : ByteArray, (⟨l.toArray⟩ : ByteArray) = ls := ⟨_, rfl⟩
      have hld : ls.data.toList = l := by rw [← hls]
      have hlz2 : ls.size ≤ 6 := by rw [show ls.size = ls.data.toList.length by simp, hld]; exact hlz
      rw [hls] at HC
      have CX : Hid (∀ W, Calls Tryz.prog 94 #[.string ls] W fun en w' => en = .returned (.int .i64 (hexP l)) ∧ Below W.heap.size W w') := fun W => hld ▸ rf_sixteens ls W (by omega)
      clear hls hld hlz hlz2
      by_cases hneg : hexP l < 0
      · have HTO : Hid (ChTold b.data.toList k s0 ⟨#[]⟩ 0 280) := .inr (.inr ⟨by decide, by rw [HI.out.2.2.2, ck_neg HI.out.1 HL.out hneg]⟩)
        generalize hexP l = hx at CX hneg
        go_wp2_with fail
        refine HC.out.mono ?_
        rintro en w2 ⟨rfl, rfl⟩
        go_wp2_with fail
        refine (CX.out _).mono ?_
        rintro en w3 ⟨rfl, hb3⟩
        have HB3 := Lib.hid (bl_trans HB.out hb3); clear hb3
        go_wp2_with fail
        go_ret3
        exact HF.out _ _ _ _ HTO.out HB3.out
      · obtain ⟨n, hn⟩ : ∃ n : Nat, hexP l = n := ⟨(hexP l).toNat, by omega⟩
        rw [hn] at CX
        have HN := Lib.hid hn
        have hsb : s.body.length = bd.size := by rw [HI.out.2.1]; simp
        by_cases hlong : (8192 : Int) - bd.size < n
        · have HTO : Hid (ChTold b.data.toList k s0 ⟨#[]⟩ 0 281) := .inr (.inr ⟨by decide, by rw [HI.out.2.2.2, ck_long HI.out.1 HL.out hneg (by rw [hsb, hn]; exact hlong)]⟩)
          clear hn hneg hsb
          go_wp2_with fail
          refine HC.out.mono ?_
          rintro en w2 ⟨rfl, rfl⟩
          go_wp2_with fail
          refine (CX.out _).mono ?_
          rintro en w3 ⟨rfl, hb3⟩
          have HB3 := Lib.hid (bl_trans HB.out hb3); clear hb3
          go_wp2_with fail
          go_ret3
          exact HF.out _ _ _ _ HTO.out HB3.out
        · have hnl : ¬ 8192 - (s.body.length : Int) < hexP l := by rw [hsb, hn]; exact hlong
          have HNL := Lib.hid hnl; clear hnl
          have hn8 : (n : Int) ≤ 8192 := by omega
          by_cases hsh : b.size < nx + n
          · have HTO : Hid (ChTold b.data.toList k s0 ⟨#[]⟩ 0 (-1)) := .inr (.inl ⟨rfl, by rw [HI.out.2.2.2]; exact ck_short HI.out.1 HL.out hn HNL.out (by omega)⟩)
            clear hn hneg hsb
            go_wp2_with fail
            refine HC.out.mono ?_
            rintro en w2 ⟨rfl, rfl⟩
            go_wp2_with fail
            refine (CX.out _).mono ?_
            rintro en w3 ⟨rfl, hb3⟩
            have HB3 := Lib.hid (bl_trans HB.out hb3); clear hb3
            go_wp2_with fail
            go_ret3
            exact HF.out _ _ _ _ HTO.out HB3.out
          · have hrn : ¬ r.length < n := by omega
            have HRN := Lib.hid hrn; clear hrn
            have CE : Hid (∀ W, Calls Tryz.prog 95 #[.string b, .int .i64 ((nx : Int) + n)] W fun en w' => en = .returned (.int .i64 (endV b (nx + n))) ∧ W = w') := fun W => by
              have := rf_end b (nx + n) W (by omega) (by omega)
              rw [show ((nx + n : Nat) : Int) = (nx : Int) + n by omega] at this
              exact this
            have hdn : r.drop n = b.data.toList.drop (nx + n) := by rw [← HDR.out, List.drop_drop]
            have HDN := Lib.hid hdn; clear hdn
            unfold endV at CE
            cases he : endAt (b.data.toList.drop (nx + n)) with
            | wait =>
              rw [he] at CE
              simp only at CE
              have HTO : Hid (ChTold b.data.toList k s0 ⟨#[]⟩ 0 (-1)) := .inr (.inl ⟨rfl, by rw [HI.out.2.2.2]; exact ck_end_wait HI.out.1 HL.out hn HNL.out HRN.out (by rw [HDN.out]; exact he)⟩)
              clear hn hneg hsb he
              go_wp2_with fail
              refine HC.out.mono ?_
              rintro en w2 ⟨rfl, rfl⟩
              go_wp2_with fail
              refine (CX.out _).mono ?_
              rintro en w3 ⟨rfl, hb3⟩
              have HB3 := Lib.hid (bl_trans HB.out hb3); clear hb3
              go_wp2_with fail
              refine (CE.out _).mono ?_
              rintro en w4 ⟨rfl, rfl⟩
              go_wp2_with fail
              go_ret3
              exact HF.out _ _ _ _ HTO.out HB3.out
            | bad =>
              rw [he] at CE
              simp only at CE
              have HTO : Hid (ChTold b.data.toList k s0 ⟨#[]⟩ 0 280) := .inr (.inr ⟨by decide, by rw [HI.out.2.2.2, ck_end_bad HI.out.1 HL.out hn HNL.out HRN.out (by rw [HDN.out]; exact he)]⟩)
              clear hn hneg hsb he
              go_wp2_with fail
              refine HC.out.mono ?_
              rintro en w2 ⟨rfl, rfl⟩
              go_wp2_with fail
              refine (CX.out _).mono ?_
              rintro en w3 ⟨rfl, hb3⟩
              have HB3 := Lib.hid (bl_trans HB.out hb3); clear hb3
              go_wp2_with fail
              refine (CE.out _).mono ?_
              rintro en w4 ⟨rfl, rfl⟩
              go_wp2_with fail
              go_ret3
              exact HF.out _ _ _ _ HTO.out HB3.out
            | got x r2 =>
              rw [he] at CE
              simp only at CE
              obtain ⟨hr2, hpos⟩ := end_pos he
              have hex : (b.extract nx (nx + n)).data.toList = r.take n := by
                rw [extract_list, HDR.out]; congr 1; omega
              have HEX := Lib.hid hex; clear hex
              have HE := Lib.hid he; clear he
              have HR2 := Lib.hid hr2; clear hr2
              by_cases hz : (n : Int) = 0
              · have hn0 : n = 0 := by omega
                have HTO : Hid (ChTold b.data.toList k s0 bd ((nx : Int) + 2) 0) := by
                  refine .inl ⟨rfl, nx + 2, by omega, by rw [hn0] at hpos; simpa using hpos, ?_⟩
                  have hr2' := HR2.out
                  rw [hn0, Nat.add_zero] at hr2'
                  rw [HI.out.2.2.2, ck_done HI.out.1 HL.out (by rw [HN.out, hn0]; rfl) HNL.out (x := x) (r2 := r2) (by have := HE.out; rw [← HDN.out, hn0, List.drop_zero] at this; exact this), hr2', ← HI.out.2.2.1, ← HI.out.2.1]
                subst hn0
                simp only [Int.natCast_zero, Int.add_zero, Nat.add_zero] at CX CE hpos
                clear hn hneg hsb hz HEX
                go_wp2_with fail
                refine HC.out.mono ?_
                rintro en w2 ⟨rfl, rfl⟩
                go_wp2_with fail
                refine (CX.out _).mono ?_
                rintro en w3 ⟨rfl, hb3⟩
                have HB3 := Lib.hid (bl_trans HB.out hb3); clear hb3
                go_wp2_with fail
                refine (CE.out _).mono ?_
                rintro en w4 ⟨rfl, rfl⟩
                go_wp2_with fail
                go_ret3
                exact HF.out _ _ _ _ HTO.out HB3.out
              · have hbz : (bd ++ b.extract nx (nx + n)).size = bd.size + n := by rw [ByteArray.size_append, ByteArray.size_extract]; omega
                have HREL : Hid (∀ W, Below w.heap.size w W → ChRel w b k s0 (.int .i64 ((nx : Int) + n + 2)) (.string (bd ++ b.extract nx (nx + n))) W) := fun W hW =>
                  ⟨nx + n + 2, _, { s with state := 3, long := n, body := s.body ++ r.take n }, by simp, rfl, hpos, by rw [hbz]; omega, ⟨rfl, by
                    show s.body ++ r.take n = _
                    rw [ByteArray.data_append, Array.toList_append, HEX.out, HI.out.2.1], fun y => HI.out.2.2.1 y, by
                    rw [HI.out.2.2.2, ck_next HI.out.1 HL.out HN.out (by omega) HNL.out HRN.out (x := x) (r2 := r2) (by rw [HDN.out]; exact HE.out), HR2.out]⟩, hW⟩
                clear hn hneg hsb hbz
                go_wp2_with fail
                refine HC.out.mono ?_
                rintro en w2 ⟨rfl, rfl⟩
                go_wp2_with fail
                refine (CX.out _).mono ?_
                rintro en w3 ⟨rfl, hb3⟩
                have HB3 := Lib.hid (bl_trans HB.out hb3); clear hb3
                go_wp2_with fail
                refine (CE.out _).mono ?_
                rintro en w4 ⟨rfl, rfl⟩
                go_wp2_with fail
                go_roundw
                case rel => exact HREL.out _ HB3.out
                case measure => simp [intOf]; omega
end Go.Proofs.YtnicmdlicbnlgaaGreatDoor
