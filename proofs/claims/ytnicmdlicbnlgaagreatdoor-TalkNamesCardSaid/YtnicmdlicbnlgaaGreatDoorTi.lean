/-
  Walk: a connection's Take, where there is one.
-/
import Derived.Test.YtnicmdlicbnlgaaGreatDoorTh
namespace Go.Proofs.YtnicmdlicbnlgaaGreatDoor
open Go.RowKit
set_option linter.unusedVariables false
set_option linter.unusedSimpArgs false

def YesPost (N : Nat) (S : Nat → Prop) (w : World) (T : Nat) (x : Rq × Int) (F : List UInt8) (k : Nat) (out : List UInt8) (en : Ending) (w' : World) : Prop :=
  en = .returned (.bool true) ∧ Turned N S w w' ∧ ∃ (fp : Nat → Prop) (R : Nat) (va vw pv bv : Value) (told : List Rq), TalkIn N S fp w' T R va vw pv bv (some x) none F told out false ∧ Lst F told (k + isReq (some x))
set_option maxRecDepth 100000 in
set_option maxHeartbeats 1600000 in
theorem tk_ready_yes (N : Nat) (S : Nat → Prop) (w : World) (T : Nat) (x : Rq × Int) (F : List UInt8) (k : Nat) (out : List UInt8) (B : Nat) (he : EnvAt B w) (hBN : B ≤ N) (hBS : ∀ g, S g → B ≤ g) (h : TalkAt N S w T none F k out false) (hF : F.length ≤ 1000000) (hx : nextP F k = some x) :
    Calls Tryz.prog 33 #[.pointer (some ⟨T, 0, none⟩)] w (YesPost N S w T x F k out) := by
  have HK := Lib.hid (tk_look N S w T none F k out false B he hBN hBS h hF)
  obtain ⟨fp, R, va, vw, pv, bv, ah, told, h, -, -⟩ := h
  have c2 : w.cell? ⟨T, 2, none⟩ = some vw := h.blk.cell 2
  have c5 : w.cell? ⟨T, 5, none⟩ = some (.bool false) := h.blk.cell 5
  have HN := Lib.hid (tk_none h.blk)
  obtain rfl : vw = .pointer none := h.waits
  have HQ : Hid (∀ en W, LookPost N S w T none F k out false en W → ∃ A, en = .returned (.pointer (some ⟨A, 0, none⟩)) ∧ YesPost N S w T x F k out (.returned (.bool true)) W) := fun en W ⟨h1, fp, R, va, vw, pv, bv, told, h2, h3, h4⟩ => by
    rw [hx] at h3 h4
    obtain ⟨q, c⟩ := x
    obtain ⟨A, hv, hva, -⟩ := h3.ahead
    exact ⟨A, by rw [h2, hva], rfl, h1, fp, R, va, vw, pv, bv, told, h3, h4⟩
  generalize YesPost N S w T x F k out = Q at HQ ⊢
  clear h hx he
  go_enter Tryz.func33, Tryz.ntmps33
  go_wp2_with fail
  refine HN.out.mono ?_
  rintro en w1 ⟨rfl, rfl⟩
  go_wp2_with fail
  refine HK.out.mono ?_
  rintro en w2 hl
  obtain ⟨A, rfl, hq⟩ := HQ.out en w2 hl
  have HQ2 := Lib.hid hq
  clear hl hq
  go_wp2_with fail
  exact HQ2.out
theorem info_headI : (Tryz.prog.info? 88).map (fun i => (i.zero, i.size, i.bytes)) = some (some (.agg #[.string ⟨#[]⟩, .string ⟨#[]⟩]), 2, 32) := by kernel_rfl
theorem turned_drewN {N : Nat} {S : Nat → Prop} {w w' : World} (h : Turned N S w w') (d : Nat) : Turned N S w (w'.drewN d) := h.trans ⟨rfl, rfl, rfl, Nat.le_refl _, fun _ _ _ => rfl⟩
theorem talk_drewN {N : Nat} {S : Nat → Prop} {w : World} {T : Nat} {wait : Option (Rq × Int)} {F : List UInt8} {k : Nat} {out : List UInt8} {over : Bool} (h : TalkAt N S w T wait F k out over) (d : Nat) : TalkAt N S (w.drewN d) T wait F k out over := h.keep (fun _ _ _ => rfl) (Nat.le_refl _)
theorem own_drewN {w : World} {base : Nat} {e : TypeId} {size : Nat} {v : Value} {n : Nat} {xs : List Value} (h : w.ownsRow base e size v n xs) (d : Nat) : (w.drewN d).ownsRow base e size v n xs := own_keep h fun _ _ => rfl
theorem own_reads {w : World} {base : Nat} {e : TypeId} {size : Nat} {A : Option Addr} {n c : Nat} {xs : List Value} (h : w.ownsRow base e size (.slice A n c) n xs) : Reads w w.heap.size size A n xs := by
  refine ⟨h.1, fun hn => ?_⟩
  have hc := fun g hg => h.cells (g := g) hg
  have hlt := h.lt
  rcases h.2 with ⟨e1, h0⟩ | ⟨g, cap, cur, e1, _⟩
  · omega
  · injection e1 with e1
    subst e1
    exact ⟨⟨g, 0, none⟩, rfl, (hlt g rfl).2, fun j u hu => hc g rfl j u hu⟩
theorem head_cells1 (hs : List Hd) : ∀ u ∈ headCells hs, u.oneCell' = true := by
  intro u hu
  unfold headCells at hu
  obtain ⟨x, _, hx⟩ := List.mem_flatMap.1 hu
  simp only [List.mem_cons, List.not_mem_nil, or_false] at hx
  rcases hx with rfl | rfl <;> rfl
theorem next_heads {F : List UInt8} {k : Nat} {q : Rq} {c : Int} (h : nextP F k = some (q, c)) : q.hs.length ≤ 32 := by
  rcases next_code h with ⟨_, hq⟩ | ⟨_, rfl, _⟩
  · exact all_heads F q (List.mem_of_getElem? hq)
  · simp [rq0]
theorem lst_taken {F : List UInt8} {k : Nat} {q : Rq} {c : Int} {told : List Rq} (h : nextP F k = some (q, c)) (hl : Lst F told (k + isReq (some (q, c)))) : Lst F told (k + 1 + isReq none) := by
  rcases next_code h with ⟨rfl, hq⟩ | ⟨hc, rfl, hq, hcc⟩
  · exact hl
  · have h0 : isReq (some (rq0, c)) = 0 := by
      have : c ≠ 0 := by omega
      unfold isReq
      split
      · rename_i heq; cases heq; exact absurd rfl this
      · rfl
    rw [h0] at hl
    have hlen := List.getElem?_eq_none_iff.1 hq
    refine ⟨?_, .inr fun e0 => ?_⟩
    · rw [hl.1, List.take_of_length_le (by omega), List.take_of_length_le (by simp [isReq]; omega)]
    · rw [e0] at hcc; simp [codeP] at hcc; omega
theorem grown_none {w w' : World} (h : w.grownBy w' none) : Below w.heap.size w w' := ⟨h.os, h.tape, h.output, h.size, fun k hk => h.block k hk (fun e => by cases e)⟩
def TakePost (N : Nat) (S : Nat → Prop) (w : World) (T : Nat) (q : Rq) (c : Int) (F : List UInt8) (k : Nat) (out : List UInt8) (en : Ending) (w' : World) : Prop :=
  ∃ hv, en = .returned (.tuple #[rqVal q hv, .int .i64 c, .int .i64 0]) ∧ Turned N S w w' ∧ TalkAt N S w' T (some (q, c)) F (k + 1) out false ∧ w'.ownsRow 0 88 2 hv q.hs.length (headCells q.hs)
set_option maxRecDepth 100000 in
set_option maxHeartbeats 3200000 in
theorem tk_take (N : Nat) (S : Nat → Prop) (w : World) (T : Nat) (q : Rq) (c : Int) (F : List UInt8) (k : Nat) (out : List UInt8) (B : Nat) (he : EnvAt B w) (hBN : B ≤ N) (hBS : ∀ g, S g → B ≤ g) (h : TalkAt N S w T none F k out false) (hF : F.length ≤ 1000000) (hx : nextP F k = some (q, c)) :
    Calls Tryz.prog 28 #[.pointer (some ⟨T, 0, none⟩)] w (TakePost N S w T q c F k out) := by
  obtain ⟨i0, hi, hz0, hz1', hz2⟩ := info_parts info_headI
  obtain ⟨W1, hW1⟩ : ∃ W1, W1 = w.alloc (Obj.cells zeroCells5 33) := ⟨_, rfl⟩
  have hB1 : Below w.heap.size w W1 := by rw [hW1]; exact bl_alloc (Below.refl _ _) _
  have hz1 : W1.heap.size = w.heap.size + 1 := by rw [hW1]; simp
  have hRB : Blk W1 w.heap.size 33 zeroCells5 := by rw [hW1]; exact Blk.new _ _ _
  have hM := h.move hB1
  have hlow := h.low
  have HR := Lib.hid (tk_ready_yes _ _ W1 T (q, c) F k out B (he.below hB1 he.le) (by omega) (fun g hg => hg.1.elim (hBS g) fun h2 => by omega) hM hF hx)
  have HN : Hid (Calls Tryz.prog 55 #[.pointer (some ⟨T, 0, none⟩)] W1 fun e w' => e = .returned (.bool false) ∧ W1 = w') := by
    obtain ⟨fp, R, va, vw, pv, bv, ah, told, h, hn, hl⟩ := hM
    exact tk_none h.blk
  have HX := Lib.hid hx
  have HB1 := Lib.hid hB1
  have HZ1 := Lib.hid hz1
  have HRB := Lib.hid hRB
  have HLOW := Lib.hid hlow
  clear h hM hRB hB1 hz1 hlow hx he
  obtain ⟨RB, hRB⟩ : ∃ RB, RB = w.heap.size := ⟨_, rfl⟩
  unfold zeroCells5 at hW1
  obtain ⟨Q, hQ⟩ : ∃ Q : Ending → World → Prop, Q = TakePost N S w T q c F k out := ⟨_, rfl⟩
  rw [← hQ]
  have HQ := Lib.hid hQ; clear hQ
  go_enter Tryz.func28, Tryz.ntmps28
  go_wp2_with fail
  rw [← hW1, ← hRB]
  have HW1 := Lib.hid hW1
  have HRBE := Lib.hid hRB
  clear hW1 hRB
  refine HN.out.mono ?_
  rintro en w1 ⟨rfl, rfl⟩
  go_wp2_with fail
  refine HR.out.mono ?_
  rintro en w2 ⟨rfl, ht2, fp, R, va, vw, pv, bv, told, h2, hl2⟩
  obtain ⟨A, hv, rfl, hA, hown, hok, hok2⟩ := h2.ahead
  obtain rfl : vw = .pointer none := h2.waits
  obtain ⟨Hq, cq, rfl⟩ := own_slice hown
  have t1 : w2.cell? ⟨T, 1, none⟩ = some (.pointer (some ⟨A, 0, none⟩)) := h2.blk.cell 1
  have t2 : w2.cell? ⟨T, 2, none⟩ = some (.pointer none) := h2.blk.cell 2
  have f1 := h2.blk.frozen 1
  have f2 := h2.blk.frozen 2
  have hTlt := h2.blk.lt
  have hAT : A ≠ T := fun e => by
    subst e
    have h3 := h2.blk
    unfold Blk at h3 hA
    rw [hA] at h3
    injection h3 with h3
    injection h3 with _ h3
    exact absurd h3 (by decide)
  have a0 : w2.cell? ⟨A, 0, none⟩ = some (.string q.m) := hA.cell 0
  have a1 : w2.cell? ⟨A, 1, none⟩ = some (.string q.p) := hA.cell 1
  have a2 : w2.cell? ⟨A, 2, none⟩ = some (.slice Hq q.hs.length cq) := hA.cell 2
  have a3 : w2.cell? ⟨A, 3, none⟩ = some (.string q.body) := hA.cell 3
  have a4 : w2.cell? ⟨A, 4, none⟩ = some (.bool q.close) := hA.cell 4
  have a5 : w2.cell? ⟨A, 5, none⟩ = some (.int .i64 c) := hA.cell 5
  have hAlt := hA.lt
  have H2 := Lib.hid h2
  have HL2 := Lib.hid hl2
  have HT2 := Lib.hid ht2
  have HO2 := Lib.hid hown
  have hA0 := hA
  clear h2 hl2 ht2 hA hown hok hok2
  have HA := Lib.hid hA0
  obtain ⟨Wx, hWx⟩ : ∃ Wx, Wx = (w2.setCell ⟨T, 2, none⟩ (.pointer (some ⟨A, 0, none⟩))).setCell ⟨T, 1, none⟩ (.pointer none) := ⟨_, rfl⟩
  have hzx : Wx.heap.size = w2.heap.size := by rw [hWx, size_set, size_set]
  have h3 : TalkIn W1.heap.size (fun g => (S g ∨ N ≤ g) ∧ g < w.heap.size) fp Wx T R (.pointer none) (.pointer (some ⟨A, 0, none⟩)) pv bv none (some (q, c)) F told out false := by
    rw [hWx]
    exact (H2.out.setWait H2.out.ahead).setAhead rfl
  have hnT : (Value.slice Hq q.hs.length cq).ownBlock ≠ some T := own_blk HO2.out H2.out.blk (by decide)
  have hox : Wx.ownsRow 0 88 2 (.slice Hq q.hs.length cq) q.hs.length (headCells q.hs) := by rw [hWx]; exact own_setK (own_setK HO2.out hnT _) hnT _
  have hAx : Blk Wx A 95 #[.string q.m, .string q.p, .slice Hq q.hs.length cq, .string q.body, .bool q.close, .int .i64 c] := by
    rw [hWx]
    exact (Below.heap_setCell _ _ _ _ hAT).trans ((Below.heap_setCell _ _ _ _ hAT).trans HA.out)
  have HH := Lib.hid (next_heads HX.out)
  obtain ⟨W3, hW3⟩ : ∃ W3, W3 = Wx.alloc (Obj.cells #[.string q.m, .string q.p, .slice Hq q.hs.length cq, .string q.body, .bool q.close] 33) := ⟨_, rfl⟩
  have hb3 : Below Wx.heap.size Wx W3 := by rw [hW3]; exact bl_alloc (Below.refl _ _) _
  have hr3 : Blk W3 w2.heap.size 33 #[.string q.m, .string q.p, .slice Hq q.hs.length cq, .string q.body, .bool q.close] := by rw [hW3, ← hzx]; exact Blk.new _ _ _
  have ho3 := own_below hox hb3
  have hRd := own_reads ho3
  rw [hWx] at hW3
  have HRD := Lib.hid hRd
  have HWx := Lib.hid hWx
  have HZX := Lib.hid hzx
  have H3 := Lib.hid h3
  have HAX := Lib.hid hAx
  have HB3 := Lib.hid hb3
  have HR3 := Lib.hid hr3
  clear hRd hWx hzx h3 hAx hb3 hr3 ho3 hox hnT
  have hfix : ((w2.setCell ⟨T, 2, none⟩ (.pointer (some ⟨A, 0, none⟩))).setCell ⟨T, 1, none⟩ (.pointer none)).alloc (Obj.cells #[.string q.m, .string q.p, .slice Hq q.hs.length cq, .string q.body, .bool q.close] 33) = W3 := hW3.symm
  have HFIX := Lib.hid hfix
  clear hfix hW3
  go_wp2_with (at_builtin; rw [HFIX.out]; refine wpList_append_any _ rfl (.const (.slice none 0 0)) (.tmp 33) 31 rfl 0 88 i0 _ 2 32 Tryz.underlying31 hi hz0 hz1' hz2 rfl (by decide) (.slice none 0 0) 0 [] rfl (World.ownsRow_nil _ _ _ _) _ Hq q.hs.length cq (headCells q.hs) rfl HRD.out (head_cells1 _) (by have := HH.out; simp only [maxLen]; omega) (by have := HH.out; omega) (Nat.zero_le _) ?_)
  intro v' w4 q1 q2 q3
  have hb4 : Below W3.heap.size W3 w4 := grown_none q2
  have hz3 : W3.heap.size = w2.heap.size + 1 := by rw [← HFIX.out, World.size_alloc, size_set, size_set]
  have hz4 := hb4.size
  have hv0 : ∀ g, v'.ownBlock = some g → W3.heap.size ≤ g := fun g hg => by
    rcases q3 with e | e
    · rw [e] at hg; simp [Value.ownBlock] at hg
    · rw [e] at hg; cases hg; exact Nat.le_refl _
  obtain ⟨Xv, cv, rfl⟩ := own_slice q1
  have hzx := HZX.out
  have br : Blk w4 w2.heap.size 33 #[.string q.m, .string q.p, .slice Hq q.hs.length cq, .string q.body, .bool q.close] := (hb4.block _ (by omega)).trans HR3.out
  have bT : Blk w4 T 66 #[.pointer (some ⟨R, 0, none⟩), .pointer none, .pointer (some ⟨A, 0, none⟩), pv, bv, .bool false] := (hb4.block T (by omega)).trans ((HB3.out.block T (by omega)).trans H3.out.blk)
  have bA : Blk w4 A 95 #[.string q.m, .string q.p, .slice Hq q.hs.length cq, .string q.body, .bool q.close, .int .i64 c] := (hb4.block A (by omega)).trans ((HB3.out.block A (by omega)).trans HAX.out)
  have hw1z := HZ1.out
  have hrbe := HRBE.out
  have hz2 := HT2.out.size
  have hRT : RB ≠ T := fun e => by
    rcases H2.out.ts with h1 | h1
    · have := h1.2; omega
    · omega
  have bR : Blk w4 RB 33 zeroCells5 := by
    refine (hb4.block RB (by omega)).trans ((HB3.out.block RB (by omega)).trans ?_)
    rw [HWx.out]
    refine (Below.heap_setCell _ _ _ _ hRT).trans ((Below.heap_setCell _ _ _ _ hRT).trans ((HT2.out.block RB (by omega) fun h1 => by have := h1.2; omega).trans ?_))
    rw [HRBE.out]
    exact HRB.out
  have r2 : w4.cell? ⟨w2.heap.size, 2, none⟩ = some (.slice Hq q.hs.length cq) := br.cell 2
  have rf2 := br.frozen 2
  have n1 : T ≠ w2.heap.size := by omega
  have n2 : A ≠ w2.heap.size := by omega
  have n3 : RB ≠ w2.heap.size := by omega
  have l4 : w2.heap.size < w4.heap.size := by omega
  obtain ⟨W5, hW5⟩ : ∃ W5, W5 = w4.setCell ⟨w2.heap.size, 2, none⟩ (.slice Xv q.hs.length cv) := ⟨_, rfl⟩
  have br5 : Blk W5 w2.heap.size 33 #[.string q.m, .string q.p, .slice Xv q.hs.length cv, .string q.body, .bool q.close] := by rw [hW5]; exact br.set_ 2 _
  have bT5 : Blk W5 T 66 #[.pointer (some ⟨R, 0, none⟩), .pointer none, .pointer (some ⟨A, 0, none⟩), pv, bv, .bool false] := by rw [hW5]; exact (Below.heap_setCell _ _ _ _ n1).trans bT
  have bA5 : Blk W5 A 95 #[.string q.m, .string q.p, .slice Hq q.hs.length cq, .string q.body, .bool q.close, .int .i64 c] := by rw [hW5]; exact (Below.heap_setCell _ _ _ _ n2).trans bA
  have bR5 : Blk W5 RB 33 zeroCells5 := by rw [hW5]; exact (Below.heap_setCell _ _ _ _ n3).trans bR
  have s0 : W5.cell? ⟨w2.heap.size, 0, none⟩ = some (.string q.m) := br5.cell 0
  have s1 : W5.cell? ⟨w2.heap.size, 1, none⟩ = some (.string q.p) := br5.cell 1
  have s2 : W5.cell? ⟨w2.heap.size, 2, none⟩ = some (.slice Xv q.hs.length cv) := br5.cell 2
  have s3 : W5.cell? ⟨w2.heap.size, 3, none⟩ = some (.string q.body) := br5.cell 3
  have s4 : W5.cell? ⟨w2.heap.size, 4, none⟩ = some (.bool q.close) := br5.cell 4
  have tt2 : W5.cell? ⟨T, 2, none⟩ = some (.pointer (some ⟨A, 0, none⟩)) := bT5.cell 2
  have aa5 : W5.cell? ⟨A, 5, none⟩ = some (.int .i64 c) := bA5.cell 5
  have z0 : W5.cell? ⟨RB, 0, none⟩ = some (.string ⟨#[]⟩) := bR5.cell 0
  have z1 : W5.cell? ⟨RB, 1, none⟩ = some (.string ⟨#[]⟩) := bR5.cell 1
  have z2 : W5.cell? ⟨RB, 2, none⟩ = some (.slice none 0 0) := bR5.cell 2
  have z3 : W5.cell? ⟨RB, 3, none⟩ = some (.string ⟨#[]⟩) := bR5.cell 3
  have z4 : W5.cell? ⟨RB, 4, none⟩ = some (.bool false) := bR5.cell 4
  have g0 := bR5.frozen 0
  have g1 := bR5.frozen 1
  have g2 := bR5.frozen 2
  have g3 := bR5.frozen 3
  have g4 := bR5.frozen 4
  have HQ1 := Lib.hid q1
  have HB4 := Lib.hid hb4
  have HV0 := Lib.hid hv0
  have HWx3 := Lib.hid hz3
  have hfin : ∀ d, Q (.returned (.tuple #[.agg #[.string q.m, .string q.p, .slice Xv q.hs.length cv, .string q.body, .bool q.close], .int .i64 c, .int .i64 0])) ((((((W5.setCell ⟨RB, 0, none⟩ (.string q.m)).setCell ⟨RB, 1, none⟩ (.string q.p)).setCell ⟨RB, 2, none⟩ (.slice Xv q.hs.length cv)).setCell ⟨RB, 3, none⟩ (.string q.body)).setCell ⟨RB, 4, none⟩ (.bool q.close)).drewN d) := fun d => by
    rw [HQ.out, hW5]
    have hlow := HLOW.out
    obtain ⟨k1, k2⟩ : (∀ g, ((S g ∨ N ≤ g) ∧ g < w.heap.size) → S g ∨ N ≤ g) ∧ (∀ g, W1.heap.size ≤ g → N ≤ g) := ⟨fun g h => h.1, fun g h => by omega⟩
    have hTn : S T ∨ N ≤ T := (H2.out.ts).elim (k1 T) fun h => .inr (k2 T h)
    have hTu : Turned N S w Wx := by
      rw [HWx.out]
      refine ((((Turned.of_below HB1.out hlow).trans (HT2.out.more (by omega) fun g hg h1 => h1.1.resolve_right (by omega))).set_ (a := ⟨T, 2, none⟩) hTn _).set_ (a := ⟨T, 1, none⟩) hTn _)
    have hno1 : ¬ (((((S RB ∨ N ≤ RB) ∧ RB < w.heap.size) ∨ W1.heap.size ≤ RB) ∧ RB < Wx.heap.size) ∨ W3.heap.size ≤ RB) := by
      rintro (⟨h1 | h1, _⟩ | h1)
      · have := h1.2; omega
      · omega
      · omega
    have hno2 : ¬ (((((S w2.heap.size ∨ N ≤ w2.heap.size) ∧ w2.heap.size < w.heap.size) ∨ W1.heap.size ≤ w2.heap.size) ∧ w2.heap.size < Wx.heap.size) ∨ W3.heap.size ≤ w2.heap.size) := by
      rintro (⟨_, h1⟩ | h1)
      · omega
      · omega
    have hNR : N ≤ RB := by omega
    have hNr : N ≤ w2.heap.size := by omega
    refine ⟨.slice Xv q.hs.length cv, rfl, ?_, ?_, ?_⟩
    · refine turned_drewN ?_ d
      iterate 5 refine Turned.set_ ?_ (.inr hNR) _
      refine Turned.set_ ?_ (.inr hNr) _
      exact (hTu.trans (Turned.of_below HB3.out (by omega))).trans (Turned.of_below HB4.out (by omega))
    · have hAt : TalkAt W1.heap.size (fun g => (S g ∨ N ≤ g) ∧ g < w.heap.size) Wx T (some (q, c)) F (k + 1) out false := ⟨fp, R, _, _, pv, bv, none, told, H3.out, .inl rfl, lst_taken HX.out HL2.out⟩
      have hAt4 := (hAt.move HB3.out).below HB4.out
      refine talk_drewN ?_ d
      refine TalkAt.weaken (N := W3.heap.size) (S := fun g => (((S g ∨ N ≤ g) ∧ g < w.heap.size) ∨ W1.heap.size ≤ g) ∧ g < Wx.heap.size) ?_ (fun g hg => ?_) (by simp only [size_set]; omega)
      · iterate 5 refine TalkAt.setOther ?_ hno1 _
        refine TalkAt.setOther ?_ hno2 _
        exact hAt4
      · rcases hg with ⟨h1 | h1, _⟩ | h1
        · exact h1.1
        · exact .inr (by omega)
        · exact .inr (by omega)
    · have hvR : (Value.slice Xv q.hs.length cv).ownBlock ≠ some RB := fun e => by have := HV0.out RB e; omega
      have hvr : (Value.slice Xv q.hs.length cv).ownBlock ≠ some w2.heap.size := fun e => by have := HV0.out w2.heap.size e; omega
      refine own_drewN ?_ d
      iterate 5 refine own_setK ?_ hvR _
      exact own_setK HQ1.out hvr _
  have HFIN := Lib.hid hfin
  have hTR : T ≠ RB := fun e => hRT e.symm
  have hAR : A ≠ RB := fun e => by
    rw [e] at bA5
    unfold Blk at bA5 bR5
    rw [bR5] at bA5
    injection bA5 with h3
    injection h3 with _ h3
    exact absurd h3 (by decide)
  clear hfin q1 q2 q3 hb4 hv0 br bT bA bR hzx hz4 hw1z hrbe hz2 t1 t2 f1 f2 a0 a1 a2 a3 a4 a5 hRT br5 bT5 bA5 bR5
  go_wp2_with fail
  rw [← hW5]
  clear hW5
  go_region
  all_goals
    go_wp2_with fail
    refine bodyPost_ret (v := .tuple #[.agg #[.string q.m, .string q.p, .slice Xv q.hs.length cv, .string q.body, .bool q.close], .int .i64 c, .int .i64 0]) (by simp [results, Tryz.results28, go_sem, z0, z1, z2, z3, z4, g0, g1, g2, g3, g4]) rfl ?_
    exact HFIN.out _
end Go.Proofs.YtnicmdlicbnlgaaGreatDoor
