/-
  Walks: the reference's first line and headers.
-/
import Derived.Test.YtnicmdlicbnlgaaGreatDoorRi
import Derived.Test.YtnicmdlicbnlgaaGreatDoorH2
namespace Go.Proofs.YtnicmdlicbnlgaaGreatDoor
open Go.RowKit
set_option linter.unusedVariables false
set_option linter.unusedSimpArgs false

/-- 'heads', at a header's start. -/
structure TopAt (w : World) (b : ByteArray) (k : Nat) (s : RS) (hv : Value) (a : Nat) (wr : World) : Prop where
  top : Blk wr (w.heap.size + 1) 107 (topCells s hv 0 0)
  res : Blk wr w.heap.size 107 top0
  own : wr.ownsRow w.heap.size 88 2 hv s.hs.length (headCells s.hs)
  below : Below w.heap.size w wr
  state : s.state = 1
  wf : s.wf
  le : a ≤ b.size
  tell : tellP RS.init (b.data.toList.drop k) = tellP s (b.data.toList.drop a)
/-- The same in a later world. -/
theorem TopAt.on {w : World} {b : ByteArray} {k : Nat} {s : RS} {hv : Value} {a : Nat} {wr w' : World} (h : TopAt w b k s hv a wr) (hb : Below wr.heap.size wr w') : TopAt w b k s hv a w' :=
  ⟨(hb.block _ h.top.lt).trans h.top, (hb.block _ h.res.lt).trans h.res, own_keep h.own fun g hg => by
    rcases h.own.2 with ⟨rfl, _⟩ | ⟨g', cap, cur, rfl, _, hh, _⟩
    · cases hg
    · simp only [Value.ownBlock, Option.some.injEq] at hg
      subst hg
      exact hb.block _ (Array.getElem?_eq_some_iff.1 hh).1, bl_trans h.below hb, h.state, h.wf, h.le, h.tell⟩
theorem step0_wf {b l r m p : List UInt8} (h : lineAt 512 b = .got l r) (hf : firstLn l = some (m, p)) : ({ RS.init with state := 1, m := ⟨m.toArray⟩, p := ⟨p.toArray⟩ } : RS).wf :=
  step_wf wf_init (b := b) (r := r) (by unfold stepP; simp only [RS.init, h, hf])
theorem head_small {s n v : ByteArray} {ok : Bool} (hf : headLn s.data.toList = if ok then some (n.data.toList, v.data.toList) else none) (h : ok = true) {N : Nat} (hN : s.size ≤ N) : v.size ≤ N := by
  subst h
  rw [headLn_wire] at hf
  simp only [if_true] at hf
  split at hf
  · simp only [Option.some.injEq, Prod.mk.injEq] at hf
    have h1 := bare_len (Lib.cut s.data.toList [58]).2.1
    have h2 := (cut_small s.data.toList 58).2
    rw [hf.2] at h1
    simp at h1 h2
    omega
  · cases hf
/-- A cell of the kept part is written. -/
theorem TopAt.cells {w : World} {b : ByteArray} {k : Nat} {s : RS} {hv : Value} {a : Nat} {wr : World} (h : TopAt w b k s hv a wr) (i : Nat) (u : Value) :
    Blk (wr.setCell ⟨w.heap.size + 1, i, none⟩ u) (w.heap.size + 1) 107 ((topCells s hv 0 0).setIfInBounds i u) ∧ Blk (wr.setCell ⟨w.heap.size + 1, i, none⟩ u) w.heap.size 107 top0 ∧
    (wr.setCell ⟨w.heap.size + 1, i, none⟩ u).ownsRow w.heap.size 88 2 hv s.hs.length (headCells s.hs) ∧ Below w.heap.size w (wr.setCell ⟨w.heap.size + 1, i, none⟩ u) := by
  refine ⟨h.top.set_ i u, (Below.heap_setCell _ _ _ _ (by simp)).trans h.res, own_keep h.own fun g hg => Below.heap_setCell _ _ _ _ ?_, h.below.setCell (Nat.le_succ _) _⟩
  intro e
  exact own_blk h.own h.top (by decide) (by rw [hg]; exact congrArg some e)
/-- Behind a header. -/
theorem TopAt.next {w : World} {b : ByteArray} {k : Nat} {s s' : RS} {hv hv' : Value} {a : Nat} {wr W : World} {l r : List UInt8} (h : TopAt w b k s hv a wr) (hl : lineAt s.left (b.data.toList.drop a) = .got l r) (h0 : ¬ l = []) (hm : ¬ (s.many : Int) = 32)
    (hdr : b.data.toList.drop (a + l.length + 2) = r) (hat : a + l.length + 2 ≤ b.size) (hp : headP s l r = .on s' r) (hT : Blk W (w.heap.size + 1) 107 (topCells s' hv' 0 0)) (hR : Blk W w.heap.size 107 top0)
    (ho : W.ownsRow w.heap.size 88 2 hv' s'.hs.length (headCells s'.hs)) (hb : Below w.heap.size w W) : TopAt w b k s' hv' (a + l.length + 2) W := by
  have hm32 := h.wf.many
  obtain ⟨h1, h2⟩ := headP_wf h.wf h.state (by omega) hp
  refine ⟨hT, hR, ho, hb, h2, h1, hat, ?_⟩
  rw [h.tell, tell_on (s' := s') (r := r) (by rw [step1_head h.state hl h0 (by omega), hp]), hdr]
def HeadsRel (w : World) (b : ByteArray) (k : Nat) (at' many left : Value) (wr : World) : Prop :=
  ∃ (s : RS) (hv : Value) (a : Nat), at' = .int .i64 a ∧ many = .int .i64 s.many ∧ left = .int .i64 s.left ∧ TopAt w b k s hv a wr
theorem headedP_nw (s : RS) (r : List UInt8) : headedP s r ≠ .wait := by
  unfold headedP
  repeat' split
  all_goals (intro h; cases h)
set_option maxRecDepth 100000 in
set_option maxHeartbeats 6400000 in
theorem rf_heads (b : ByteArray) (k : Nat) (w : World) (hs : b.size ≤ 1000000) (hk : k ≤ b.size) :
    Calls Tryz.prog 62 #[.string b, .int .i64 k] w (HeadsPost w b k) := by
  obtain ⟨w1, hw1⟩ : ∃ w1, w1 = (w.alloc (Obj.cells top0 107)).alloc (Obj.cells (topCells RS.init (.slice none 0 0) 0 0) 107) := ⟨_, rfl⟩
  have hT : Blk w1 (w.heap.size + 1) 107 (topCells RS.init (.slice none 0 0) 0 0) := by
    rw [hw1]
    have := Blk.new (w.alloc (Obj.cells top0 107)) 107 (topCells RS.init (.slice none 0 0) 0 0)
    simpa using this
  have hRb : Blk w1 w.heap.size 107 top0 := by
    rw [hw1]
    have h1 := Blk.new w 107 top0
    exact ((bl_alloc (Below.refl (w.alloc (Obj.cells top0 107)).heap.size _) _).block _ h1.lt).trans h1
  have hB : Below w.heap.size w w1 := by rw [hw1]; exact bl_alloc (bl_alloc (Below.refl _ _) _) _
  have HW1 := Lib.hid hw1; clear hw1
  obtain ⟨R, hR⟩ : ∃ R, R = w.heap.size := ⟨_, rfl⟩
  have hT0 : w1.cell? ⟨R + 1, 0, none⟩ = some (.string ⟨#[]⟩) := by rw [hR]; exact hT.cell 0
  have HT := Lib.hid hT; clear hT
  have HRB := Lib.hid hRb; clear hRb
  have HB := Lib.hid hB; clear hB
  generalize hQ : HeadsPost w b k = Q
  have HQ := Lib.hid hQ; clear hQ
  unfold topCells RS.init top0 at HW1
  go_enter Tryz.func62, Tryz.ntmps62
  go_wp2_with fail
  rw [← HW1.out]
  rw [← hR] at HT HRB ⊢
  have HR := Lib.hid hR; clear hR
  have HRET : Hid (∀ W (s : RS) (A : Option Addr) (n c : Nat) (a : Nat) (e : Int), HeadsTold b.data.toList k s a e → (e = 0 → W.ownsRow w.heap.size 88 2 (.slice A n c) s.hs.length (headCells s.hs)) → Below w.heap.size w W → Q (.returned (.agg (topCells s (.slice A n c) a e))) W) := fun W s A n c a e h1 h2 h3 => by
    rw [← HQ.out]
    exact ⟨s, A, n, c, a, e, rfl, h1, h2, h3⟩
  refine (rf_line b k 512 282 _ (by omega) hk (by omega)).mono ?_
  rintro en w2 ⟨rfl, rfl⟩
  unfold lineV
  cases hl : lineAt 512 (b.data.toList.drop k) with
  | wait =>
    simp only
    have c0 : w1.cell? ⟨R + 1, 0, none⟩ = some (.string ⟨#[]⟩) := HT.out.cell 0
    have c1 : w1.cell? ⟨R + 1, 1, none⟩ = some (.string ⟨#[]⟩) := HT.out.cell 1
    have c2 : w1.cell? ⟨R + 1, 2, none⟩ = some (.slice none 0 0) := HT.out.cell 2
    have c3 : w1.cell? ⟨R + 1, 3, none⟩ = some (.string ⟨#[]⟩) := HT.out.cell 3
    have c4 : w1.cell? ⟨R + 1, 4, none⟩ = some (.bool false) := HT.out.cell 4
    have c5 : w1.cell? ⟨R + 1, 5, none⟩ = some (.int .i64 (-1)) := HT.out.cell 5
    have c6 : w1.cell? ⟨R + 1, 6, none⟩ = some (.bool false) := HT.out.cell 6
    have c7 : w1.cell? ⟨R + 1, 7, none⟩ = some (.int .i64 0) := HT.out.cell 7
    have c8 : w1.cell? ⟨R + 1, 8, none⟩ = some (.int .i64 0) := HT.out.cell 8
    have f8 := HT.out.frozen 8
    have z0 : w1.cell? ⟨R, 0, none⟩ = some (.string ⟨#[]⟩) := HRB.out.cell 0
    have z1 : w1.cell? ⟨R, 1, none⟩ = some (.string ⟨#[]⟩) := HRB.out.cell 1
    have z2 : w1.cell? ⟨R, 2, none⟩ = some (.slice none 0 0) := HRB.out.cell 2
    have z3 : w1.cell? ⟨R, 3, none⟩ = some (.string ⟨#[]⟩) := HRB.out.cell 3
    have z4 : w1.cell? ⟨R, 4, none⟩ = some (.bool false) := HRB.out.cell 4
    have z5 : w1.cell? ⟨R, 5, none⟩ = some (.int .i64 0) := HRB.out.cell 5
    have z6 : w1.cell? ⟨R, 6, none⟩ = some (.bool false) := HRB.out.cell 6
    have z7 : w1.cell? ⟨R, 7, none⟩ = some (.int .i64 0) := HRB.out.cell 7
    have z8 : w1.cell? ⟨R, 8, none⟩ = some (.int .i64 0) := HRB.out.cell 8
    have zf0 := HRB.out.frozen 0
    have zf1 := HRB.out.frozen 1
    have zf2 := HRB.out.frozen 2
    have zf3 := HRB.out.frozen 3
    have zf4 := HRB.out.frozen 4
    have zf5 := HRB.out.frozen 5
    have zf6 := HRB.out.frozen 6
    have zf7 := HRB.out.frozen 7
    have zf8 := HRB.out.frozen 8
    have HTO : Hid (HeadsTold b.data.toList k RS.init 0 (-1)) := .inr (.inl ⟨rfl, RS.init, _, step0_wait hl⟩)
    have HRL : Hid (w.heap.size ≤ R) := Nat.le_of_eq HR.out.symm
    go_wp2_with fail
    refine bodyPost_ret (v := .agg #[.string ⟨#[]⟩, .string ⟨#[]⟩, .slice none 0 0, .string ⟨#[]⟩, .bool false, .int .i64 (-1), .bool false, .int .i64 0, .int .i64 (-1)]) (by simp [results, Tryz.results62, go_sem, c0, c1, c2, c3, c4, c5, c6, c7, c8, z0, z1, z2, z3, z4, z5, z6, z7, z8]) rfl ?_
    have HRX := HRET.out

    refine HRX _ RS.init none 0 0 0 (-1) HTO.out (fun h => absurd h (by decide)) ?_
    iterate 10 (refine Below.setCell ?_ (by first | exact HRL.out | exact Nat.le_succ_of_le HRL.out) _)
    exact HB.out
  | bad =>
    simp only
    have c0 : w1.cell? ⟨R + 1, 0, none⟩ = some (.string ⟨#[]⟩) := HT.out.cell 0
    have c1 : w1.cell? ⟨R + 1, 1, none⟩ = some (.string ⟨#[]⟩) := HT.out.cell 1
    have c2 : w1.cell? ⟨R + 1, 2, none⟩ = some (.slice none 0 0) := HT.out.cell 2
    have c3 : w1.cell? ⟨R + 1, 3, none⟩ = some (.string ⟨#[]⟩) := HT.out.cell 3
    have c4 : w1.cell? ⟨R + 1, 4, none⟩ = some (.bool false) := HT.out.cell 4
    have c5 : w1.cell? ⟨R + 1, 5, none⟩ = some (.int .i64 (-1)) := HT.out.cell 5
    have c6 : w1.cell? ⟨R + 1, 6, none⟩ = some (.bool false) := HT.out.cell 6
    have c7 : w1.cell? ⟨R + 1, 7, none⟩ = some (.int .i64 0) := HT.out.cell 7
    have c8 : w1.cell? ⟨R + 1, 8, none⟩ = some (.int .i64 0) := HT.out.cell 8
    have f8 := HT.out.frozen 8
    have z0 : w1.cell? ⟨R, 0, none⟩ = some (.string ⟨#[]⟩) := HRB.out.cell 0
    have z1 : w1.cell? ⟨R, 1, none⟩ = some (.string ⟨#[]⟩) := HRB.out.cell 1
    have z2 : w1.cell? ⟨R, 2, none⟩ = some (.slice none 0 0) := HRB.out.cell 2
    have z3 : w1.cell? ⟨R, 3, none⟩ = some (.string ⟨#[]⟩) := HRB.out.cell 3
    have z4 : w1.cell? ⟨R, 4, none⟩ = some (.bool false) := HRB.out.cell 4
    have z5 : w1.cell? ⟨R, 5, none⟩ = some (.int .i64 0) := HRB.out.cell 5
    have z6 : w1.cell? ⟨R, 6, none⟩ = some (.bool false) := HRB.out.cell 6
    have z7 : w1.cell? ⟨R, 7, none⟩ = some (.int .i64 0) := HRB.out.cell 7
    have z8 : w1.cell? ⟨R, 8, none⟩ = some (.int .i64 0) := HRB.out.cell 8
    have zf0 := HRB.out.frozen 0
    have zf1 := HRB.out.frozen 1
    have zf2 := HRB.out.frozen 2
    have zf3 := HRB.out.frozen 3
    have zf4 := HRB.out.frozen 4
    have zf5 := HRB.out.frozen 5
    have zf6 := HRB.out.frozen 6
    have zf7 := HRB.out.frozen 7
    have zf8 := HRB.out.frozen 8
    have HTO : Hid (HeadsTold b.data.toList k RS.init 0 282) := .inr (.inr ⟨by decide, step0_bad hl⟩)
    have HRL : Hid (w.heap.size ≤ R) := Nat.le_of_eq HR.out.symm
    go_wp2_with fail
    refine bodyPost_ret (v := .agg #[.string ⟨#[]⟩, .string ⟨#[]⟩, .slice none 0 0, .string ⟨#[]⟩, .bool false, .int .i64 (-1), .bool false, .int .i64 0, .int .i64 282]) (by simp [results, Tryz.results62, go_sem, c0, c1, c2, c3, c4, c5, c6, c7, c8, z0, z1, z2, z3, z4, z5, z6, z7, z8]) rfl ?_
    have HRX := HRET.out

    refine HRX _ RS.init none 0 0 0 282 HTO.out (fun h => absurd h (by decide)) ?_
    iterate 10 (refine Below.setCell ?_ (by first | exact HRL.out | exact Nat.le_succ_of_le HRL.out) _)
    exact HB.out
  | got s r =>
    simp only
    have hL := lineAt_len hl
    have hat : k + s.length + 2 ≤ b.size := by
      have := congrArg List.length hL.1
      simp at this
      omega
    have hdr : r = b.data.toList.drop (k + s.length + 2) := by
      have := congrArg (List.drop (s.length + 2)) hL.1
      rw [List.drop_drop] at this
      rw [show k + s.length + 2 = k + (s.length + 2) from by omega, this]
      simp
    clear hL
    have HF : Hid (∀ W, Calls Tryz.prog 90 #[.string ⟨s.toArray⟩] W fun en w' => FirstRet ⟨s.toArray⟩ en ∧ Below W.heap.size W w') := fun W => rf_first _ W (by rw [show (⟨s.toArray⟩ : ByteArray).size = s.length from by show s.toArray.size = _; simp]; omega)
    have HL := Lib.hid hl; clear hl
    have HDR := Lib.hid hdr; clear hdr
    go_wp2_with fail
    refine (HF.out _).mono ?_
    rintro en w2 ⟨⟨m, p, ok, rfl, hf⟩, hb⟩
    have hT2 : Blk w2 (R + 1) 107 (topCells RS.init (.slice none 0 0) 0 0) := (hb.block _ HT.out.lt).trans HT.out
    have hR2 : Blk w2 R 107 top0 := (hb.block _ HRB.out.lt).trans HRB.out
    have hB2 := bl_trans HB.out hb
    have c0 : w2.cell? ⟨R + 1, 0, none⟩ = some (.string ⟨#[]⟩) := hT2.cell 0
    have c1 : w2.cell? ⟨R + 1, 1, none⟩ = some (.string ⟨#[]⟩) := hT2.cell 1
    have f0 := hT2.frozen 0
    have f1 := hT2.frozen 1
    cases ok with
    | false =>
      clear c0 c1 f0 f1
      have HB2 := Lib.hid hB2
      have c0 : w2.cell? ⟨R + 1, 0, none⟩ = some (.string ⟨#[]⟩) := hT2.cell 0
      have c1 : w2.cell? ⟨R + 1, 1, none⟩ = some (.string ⟨#[]⟩) := hT2.cell 1
      have c2 : w2.cell? ⟨R + 1, 2, none⟩ = some (.slice none 0 0) := hT2.cell 2
      have c3 : w2.cell? ⟨R + 1, 3, none⟩ = some (.string ⟨#[]⟩) := hT2.cell 3
      have c4 : w2.cell? ⟨R + 1, 4, none⟩ = some (.bool false) := hT2.cell 4
      have c5 : w2.cell? ⟨R + 1, 5, none⟩ = some (.int .i64 (-1)) := hT2.cell 5
      have c6 : w2.cell? ⟨R + 1, 6, none⟩ = some (.bool false) := hT2.cell 6
      have c7 : w2.cell? ⟨R + 1, 7, none⟩ = some (.int .i64 0) := hT2.cell 7
      have c8 : w2.cell? ⟨R + 1, 8, none⟩ = some (.int .i64 0) := hT2.cell 8
      have f8 := hT2.frozen 8
      have z0 : w2.cell? ⟨R, 0, none⟩ = some (.string ⟨#[]⟩) := hR2.cell 0
      have z1 : w2.cell? ⟨R, 1, none⟩ = some (.string ⟨#[]⟩) := hR2.cell 1
      have z2 : w2.cell? ⟨R, 2, none⟩ = some (.slice none 0 0) := hR2.cell 2
      have z3 : w2.cell? ⟨R, 3, none⟩ = some (.string ⟨#[]⟩) := hR2.cell 3
      have z4 : w2.cell? ⟨R, 4, none⟩ = some (.bool false) := hR2.cell 4
      have z5 : w2.cell? ⟨R, 5, none⟩ = some (.int .i64 0) := hR2.cell 5
      have z6 : w2.cell? ⟨R, 6, none⟩ = some (.bool false) := hR2.cell 6
      have z7 : w2.cell? ⟨R, 7, none⟩ = some (.int .i64 0) := hR2.cell 7
      have z8 : w2.cell? ⟨R, 8, none⟩ = some (.int .i64 0) := hR2.cell 8
      have zf0 := hR2.frozen 0
      have zf1 := hR2.frozen 1
      have zf2 := hR2.frozen 2
      have zf3 := hR2.frozen 3
      have zf4 := hR2.frozen 4
      have zf5 := hR2.frozen 5
      have zf6 := hR2.frozen 6
      have zf7 := hR2.frozen 7
      have zf8 := hR2.frozen 8
      have HTO : Hid (HeadsTold b.data.toList k RS.init 0 280) := .inr (.inr ⟨by decide, step0_no HL.out hf⟩)
      have HRL : Hid (w.heap.size ≤ R) := Nat.le_of_eq HR.out.symm
      go_wp2_with fail
      refine bodyPost_ret (v := .agg #[.string ⟨#[]⟩, .string ⟨#[]⟩, .slice none 0 0, .string ⟨#[]⟩, .bool false, .int .i64 (-1), .bool false, .int .i64 0, .int .i64 280]) (by simp [results, Tryz.results62, go_sem, c0, c1, c2, c3, c4, c5, c6, c7, c8, z0, z1, z2, z3, z4, z5, z6, z7, z8]) rfl ?_
      have HRX := HRET.out

      refine HRX _ RS.init none 0 0 0 280 HTO.out (fun h => absurd h (by decide)) ?_
      iterate 10 (refine Below.setCell ?_ (by first | exact HRL.out | exact Nat.le_succ_of_le HRL.out) _)
      exact HB2.out
    | true =>
    have hst : HeadsRel w b k (.int .i64 ((k : Int) + s.length + 2)) (.int .i64 0) (.int .i64 1024) ((w2.setCell ⟨R + 1, 0, none⟩ (.string m)).setCell ⟨R + 1, 1, none⟩ (.string p)) := by
      refine ⟨{ RS.init with state := 1, m := m, p := p }, .slice none 0 0, k + s.length + 2, by simp, rfl, rfl, ?_⟩
      have h1 := (hT2.set_ 0 (.string m)).set_ 1 (.string p)
      have h2 : Blk ((w2.setCell ⟨R + 1, 0, none⟩ (.string m)).setCell ⟨R + 1, 1, none⟩ (.string p)) R 107 top0 := by
        have e1 := Below.heap_setCell (w2.setCell ⟨R + 1, 0, none⟩ (.string m)) ⟨R + 1, 1, none⟩ (.string p) R (by simp)
        have e2 := Below.heap_setCell w2 ⟨R + 1, 0, none⟩ (.string m) R (by simp)
        exact e1.trans (e2.trans hR2)
      rw [HR.out] at *
      exact ⟨h1, h2, World.ownsRow_nil _ _ _ _, (hB2.setCell (Nat.le_succ _) _).setCell (Nat.le_succ _) _, rfl, step0_wf HL.out hf, hat, by
        rw [step0_yes HL.out hf, HDR.out]⟩
    have HST := Lib.hid hst; clear hst
    clear hT2 hR2 hB2 hb
    go_wp2_with fail
    clear c0 c1 f0 f1
    go_loopw [1, 11, 12] (fun at' many left wr => HeadsRel w b k at' many left wr) (fun at' _ _ _ => b.size - (intOf at').toNat)
    case atStart => exact HST.out
    case round =>
      obtain ⟨s, hv, a, rfl, rfl, rfl, h⟩ := hrel
      obtain ⟨A, ch, rfl⟩ := own_slice h.own
      have hC := rf_line b a s.left 282 wr (by omega) h.le (by have := h.wf.left; omega)
      have HC := Lib.hid hC; clear hC
      have hm32 : s.many ≤ 32 := h.wf.many
      have hlf : s.left ≤ 1024 := h.wf.left
      have hal : a ≤ b.size := h.le
      have hT : Blk wr (R + 1) 107 (topCells s (.slice A s.hs.length ch) 0 0) := by rw [HR.out]; exact h.top
      have hZ : Blk wr R 107 top0 := by rw [HR.out]; exact h.res
      have c0 : wr.cell? ⟨R + 1, 0, none⟩ = some (.string s.m) := hT.cell 0
      have c1 : wr.cell? ⟨R + 1, 1, none⟩ = some (.string s.p) := hT.cell 1
      have c2 : wr.cell? ⟨R + 1, 2, none⟩ = some (.slice A s.hs.length ch) := hT.cell 2
      have c3 : wr.cell? ⟨R + 1, 3, none⟩ = some (.string ⟨#[]⟩) := hT.cell 3
      have c4 : wr.cell? ⟨R + 1, 4, none⟩ = some (.bool s.close) := hT.cell 4
      have c5 : wr.cell? ⟨R + 1, 5, none⟩ = some (.int .i64 s.long) := hT.cell 5
      have c6 : wr.cell? ⟨R + 1, 6, none⟩ = some (.bool s.chunks) := hT.cell 6
      have c7 : wr.cell? ⟨R + 1, 7, none⟩ = some (.int .i64 0) := hT.cell 7
      have c8 : wr.cell? ⟨R + 1, 8, none⟩ = some (.int .i64 0) := hT.cell 8
      have f2 := hT.frozen 2
      have f4 := hT.frozen 4
      have f5 := hT.frozen 5
      have f6 := hT.frozen 6
      have f7 := hT.frozen 7
      have f8 := hT.frozen 8
      have z0 : wr.cell? ⟨R, 0, none⟩ = some (.string ⟨#[]⟩) := hZ.cell 0
      have z1 : wr.cell? ⟨R, 1, none⟩ = some (.string ⟨#[]⟩) := hZ.cell 1
      have z2 : wr.cell? ⟨R, 2, none⟩ = some (.slice none 0 0) := hZ.cell 2
      have z3 : wr.cell? ⟨R, 3, none⟩ = some (.string ⟨#[]⟩) := hZ.cell 3
      have z4 : wr.cell? ⟨R, 4, none⟩ = some (.bool false) := hZ.cell 4
      have z5 : wr.cell? ⟨R, 5, none⟩ = some (.int .i64 0) := hZ.cell 5
      have z6 : wr.cell? ⟨R, 6, none⟩ = some (.bool false) := hZ.cell 6
      have z7 : wr.cell? ⟨R, 7, none⟩ = some (.int .i64 0) := hZ.cell 7
      have z8 : wr.cell? ⟨R, 8, none⟩ = some (.int .i64 0) := hZ.cell 8
      have zf0 := hZ.frozen 0
      have zf1 := hZ.frozen 1
      have zf2 := hZ.frozen 2
      have zf3 := hZ.frozen 3
      have zf4 := hZ.frozen 4
      have zf5 := hZ.frozen 5
      have zf6 := hZ.frozen 6
      have zf7 := hZ.frozen 7
      have zf8 := hZ.frozen 8
      clear hT hZ
      have H := Lib.hid h; clear h
      have HRL : Hid (w.heap.size ≤ R) := Nat.le_of_eq HR.out.symm
      unfold lineV at HC
      cases hl : lineAt s.left (b.data.toList.drop a) with
      | wait =>
        rw [hl] at HC
        simp only at HC
        by_cases hm : (s.many : Int) = 32
        · by_cases ha : a < b.size
          · by_cases h13 : (b[a].toNat : Int) = 13
            · by_cases h1 : a + 1 < b.size
              · have HTO : Hid (HeadsTold b.data.toList k s 0 282) := .inr (.inr ⟨by decide, by rw [H.out.tell, tell_fail (step1_full H.out.state hl (by omega) (by rw [drop_at b a ha, drop_at b (a + 1) h1]; simp))]⟩)
                clear hl
                go_wp2_with fail
                refine HC.out.mono ?_
                rintro en w2 ⟨rfl, rfl⟩
                go_wp2_with fail
                refine bodyPost_ret (v := .agg #[.string s.m, .string s.p, .slice A s.hs.length ch, .string ⟨#[]⟩, .bool s.close, .int .i64 s.long, .bool s.chunks, .int .i64 0, .int .i64 282]) (by simp [results, Tryz.results62, go_sem, c0, c1, c2, c3, c4, c5, c6, c7, c8, z0, z1, z2, z3, z4, z5, z6, z7, z8]) rfl ?_
                have HRX := HRET.out
                refine HRX _ s A s.hs.length ch 0 282 HTO.out (fun h => absurd h (by decide)) ?_
                iterate 11 (refine Below.setCell ?_ (by first | exact HRL.out | exact Nat.le_succ_of_le HRL.out) _)
                exact H.out.below
              · have HTO : Hid (HeadsTold b.data.toList k s 0 (-1)) := .inr (.inl ⟨rfl, s, b.data.toList.drop a, by rw [H.out.tell, tell_wait (step1_wait H.out.state hl (fun _ => .inr (by rw [drop_at b a ha, byte13 h13, List.drop_eq_nil_of_le (by simp; omega)])))]⟩)
                clear hl
                go_wp2_with fail
                refine HC.out.mono ?_
                rintro en w2 ⟨rfl, rfl⟩
                go_wp2_with fail
                refine bodyPost_ret (v := .agg #[.string s.m, .string s.p, .slice A s.hs.length ch, .string ⟨#[]⟩, .bool s.close, .int .i64 s.long, .bool s.chunks, .int .i64 0, .int .i64 (-1)]) (by simp [results, Tryz.results62, go_sem, c0, c1, c2, c3, c4, c5, c6, c7, c8, z0, z1, z2, z3, z4, z5, z6, z7, z8]) rfl ?_
                have HRX := HRET.out
                refine HRX _ s A s.hs.length ch 0 (-1) HTO.out (fun h => absurd h (by decide)) ?_
                iterate 10 (refine Below.setCell ?_ (by first | exact HRL.out | exact Nat.le_succ_of_le HRL.out) _)
                exact H.out.below
            · have HTO : Hid (HeadsTold b.data.toList k s 0 282) := .inr (.inr ⟨by decide, by rw [H.out.tell, tell_fail (step1_full H.out.state hl (by omega) (by rw [drop_at b a ha]; simp; intro h; exact absurd (by rw [h]; rfl) h13))]⟩)
              clear hl
              go_wp2_with fail
              refine HC.out.mono ?_
              rintro en w2 ⟨rfl, rfl⟩
              go_wp2_with fail
              refine bodyPost_ret (v := .agg #[.string s.m, .string s.p, .slice A s.hs.length ch, .string ⟨#[]⟩, .bool s.close, .int .i64 s.long, .bool s.chunks, .int .i64 0, .int .i64 282]) (by simp [results, Tryz.results62, go_sem, c0, c1, c2, c3, c4, c5, c6, c7, c8, z0, z1, z2, z3, z4, z5, z6, z7, z8]) rfl ?_
              have HRX := HRET.out
              refine HRX _ s A s.hs.length ch 0 282 HTO.out (fun h => absurd h (by decide)) ?_
              iterate 11 (refine Below.setCell ?_ (by first | exact HRL.out | exact Nat.le_succ_of_le HRL.out) _)
              exact H.out.below
          · have HTO : Hid (HeadsTold b.data.toList k s 0 (-1)) := .inr (.inl ⟨rfl, s, b.data.toList.drop a, by rw [H.out.tell, tell_wait (step1_wait H.out.state hl (fun _ => .inl (List.drop_eq_nil_of_le (by simp; omega))))]⟩)
            clear hl
            go_wp2_with fail
            refine HC.out.mono ?_
            rintro en w2 ⟨rfl, rfl⟩
            go_wp2_with fail
            refine bodyPost_ret (v := .agg #[.string s.m, .string s.p, .slice A s.hs.length ch, .string ⟨#[]⟩, .bool s.close, .int .i64 s.long, .bool s.chunks, .int .i64 0, .int .i64 (-1)]) (by simp [results, Tryz.results62, go_sem, c0, c1, c2, c3, c4, c5, c6, c7, c8, z0, z1, z2, z3, z4, z5, z6, z7, z8]) rfl ?_
            have HRX := HRET.out
            refine HRX _ s A s.hs.length ch 0 (-1) HTO.out (fun h => absurd h (by decide)) ?_
            iterate 10 (refine Below.setCell ?_ (by first | exact HRL.out | exact Nat.le_succ_of_le HRL.out) _)
            exact H.out.below
        · have HTO : Hid (HeadsTold b.data.toList k s 0 (-1)) := .inr (.inl ⟨rfl, s, b.data.toList.drop a, by rw [H.out.tell, tell_wait (step1_wait H.out.state hl (fun h => absurd h (by omega)))]⟩)
          clear hl
          go_wp2_with fail
          refine HC.out.mono ?_
          rintro en w2 ⟨rfl, rfl⟩
          go_wp2_with fail
          refine bodyPost_ret (v := .agg #[.string s.m, .string s.p, .slice A s.hs.length ch, .string ⟨#[]⟩, .bool s.close, .int .i64 s.long, .bool s.chunks, .int .i64 0, .int .i64 (-1)]) (by simp [results, Tryz.results62, go_sem, c0, c1, c2, c3, c4, c5, c6, c7, c8, z0, z1, z2, z3, z4, z5, z6, z7, z8]) rfl ?_
          have HRX := HRET.out
          refine HRX _ s A s.hs.length ch 0 (-1) HTO.out (fun h => absurd h (by decide)) ?_
          iterate 10 (refine Below.setCell ?_ (by first | exact HRL.out | exact Nat.le_succ_of_le HRL.out) _)
          exact H.out.below
      | bad =>
        rw [hl] at HC
        simp only at HC
        have HTO : Hid (HeadsTold b.data.toList k s 0 282) := .inr (.inr ⟨by decide, by rw [H.out.tell, tell_fail (step1_bad H.out.state hl)]⟩)
        clear hl
        go_wp2_with fail
        refine HC.out.mono ?_
        rintro en w2 ⟨rfl, rfl⟩
        go_wp2_with fail
        refine bodyPost_ret (v := .agg #[.string s.m, .string s.p, .slice A s.hs.length ch, .string ⟨#[]⟩, .bool s.close, .int .i64 s.long, .bool s.chunks, .int .i64 0, .int .i64 282]) (by simp [results, Tryz.results62, go_sem, c0, c1, c2, c3, c4, c5, c6, c7, c8, z0, z1, z2, z3, z4, z5, z6, z7, z8]) rfl ?_
        have HRX := HRET.out

        refine HRX _ s A s.hs.length ch 0 282 HTO.out (fun h => absurd h (by decide)) ?_
        iterate 10 (refine Below.setCell ?_ (by first | exact HRL.out | exact Nat.le_succ_of_le HRL.out) _)
        exact H.out.below
      | got l r =>
        rw [hl] at HC
        simp only at HC
        have hL := lineAt_len hl
        have hat : a + l.length + 2 ≤ b.size := by
          have := congrArg List.length hL.1
          simp at this
          omega
        have hdr : b.data.toList.drop (a + l.length + 2) = r := by
          have := congrArg (List.drop (l.length + 2)) hL.1
          rw [List.drop_drop] at this
          rw [show a + l.length + 2 = a + (l.length + 2) from by omega, this]
          simp
        have hll : l.length ≤ s.left := hL.2
        clear hL
        have HDR := Lib.hid hdr; clear hdr
        obtain ⟨ls, hls⟩ : ∃ ls : ByteArray, (⟨l.toArray⟩ : ByteArray) = ls := ⟨_, rfl⟩
        have hld : ls.data.toList = l := by rw [← hls]
        have hlz : ls.size = l.length := by rw [← hld]; simp
        rw [hls] at HC
        have HLD := Lib.hid hld; clear hld hls
        have HL := Lib.hid hl; clear hl
        by_cases h0 : l = []
        · have he : ls.toList.isEmpty = true := by rw [toList_data, HLD.out, h0]; rfl
          have HTO : Hid (HeadsTold b.data.toList k s (a + 2) 0) := .inl ⟨rfl, by rw [h0] at hat; simpa using hat, H.out.wf, H.out.state, H.out.wf.bare (by have := H.out.state; omega), by
            rw [H.out.tell, tell_go, step1_end H.out.state (by have := HL.out; rw [h0] at this; exact this), show b.data.toList.drop (a + 2) = r from by have := HDR.out; rw [h0] at this; exact this]
            cases hp : headedP s r with
            | wait => exact absurd hp (headedP_nw s r)
            | fail e => rfl
            | on s' r' => rfl
            | whole q r' => rfl⟩
          have HOW : Hid (wr.ownsRow w.heap.size 88 2 (.slice A s.hs.length ch) s.hs.length (headCells s.hs)) := H.out.own
          have HN1 : Hid (∀ g, (Value.slice A s.hs.length ch).ownBlock = some g → g ≠ R) := fun g hg e => own_blk H.out.own H.out.res (by decide) (by rw [hg, e, HR.out])
          have HN2 : Hid (∀ g, (Value.slice A s.hs.length ch).ownBlock = some g → g ≠ R + 1) := fun g hg e => own_blk H.out.own H.out.top (by decide) (by rw [hg, e, HR.out])
          have hl0 : l.length = 0 := by rw [h0]; rfl
          clear h0
          go_wp2_with fail
          refine HC.out.mono ?_
          rintro en w2 ⟨rfl, rfl⟩
          go_wp2_with fail
          refine bodyPost_ret (v := .agg #[.string s.m, .string s.p, .slice A s.hs.length ch, .string ⟨#[]⟩, .bool s.close, .int .i64 s.long, .bool s.chunks, .int .i64 ((a : Int) + 2), .int .i64 0]) (by simp [results, Tryz.results62, go_sem, c0, c1, c2, c3, c4, c5, c6, c7, c8, z0, z1, z2, z3, z4, z5, z6, z7, z8]) rfl ?_
          have HRX := HRET.out

          refine HRX _ s A s.hs.length ch (a + 2) 0 HTO.out (fun _ => ?_) ?_
          case refine_1 =>
            refine own_keep HOW.out fun g hg => ?_
            have n1 := HN1.out g hg
            have n2 := HN2.out g hg
            iterate 11 (refine (Below.heap_setCell _ _ _ _ (by first | exact n1 | exact n2)).trans ?_)
            rfl
          iterate 11 (refine Below.setCell ?_ (by first | exact HRL.out | exact Nat.le_succ_of_le HRL.out) _)
          exact H.out.below
        · have he : ls.toList.isEmpty = false := by
            rw [toList_data, HLD.out]
            cases l with
            | nil => exact absurd rfl h0
            | cons x t => rfl
          by_cases hm : (s.many : Int) = 32
          · have HTO : Hid (HeadsTold b.data.toList k s 0 282) := .inr (.inr ⟨by decide, by rw [H.out.tell, tell_fail (step1_many H.out.state HL.out h0 (by omega))]⟩)
            go_wp2_with fail
            refine HC.out.mono ?_
            rintro en w2 ⟨rfl, rfl⟩
            go_wp2_with fail
            refine bodyPost_ret (v := .agg #[.string s.m, .string s.p, .slice A s.hs.length ch, .string ⟨#[]⟩, .bool s.close, .int .i64 s.long, .bool s.chunks, .int .i64 0, .int .i64 282]) (by simp [results, Tryz.results62, go_sem, c0, c1, c2, c3, c4, c5, c6, c7, c8, z0, z1, z2, z3, z4, z5, z6, z7, z8]) rfl ?_
            have HRX := HRET.out

            refine HRX _ s A s.hs.length ch 0 282 HTO.out (fun h => absurd h (by decide)) ?_
            iterate 11 (refine Below.setCell ?_ (by first | exact HRL.out | exact Nat.le_succ_of_le HRL.out) _)
            exact H.out.below
          · skip
            have HH : Hid (∀ W, Calls Tryz.prog 91 #[.string ls] W fun en w' => HeadRet ls en ∧ Below W.heap.size W w') := fun W => rf_header ls W (by omega)
            go_wp2_with fail
            refine HC.out.mono ?_
            rintro en w2 ⟨rfl, rfl⟩
            go_wp2_with fail
            refine (HH.out _).mono ?_
            rintro en w3 ⟨⟨n, v, ok, rfl, hf⟩, hb⟩
            have HVZ : Hid (ok = true → v.size ≤ 1000000) := fun h => head_small hf h (by omega)
            have H3 : Hid (TopAt w b k s (.slice A s.hs.length ch) a w3) := by
              obtain ⟨g1, g2, g3, g4⟩ := H.out.cells 8 (.int .i64 0)
              have g1' : Blk (wr.setCell ⟨w.heap.size + 1, 8, none⟩ (.int .i64 0)) (w.heap.size + 1) 107 (topCells s (.slice A s.hs.length ch) 0 0) := g1
              rw [← HR.out] at g1' g2 g3 g4
              exact TopAt.on ⟨by rw [← HR.out]; exact g1', by rw [← HR.out]; exact g2, by rw [← HR.out]; exact g3, by rw [← HR.out]; exact g4, H.out.state, H.out.wf, H.out.le, H.out.tell⟩ hb
            clear hb c0 c1 c2 c3 c4 c5 c6 c7 c8 z0 z1 z2 z3 z4 z5 z6 z7 z8 f2 f4 f5 f6 f7 f8 zf0 zf1 zf2 zf3 zf4 zf5 zf6 zf7 zf8
            obtain ⟨w4, hw4⟩ : ∃ w4, w4 = w3.alloc (Obj.cells #[.string n, .string v] 88) := ⟨_, rfl⟩
            have H4 : Hid (TopAt w b k s (.slice A s.hs.length ch) a w4) := by rw [hw4]; exact H3.out.on (bl_alloc (Below.refl _ _) _)
            have hhn : Blk w4 w3.heap.size 88 #[.string n, .string v] := by rw [hw4]; exact Blk.new _ _ _
            have hT : Blk w4 (R + 1) 107 (topCells s (.slice A s.hs.length ch) 0 0) := by rw [HR.out]; exact H4.out.top
            have hZ : Blk w4 R 107 top0 := by rw [HR.out]; exact H4.out.res
            have c0 : w4.cell? ⟨R + 1, 0, none⟩ = some (.string s.m) := hT.cell 0
            have c1 : w4.cell? ⟨R + 1, 1, none⟩ = some (.string s.p) := hT.cell 1
            have c2 : w4.cell? ⟨R + 1, 2, none⟩ = some (.slice A s.hs.length ch) := hT.cell 2
            have c3 : w4.cell? ⟨R + 1, 3, none⟩ = some (.string ⟨#[]⟩) := hT.cell 3
            have c4 : w4.cell? ⟨R + 1, 4, none⟩ = some (.bool s.close) := hT.cell 4
            have c5 : w4.cell? ⟨R + 1, 5, none⟩ = some (.int .i64 s.long) := hT.cell 5
            have c6 : w4.cell? ⟨R + 1, 6, none⟩ = some (.bool s.chunks) := hT.cell 6
            have c7 : w4.cell? ⟨R + 1, 7, none⟩ = some (.int .i64 0) := hT.cell 7
            have c8 : w4.cell? ⟨R + 1, 8, none⟩ = some (.int .i64 0) := hT.cell 8
            have f2 := hT.frozen 2
            have f4 := hT.frozen 4
            have f5 := hT.frozen 5
            have f6 := hT.frozen 6
            have f7 := hT.frozen 7
            have f8 := hT.frozen 8
            have z0 : w4.cell? ⟨R, 0, none⟩ = some (.string ⟨#[]⟩) := hZ.cell 0
            have z1 : w4.cell? ⟨R, 1, none⟩ = some (.string ⟨#[]⟩) := hZ.cell 1
            have z2 : w4.cell? ⟨R, 2, none⟩ = some (.slice none 0 0) := hZ.cell 2
            have z3 : w4.cell? ⟨R, 3, none⟩ = some (.string ⟨#[]⟩) := hZ.cell 3
            have z4 : w4.cell? ⟨R, 4, none⟩ = some (.bool false) := hZ.cell 4
            have z5 : w4.cell? ⟨R, 5, none⟩ = some (.int .i64 0) := hZ.cell 5
            have z6 : w4.cell? ⟨R, 6, none⟩ = some (.bool false) := hZ.cell 6
            have z7 : w4.cell? ⟨R, 7, none⟩ = some (.int .i64 0) := hZ.cell 7
            have z8 : w4.cell? ⟨R, 8, none⟩ = some (.int .i64 0) := hZ.cell 8
            have zf0 := hZ.frozen 0
            have zf1 := hZ.frozen 1
            have zf2 := hZ.frozen 2
            have zf3 := hZ.frozen 3
            have zf4 := hZ.frozen 4
            have zf5 := hZ.frozen 5
            have zf6 := hZ.frozen 6
            have zf7 := hZ.frozen 7
            have zf8 := hZ.frozen 8
            clear hT hZ
            have n0 : w4.cell? ⟨w3.heap.size, 0, none⟩ = some (.string n) := hhn.cell 0
            have n1 : w4.cell? ⟨w3.heap.size, 1, none⟩ = some (.string v) := hhn.cell 1
            have HN := Lib.hid hhn; clear hhn
            have HW4 := Lib.hid hw4; clear hw4
            go_upto_region 28 with (fail)
            rw [← HW4.out]
            clear HW4
            generalize w3.heap.size = hh at n0 n1 HN ⊢
            clear H3
            cases ok with
            | false =>
              have HTO : Hid (HeadsTold b.data.toList k s 0 280) := .inr (.inr ⟨by decide, by rw [H.out.tell, tell_fail (e := 280) (by rw [step1_head H.out.state HL.out h0 (by omega)]; exact headP_no (by rw [← HLD.out]; exact hf))]⟩)
              go_wp2_with fail
              refine bodyPost_ret (v := .agg #[.string s.m, .string s.p, .slice A s.hs.length ch, .string ⟨#[]⟩, .bool s.close, .int .i64 s.long, .bool s.chunks, .int .i64 0, .int .i64 280]) (by simp [results, Tryz.results62, go_sem, c0, c1, c2, c3, c4, c5, c6, c7, c8, z0, z1, z2, z3, z4, z5, z6, z7, z8]) rfl ?_
              have HRX := HRET.out

              refine HRX _ s A s.hs.length ch 0 280 HTO.out (fun h => absurd h (by decide)) ?_
              iterate 10 (refine Below.setCell ?_ (by first | exact HRL.out | exact Nat.le_succ_of_le HRL.out) _)
              exact H4.out.below
            | true =>
              have hf' : headLn l = some (n.data.toList, v.data.toList) := by rw [← HLD.out]; exact hf
              have HFL := Lib.hid hf'; clear hf hf'
              by_cases q1 : (n.toList == [99, 111, 110, 116, 101, 110, 116, 45, 108, 101, 110, 103, 116, 104]) = true
              · have hn1 : n.data.toList = cLen := by rw [toList_data] at q1; simpa [cLen] using q1
                have HN1 := Lib.hid hn1; clear hn1
                have CN : Hid (∀ W, Calls Tryz.prog 92 #[.string v] W fun en w' => en = .returned (.int .i64 (numP v.data.toList)) ∧ W = w') := fun W => rf_number v W (by have := HVZ.out rfl; omega)
                by_cases hlg : 0 ≤ s.long
                · have HTO : Hid (HeadsTold b.data.toList k s 0 280) := .inr (.inr ⟨by decide, by rw [H.out.tell, tell_fail (e := 280) (by rw [step1_head H.out.state HL.out h0 (by omega)]; exact headP_len_bad HFL.out HN1.out (.inl hlg))]⟩)
                  go_wp2_with fail
                  refine bodyPost_ret (v := .agg #[.string s.m, .string s.p, .slice A s.hs.length ch, .string ⟨#[]⟩, .bool s.close, .int .i64 s.long, .bool s.chunks, .int .i64 0, .int .i64 280]) (by simp [results, Tryz.results62, go_sem, c0, c1, c2, c3, c4, c5, c6, c7, c8, z0, z1, z2, z3, z4, z5, z6, z7, z8]) rfl ?_
                  have HRX := HRET.out

                  refine HRX _ s A s.hs.length ch 0 280 HTO.out (fun h => absurd h (by decide)) ?_
                  iterate 10 (refine Below.setCell ?_ (by first | exact HRL.out | exact Nat.le_succ_of_le HRL.out) _)
                  exact H4.out.below
                · by_cases hnum : numP v.data.toList < 0
                  · have HTO : Hid (HeadsTold b.data.toList k s 0 280) := .inr (.inr ⟨by decide, by rw [H.out.tell, tell_fail (e := 280) (by rw [step1_head H.out.state HL.out h0 (by omega)]; exact headP_len_bad HFL.out HN1.out (.inr hnum))]⟩)
                    go_wp2_with fail
                    refine (CN.out _).mono ?_
                    rintro en wq ⟨rfl, rfl⟩
                    go_wp2_with fail
                    refine bodyPost_ret (v := .agg #[.string s.m, .string s.p, .slice A s.hs.length ch, .string ⟨#[]⟩, .bool s.close, .int .i64 s.long, .bool s.chunks, .int .i64 0, .int .i64 280]) (by simp [results, Tryz.results62, go_sem, c0, c1, c2, c3, c4, c5, c6, c7, c8, z0, z1, z2, z3, z4, z5, z6, z7, z8]) rfl ?_
                    have HRX := HRET.out

                    refine HRX _ s A s.hs.length ch 0 280 HTO.out (fun h => absurd h (by decide)) ?_
                    iterate 10 (refine Below.setCell ?_ (by first | exact HRL.out | exact Nat.le_succ_of_le HRL.out) _)
                    exact H4.out.below
                  · go_wp2_with fail
                    refine (CN.out _).mono ?_
                    rintro en wq ⟨rfl, rfl⟩
                    go_wp2_with fail
                    refine (CN.out _).mono ?_
                    rintro en wq ⟨rfl, rfl⟩
                    have HP := Lib.hid (show headP s l r = .on { headT s l with long := numP v.data.toList } r from headP_len_ok HFL.out HN1.out (by omega) (by omega))
                    go_wp2_with fail
                    go_roundw
                    case rel =>
                      refine ⟨{ headT s l with long := numP v.data.toList }, .slice A s.hs.length ch, a + l.length + 2, by go_num, by simp [headT], by simp [headT]; omega, ?_⟩
                      rw [HR.out]
                      obtain ⟨t1, t2, t3, t4⟩ := H4.out.cells 5 (.int .i64 (numP v.data.toList))
                      exact TopAt.next H.out HL.out h0 hm HDR.out hat HP.out t1 t2 t3 t4
                    case measure => simp [intOf]; omega
              · have q1' : (n.toList == [99, 111, 110, 116, 101, 110, 116, 45, 108, 101, 110, 103, 116, 104]) = false := by simpa using q1
                have hn1 : ¬ n.data.toList = cLen := fun h => by rw [toList_data, h] at q1'; simp [cLen] at q1'
                have HN1 := Lib.hid hn1; clear hn1 q1
                have CS : Hid (∀ W, Calls Tryz.prog 93 #[.string v] W fun en w' => en = .returned (.string ⟨(smallB v.data.toList).toArray⟩) ∧ Below W.heap.size W w') := fun W => rf_Small v W (by have := HVZ.out rfl; omega)
                by_cases q2 : (n.toList == [116, 114, 97, 110, 115, 102, 101, 114, 45, 101, 110, 99, 111, 100, 105, 110, 103]) = true
                · have hn2 : n.data.toList = cEnc := by rw [toList_data] at q2; simpa [cEnc] using q2
                  have HN2 := Lib.hid hn2; clear hn2
                  obtain ⟨chk, hchk⟩ : ∃ c, s.chunks = c := ⟨_, rfl⟩
                  rw [hchk] at c6
                  have HCHK := Lib.hid hchk; clear hchk
                  cases chk with
                  | true =>
                    have HTO : Hid (HeadsTold b.data.toList k s 0 280) := .inr (.inr ⟨by decide, by rw [H.out.tell, tell_fail (e := 280) (by rw [step1_head H.out.state HL.out h0 (by omega)]; exact headP_enc_bad HFL.out HN1.out HN2.out (.inl HCHK.out))]⟩)
                    go_wp2_with fail
                    refine bodyPost_ret (v := .agg #[.string s.m, .string s.p, .slice A s.hs.length ch, .string ⟨#[]⟩, .bool s.close, .int .i64 s.long, .bool true, .int .i64 0, .int .i64 280]) (by simp [results, Tryz.results62, go_sem, c0, c1, c2, c3, c4, c5, c6, c7, c8, z0, z1, z2, z3, z4, z5, z6, z7, z8]) rfl ?_
                    have HRX := fun W => HRET.out W s A s.hs.length ch 0 280
                    unfold topCells at HRX; rw [HCHK.out] at HRX
                    refine HRX _ HTO.out (fun h => absurd h (by decide)) ?_
                    iterate 10 (refine Below.setCell ?_ (by first | exact HRL.out | exact Nat.le_succ_of_le HRL.out) _)
                    exact H4.out.below
                  | false =>
                    obtain ⟨sm, hsm⟩ : ∃ sm : ByteArray, (⟨(smallB v.data.toList).toArray⟩ : ByteArray) = sm := ⟨_, rfl⟩
                    rw [hsm] at CS
                    have hsd : smallB v.data.toList = sm.data.toList := by rw [← hsm]
                    have HSD := Lib.hid hsd; clear hsd hsm
                    go_wp2_with fail
                    refine (CS.out _).mono ?_
                    rintro en w5 ⟨rfl, hb5⟩
                    have H5 : Hid (TopAt w b k s (.slice A s.hs.length ch) a w5) := H4.out.on hb5
                    clear hb5
                    clear c0 c1 c2 c3 c4 c5 c6 c7 c8 z0 z1 z2 z3 z4 z5 z6 z7 z8 f2 f4 f5 f6 f7 f8 zf0 zf1 zf2 zf3 zf4 zf5 zf6 zf7 zf8 n0 n1
                    have hT : Blk w5 (R + 1) 107 (topCells s (.slice A s.hs.length ch) 0 0) := by rw [HR.out]; exact H5.out.top
                    have hZ : Blk w5 R 107 top0 := by rw [HR.out]; exact H5.out.res
                    have c0 : w5.cell? ⟨R + 1, 0, none⟩ = some (.string s.m) := hT.cell 0
                    have c1 : w5.cell? ⟨R + 1, 1, none⟩ = some (.string s.p) := hT.cell 1
                    have c2 : w5.cell? ⟨R + 1, 2, none⟩ = some (.slice A s.hs.length ch) := hT.cell 2
                    have c3 : w5.cell? ⟨R + 1, 3, none⟩ = some (.string ⟨#[]⟩) := hT.cell 3
                    have c4 : w5.cell? ⟨R + 1, 4, none⟩ = some (.bool s.close) := hT.cell 4
                    have c5 : w5.cell? ⟨R + 1, 5, none⟩ = some (.int .i64 s.long) := hT.cell 5
                    have c6 : w5.cell? ⟨R + 1, 6, none⟩ = some (.bool s.chunks) := hT.cell 6
                    have c7 : w5.cell? ⟨R + 1, 7, none⟩ = some (.int .i64 0) := hT.cell 7
                    have c8 : w5.cell? ⟨R + 1, 8, none⟩ = some (.int .i64 0) := hT.cell 8
                    have f2 := hT.frozen 2
                    have f4 := hT.frozen 4
                    have f5 := hT.frozen 5
                    have f6 := hT.frozen 6
                    have f7 := hT.frozen 7
                    have f8 := hT.frozen 8
                    have z0 : w5.cell? ⟨R, 0, none⟩ = some (.string ⟨#[]⟩) := hZ.cell 0
                    have z1 : w5.cell? ⟨R, 1, none⟩ = some (.string ⟨#[]⟩) := hZ.cell 1
                    have z2 : w5.cell? ⟨R, 2, none⟩ = some (.slice none 0 0) := hZ.cell 2
                    have z3 : w5.cell? ⟨R, 3, none⟩ = some (.string ⟨#[]⟩) := hZ.cell 3
                    have z4 : w5.cell? ⟨R, 4, none⟩ = some (.bool false) := hZ.cell 4
                    have z5 : w5.cell? ⟨R, 5, none⟩ = some (.int .i64 0) := hZ.cell 5
                    have z6 : w5.cell? ⟨R, 6, none⟩ = some (.bool false) := hZ.cell 6
                    have z7 : w5.cell? ⟨R, 7, none⟩ = some (.int .i64 0) := hZ.cell 7
                    have z8 : w5.cell? ⟨R, 8, none⟩ = some (.int .i64 0) := hZ.cell 8
                    have zf0 := hZ.frozen 0
                    have zf1 := hZ.frozen 1
                    have zf2 := hZ.frozen 2
                    have zf3 := hZ.frozen 3
                    have zf4 := hZ.frozen 4
                    have zf5 := hZ.frozen 5
                    have zf6 := hZ.frozen 6
                    have zf7 := hZ.frozen 7
                    have zf8 := hZ.frozen 8
                    clear hT hZ
                    rw [HCHK.out] at c6
                    by_cases q3 : (sm.toList == [99, 104, 117, 110, 107, 101, 100]) = true
                    · have HP := Lib.hid (show headP s l r = .on { headT s l with chunks := true } r from headP_enc_ok HFL.out HN1.out HN2.out HCHK.out (by rw [HSD.out, ← toList_data]; exact q3))
                      go_wp2_with fail
                      go_roundw
                      case rel =>
                        refine ⟨{ headT s l with chunks := true }, .slice A s.hs.length ch, a + l.length + 2, by go_num, by simp [headT], by simp [headT]; omega, ?_⟩
                        rw [HR.out]
                        obtain ⟨t1, t2, t3, t4⟩ := H5.out.cells 6 (.bool true)
                        exact TopAt.next H.out HL.out h0 hm HDR.out hat HP.out t1 t2 t3 t4
                      case measure => simp [intOf]; omega
                    · have q3' : (sm.toList == [99, 104, 117, 110, 107, 101, 100]) = false := by simpa using q3
                      clear q3
                      have HTO : Hid (HeadsTold b.data.toList k s 0 280) := .inr (.inr ⟨by decide, by rw [H.out.tell, tell_fail (e := 280) (by rw [step1_head H.out.state HL.out h0 (by omega)]; exact headP_enc_bad HFL.out HN1.out HN2.out (.inr (by rw [HSD.out, ← toList_data]; exact q3')))]⟩)
                      go_wp2_with fail
                      refine bodyPost_ret (v := .agg #[.string s.m, .string s.p, .slice A s.hs.length ch, .string ⟨#[]⟩, .bool s.close, .int .i64 s.long, .bool false, .int .i64 0, .int .i64 280]) (by simp [results, Tryz.results62, go_sem, c0, c1, c2, c3, c4, c5, c6, c7, c8, z0, z1, z2, z3, z4, z5, z6, z7, z8]) rfl ?_
                      have HRX := fun W => HRET.out W s A s.hs.length ch 0 280
                      unfold topCells at HRX; rw [HCHK.out] at HRX
                      refine HRX _ HTO.out (fun h => absurd h (by decide)) ?_
                      iterate 10 (refine Below.setCell ?_ (by first | exact HRL.out | exact Nat.le_succ_of_le HRL.out) _)
                      exact H5.out.below
                · have q2' : (n.toList == [116, 114, 97, 110, 115, 102, 101, 114, 45, 101, 110, 99, 111, 100, 105, 110, 103]) = false := by simpa using q2
                  have hn2 : ¬ n.data.toList = cEnc := fun h => by rw [toList_data, h] at q2'; simp [cEnc] at q2'
                  have HN2 := Lib.hid hn2; clear hn2 q2
                  by_cases q4 : (n.toList == [99, 111, 110, 110, 101, 99, 116, 105, 111, 110]) = true
                  · have hn3 : n.data.toList = cCon := by rw [toList_data] at q4; simpa [cCon] using q4
                    have HN3 := Lib.hid hn3; clear hn3
                    obtain ⟨cls, hcls⟩ : ∃ c, s.close = c := ⟨_, rfl⟩
                    rw [hcls] at c4
                    have HCLS := Lib.hid hcls; clear hcls
                    cases cls with
                    | true =>
                      have HP := Lib.hid (show headP s l r = .on { headT s l with close := true } r from by rw [headP_con HFL.out HN1.out HN2.out HN3.out, HCLS.out]; rfl)
                      go_wp2_with fail
                      go_roundw
                      case rel =>
                        refine ⟨{ headT s l with close := true }, .slice A s.hs.length ch, a + l.length + 2, by go_num, by simp [headT], by simp [headT]; omega, ?_⟩
                        rw [HR.out]
                        obtain ⟨t1, t2, t3, t4⟩ := H4.out.cells 4 (.bool true)
                        exact TopAt.next H.out HL.out h0 hm HDR.out hat HP.out t1 t2 t3 t4
                      case measure => simp [intOf]; omega
                    | false =>
                      obtain ⟨sm, hsm⟩ : ∃ sm : ByteArray, (⟨(smallB v.data.toList).toArray⟩ : ByteArray) = sm := ⟨_, rfl⟩
                      rw [hsm] at CS
                      have hsd : smallB v.data.toList = sm.data.toList := by rw [← hsm]
                      have HSD := Lib.hid hsd; clear hsd hsm
                      go_wp2_with fail
                      refine (CS.out _).mono ?_
                      rintro en w5 ⟨rfl, hb5⟩
                      have H5 : Hid (TopAt w b k s (.slice A s.hs.length ch) a w5) := H4.out.on hb5
                      clear hb5
                      clear c0 c1 c2 c3 c4 c5 c6 c7 c8 z0 z1 z2 z3 z4 z5 z6 z7 z8 f2 f4 f5 f6 f7 f8 zf0 zf1 zf2 zf3 zf4 zf5 zf6 zf7 zf8 n0 n1
                      have hT : Blk w5 (R + 1) 107 (topCells s (.slice A s.hs.length ch) 0 0) := by rw [HR.out]; exact H5.out.top
                      have hZ : Blk w5 R 107 top0 := by rw [HR.out]; exact H5.out.res
                      have c0 : w5.cell? ⟨R + 1, 0, none⟩ = some (.string s.m) := hT.cell 0
                      have c1 : w5.cell? ⟨R + 1, 1, none⟩ = some (.string s.p) := hT.cell 1
                      have c2 : w5.cell? ⟨R + 1, 2, none⟩ = some (.slice A s.hs.length ch) := hT.cell 2
                      have c3 : w5.cell? ⟨R + 1, 3, none⟩ = some (.string ⟨#[]⟩) := hT.cell 3
                      have c4 : w5.cell? ⟨R + 1, 4, none⟩ = some (.bool s.close) := hT.cell 4
                      have c5 : w5.cell? ⟨R + 1, 5, none⟩ = some (.int .i64 s.long) := hT.cell 5
                      have c6 : w5.cell? ⟨R + 1, 6, none⟩ = some (.bool s.chunks) := hT.cell 6
                      have c7 : w5.cell? ⟨R + 1, 7, none⟩ = some (.int .i64 0) := hT.cell 7
                      have c8 : w5.cell? ⟨R + 1, 8, none⟩ = some (.int .i64 0) := hT.cell 8
                      have f2 := hT.frozen 2
                      have f4 := hT.frozen 4
                      have f5 := hT.frozen 5
                      have f6 := hT.frozen 6
                      have f7 := hT.frozen 7
                      have f8 := hT.frozen 8
                      have z0 : w5.cell? ⟨R, 0, none⟩ = some (.string ⟨#[]⟩) := hZ.cell 0
                      have z1 : w5.cell? ⟨R, 1, none⟩ = some (.string ⟨#[]⟩) := hZ.cell 1
                      have z2 : w5.cell? ⟨R, 2, none⟩ = some (.slice none 0 0) := hZ.cell 2
                      have z3 : w5.cell? ⟨R, 3, none⟩ = some (.string ⟨#[]⟩) := hZ.cell 3
                      have z4 : w5.cell? ⟨R, 4, none⟩ = some (.bool false) := hZ.cell 4
                      have z5 : w5.cell? ⟨R, 5, none⟩ = some (.int .i64 0) := hZ.cell 5
                      have z6 : w5.cell? ⟨R, 6, none⟩ = some (.bool false) := hZ.cell 6
                      have z7 : w5.cell? ⟨R, 7, none⟩ = some (.int .i64 0) := hZ.cell 7
                      have z8 : w5.cell? ⟨R, 8, none⟩ = some (.int .i64 0) := hZ.cell 8
                      have zf0 := hZ.frozen 0
                      have zf1 := hZ.frozen 1
                      have zf2 := hZ.frozen 2
                      have zf3 := hZ.frozen 3
                      have zf4 := hZ.frozen 4
                      have zf5 := hZ.frozen 5
                      have zf6 := hZ.frozen 6
                      have zf7 := hZ.frozen 7
                      have zf8 := hZ.frozen 8
                      clear hT hZ
                      rw [HCLS.out] at c4
                      obtain ⟨q5, hq5⟩ : ∃ q5, (sm.toList == [99, 108, 111, 115, 101]) = q5 := ⟨_, rfl⟩
                      have hsx : (smallB v.data.toList == cClose) = q5 := by rw [HSD.out, ← toList_data, ← hq5]; rfl
                      have HSX := Lib.hid hsx; clear hsx
                      cases q5 with
                      | true =>
                        have HP := Lib.hid (show headP s l r = .on { headT s l with close := true } r from by rw [headP_con HFL.out HN1.out HN2.out HN3.out, HCLS.out, HSX.out]; rfl)
                        go_wp2_with fail
                        go_roundw
                        case rel =>
                          refine ⟨{ headT s l with close := true }, .slice A s.hs.length ch, a + l.length + 2, by go_num, by simp [headT], by simp [headT]; omega, ?_⟩
                          rw [HR.out]
                          obtain ⟨t1, t2, t3, t4⟩ := H5.out.cells 4 (.bool true)
                          exact TopAt.next H.out HL.out h0 hm HDR.out hat HP.out t1 t2 t3 t4
                        case measure => simp [intOf]; omega
                      | false =>
                        have HP := Lib.hid (show headP s l r = .on { headT s l with close := false } r from by rw [headP_con HFL.out HN1.out HN2.out HN3.out, HCLS.out, HSX.out]; rfl)
                        go_wp2_with fail
                        go_roundw
                        case rel =>
                          refine ⟨{ headT s l with close := false }, .slice A s.hs.length ch, a + l.length + 2, by go_num, by simp [headT], by simp [headT]; omega, ?_⟩
                          rw [HR.out]
                          obtain ⟨t1, t2, t3, t4⟩ := H5.out.cells 4 (.bool false)
                          exact TopAt.next H.out HL.out h0 hm HDR.out hat HP.out t1 t2 t3 t4
                        case measure => simp [intOf]; omega
                  · have q4' : (n.toList == [99, 111, 110, 110, 101, 99, 116, 105, 111, 110]) = false := by simpa using q4
                    have hn3 : ¬ n.data.toList = cCon := fun h => by rw [toList_data, h] at q4'; simp [cCon] at q4'
                    have HN3 := Lib.hid hn3; clear hn3 q4
                    obtain ⟨i0, hi, hz0, hz1, hz2⟩ := info_parts info_head
                    have HO4 : Hid (w4.ownsRow w.heap.size 88 2 (.slice A s.hs.length ch) s.hs.length (headCells s.hs)) := H4.out.own
                    have HHL : Hid (s.hs.length ≤ 32) := Lib.hid (Nat.le_trans H4.out.wf.heads hm32)
                    have hR4 : w.heap.size ≤ w4.heap.size + 1 := Nat.le_succ_of_le H4.out.below.size
                    have HX : Hid (∀ v' w', w'.ownsRow w.heap.size 88 2 v' (s.hs.length + 1) (headCells s.hs ++ [.string n, .string v]) → (w4.alloc (Obj.cells #[.string n, .string v] 88)).grownBy w' (Value.slice A s.hs.length ch).ownBlock →
                        w'.cell? ⟨R + 1, 2, none⟩ = some (.slice A s.hs.length ch) ∧ w'.frozen? ⟨R + 1, 2, none⟩ = false ∧ Hid (HeadsRel w b k (.int .i64 ((a : Int) + l.length + 2)) (.int .i64 ((s.many : Int) + 1)) (.int .i64 ((s.left : Int) - l.length)) (w'.setCell ⟨R + 1, 2, none⟩ v'))) := fun v' w' ho hg => by
                      have hal4 : Below w4.heap.size w4 (w4.alloc (Obj.cells #[.string n, .string v] 88)) := bl_alloc (Below.refl _ _) _
                      have H6 := H4.out.on hal4
                      have k1 : Blk w' (w.heap.size + 1) 107 (topCells s (.slice A s.hs.length ch) 0 0) := (hg.block _ H6.top.lt (own_blk H6.own H6.top (by decide)).symm).trans H6.top
                      have k2 : Blk w' w.heap.size 107 top0 := (hg.block _ H6.res.lt (own_blk H6.own H6.res (by decide)).symm).trans H6.res
                      have kb : Below w.heap.size w w' := H6.below.grown hg H6.below.size (fun g hbk => (H6.own.lt g hbk).1)
                      have hnv : (⟨⟨n.data.toList.toArray⟩, ⟨v.data.toList.toArray⟩⟩ : Hd) = ⟨n, v⟩ := rfl
                      have e1 : (s.hs ++ [(⟨n, v⟩ : Hd)]).length = s.hs.length + 1 := by simp
                      rw [HR.out]
                      refine ⟨k1.cell 2, k1.frozen 2, { headT s l with hs := s.hs ++ [⟨n, v⟩] }, v', a + l.length + 2, by simp, by simp [headT], by simp [headT]; omega, ?_⟩
                      refine TopAt.next H.out HL.out h0 hm HDR.out hat (by rw [headP_else HFL.out HN1.out HN2.out HN3.out]) (k1.set_ 2 v') ((Below.heap_setCell _ _ _ _ (by simp)).trans k2) ?_ (kb.setCell (Nat.le_succ _) _)
                      show (w'.setCell ⟨w.heap.size + 1, 2, none⟩ v').ownsRow w.heap.size 88 2 v' (s.hs ++ [(⟨n, v⟩ : Hd)]).length (headCells (s.hs ++ [(⟨n, v⟩ : Hd)]))
                      rw [e1, headCells_append]
                      refine own_keep ho fun g hgg => Below.heap_setCell _ _ _ _ ?_
                      intro e
                      exact own_blk ho k1 (by decide) (by rw [hgg]; exact congrArg some e)
                    go_wp2_with (at_builtin; refine wpList_append_any _ rfl (.tmp 112) (.tmp 114) 31 rfl w.heap.size 88 i0 _ 2 32 Tryz.underlying31 hi hz0 hz1 hz2 rfl (by decide) (.slice A s.hs.length ch) s.hs.length (headCells s.hs) rfl (HO4.out.alloc _) _ (some ⟨w4.heap.size, 0, none⟩) 1 1 [.string n, .string v] rfl (reads_new _ _ _ _) (two_cells _ _) (by have := HHL.out; simp only [maxLen]; omega) (by have := HHL.out; omega) (by simpa using hR4) ?_)
                    intro v' w' hown hgrow hat2
                    obtain ⟨A5, c5', rfl⟩ := own_slice hown
                    obtain ⟨d2, fd2, HREL⟩ := HX.out _ w' hown hgrow
                    clear hown hgrow hat2 c0 c1 c2 c3 c4 c5 c6 c7 c8 z0 z1 z2 z3 z4 z5 z6 z7 z8 f2 f4 f5 f6 f7 f8 zf0 zf1 zf2 zf3 zf4 zf5 zf6 zf7 zf8 n0 n1
                    go_wp2_with fail
                    go_roundw
                    case rel => exact HREL.out
                    case measure => simp [intOf]; omega
end Go.Proofs.YtnicmdlicbnlgaaGreatDoor
