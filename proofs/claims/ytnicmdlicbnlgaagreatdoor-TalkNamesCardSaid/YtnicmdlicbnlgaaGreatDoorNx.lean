/-
  Walks: a reader's next request.
-/
import Derived.Test.YtnicmdlicbnlgaaGreatDoorH3
import Derived.Test.YtnicmdlicbnlgaaGreatDoorCh
import Derived.Test.YtnicmdlicbnlgaaGreatDoorRe
import Derived.Test.YtnicmdlicbnlgaaGreatDoorWh
import Derived.WalkMore
namespace Go.Proofs.YtnicmdlicbnlgaaGreatDoor
open Go.RowKit
set_option linter.unusedVariables false
set_option linter.unusedSimpArgs false

theorem step2 (s : RS) (b : List UInt8) (h : s.state = 2) : stepP s b = (if b.length < s.long.toNat then .wait else .whole { s with body := s.body ++ b.take s.long.toNat }.rq (b.drop s.long.toNat)) := by
  rcases s with ⟨st, m, p, hs, cl, many, left, long, chunks, body⟩
  simp only at h
  subst h
  rfl
theorem step4 (s : RS) (b : List UInt8) (h : s.state = 4) : stepP s b = (if b.length < s.long.toNat then .wait else .on { s with state := 5, body := s.body ++ b.take s.long.toNat } (b.drop s.long.toNat)) := by
  rcases s with ⟨st, m, p, hs, cl, many, left, long, chunks, body⟩
  simp only at h
  subst h
  rfl
theorem step5 (s : RS) (b : List UInt8) (h : s.state = 5) : stepP s b = (match endAt b with | .wait => .wait | .bad => .fail 280 | .got _ r => .on { s with state := 3 } r) := by
  rcases s with ⟨st, m, p, hs, cl, many, left, long, chunks, body⟩
  simp only at h
  subst h
  rfl
theorem step6 (s : RS) (b : List UInt8) (h : s.state = 6) : stepP s b = (match endAt b with | .wait => .wait | .bad => .fail 280 | .got _ r => .whole s.rq r) := by
  rcases s with ⟨st, m, p, hs, cl, many, left, long, chunks, body⟩
  simp only at h
  subst h
  rfl
def zeroReq : Value := .agg #[.string ⟨#[]⟩, .string ⟨#[]⟩, .slice none 0 0, .string ⟨#[]⟩, .bool false]
def zeroCells5 : Array Value := #[.string ⟨#[]⟩, .string ⟨#[]⟩, .slice none 0 0, .string ⟨#[]⟩, .bool false]
def rqVal (q : Rq) (hv : Value) : Value := .agg #[.string q.m, .string q.p, hv, .string q.body, .bool q.close]
/-- What 'Next' leaves. -/
def NextPost (N : Nat) (K : Nat → Prop) (w : World) (R : Nat) (fed : Bool) (b : List UInt8) (used taken : Int) (o : Res) (en : Ending) (w' : World) : Prop :=
  Turned N K w w' ∧
    (match o with
    | .wait s' b' => en = .returned (.tuple #[zeroReq, .bool false, .int .i64 0]) ∧ s'.wf ∧ ∃ (bv' hv' yv' : Value) (t' : Int), RdAt N K w' R fed s' b' bv' hv' yv' 0 used t' ∧ 0 ≤ t' ∧ t' + b'.length = taken + b.length
    | .refuse e => en = .returned (.tuple #[zeroReq, .bool false, .int .i64 e]) ∧ ∃ (s' : RS) (b' : List UInt8) (bv' hv' yv' : Value) (t' : Int), RdAt N K w' R fed s' b' bv' hv' yv' e used t' ∧ 0 ≤ t' ∧ t' + b'.length = taken + b.length
    | .done q r => ∃ (bv' hv' : Value), en = .returned (.tuple #[rqVal q hv', .bool true, .int .i64 0]) ∧ RdAt N K w' R fed RS.init r bv' (.slice none 0 0) (.slice none 0 0) 0 (used + (taken + b.length - r.length)) 0 ∧
        w'.ownsRow 0 88 2 hv' q.hs.length (headCells q.hs) ∧ (∀ g, hv'.ownBlock = some g → (K g ∨ N ≤ g) ∧ ¬ foot R bv' (.slice none 0 0) (.slice none 0 0) g))
def stCell : Option Value → Nat
  | some (.int _ n) => if n = 4 then 1 else 0
  | _ => 0
def lenCell : Option Value → Nat
  | some (.slice _ n _) => n
  | _ => 0
def rdWeight (R : Nat) (w : World) : Nat := 2 * lenCell (w.cell? ⟨R, 1, none⟩) + stCell (w.cell? ⟨R, 2, none⟩)
theorem RdAt.weight {N : Nat} {K : Nat → Prop} {w : World} {R : Nat} {fed : Bool} {s : RS} {b : List UInt8} {bv hv yv : Value} {wrong used taken : Int} (h : RdAt N K w R fed s b bv hv yv wrong used taken) : rdWeight R w = s.weight b := by
  obtain ⟨A, cap, hbv, _⟩ := h.bytes
  subst hbv
  have c1 : w.cell? ⟨R, 1, none⟩ = some (.slice A b.length cap) := h.blk.cell 1
  have c2 : w.cell? ⟨R, 2, none⟩ = some (.int .i64 (s.state : Int)) := h.blk.cell 2
  unfold rdWeight RS.weight
  rw [c1, c2]
  simp only [lenCell, stCell]
  by_cases h4 : s.state = 4
  · rw [if_pos h4, if_pos (by omega)]
  · rw [if_neg h4, if_neg (by omega)]
/-- Between two rounds. -/
def NextRel (N' : Nat) (K' : Nat → Prop) (w1 : World) (R : Nat) (fed : Bool) (s : RS) (b : List UInt8) (used taken : Int) (wr : World) : Prop :=
  ∃ (s' : RS) (b' : List UInt8) (bv' hv' yv' : Value) (t' : Int), RdAt N' K' wr R fed s' b' bv' hv' yv' 0 used t' ∧ Turned N' K' w1 wr ∧ tellP s b = tellP s' b' ∧ s'.wf ∧ 0 ≤ t' ∧ t' + b'.length = taken + b.length
theorem step_rel {N' : Nat} {K' : Nat → Prop} {w1 wr wr' : World} {R : Nat} {fed : Bool} {s s' s2 : RS} {b b' b2 : List UInt8} {used taken t' t2 : Int} {bv2 hv2 yv2 : Value} (ht : Turned N' K' w1 wr) (htl : tellP s b = tellP s' b') (hwf : s'.wf) (hsum : t' + b'.length = taken + b.length)
    (hs : stepP s' b' = .on s2 b2) (h2 : RdAt N' K' wr' R fed s2 b2 bv2 hv2 yv2 0 used t2) (ht2 : Turned N' K' wr wr') (h0 : 0 ≤ t2) (hs2 : t2 + b2.length = t' + b'.length) : NextRel N' K' w1 R fed s b used taken wr' :=
  ⟨s2, b2, bv2, hv2, yv2, t2, h2, ht.trans ht2, by rw [htl, tell_on hs], step_wf hwf hs, h0, by omega⟩

set_option maxRecDepth 100000 in
set_option maxHeartbeats 16000000 in
theorem rk_next (N : Nat) (K : Nat → Prop) (R : Nat) (fed : Bool) (s : RS) (b : List UInt8) (bv hv yv : Value) (used taken : Int) (w : World) (h : RdAt N K w R fed s b bv hv yv 0 used taken) (B : Nat) (he : EnvAt B w) (hBN : B ≤ N) (hBK : ∀ k, K k → B ≤ k)
    (h0 : 0 ≤ taken) (hu : 0 ≤ used) (hT : used + taken + b.length ≤ 1000000000) (hwf : s.wf) :
    Calls Tryz.prog 16 #[.pointer (some ⟨R, 0, none⟩)] w (NextPost N K w R fed b used taken (tellP s b)) := by
  obtain ⟨w1, hw1⟩ : ∃ w1, w1 = w.alloc (Obj.cells zeroCells5 33) := ⟨_, rfl⟩
  have hN1 : w1.heap.size = w.heap.size + 1 := by rw [hw1]; simp
  have hbw : Below w.heap.size w w1 := by rw [hw1]; exact bl_alloc (Below.refl _ _) _
  have hRlt : R < w.heap.size := h.blk.lt
  obtain ⟨K', hK'⟩ : ∃ K' : Nat → Prop, K' = foot R bv hv yv := ⟨_, rfl⟩
  have hKlt : ∀ k, K' k → k < w.heap.size := fun k hk => h.lt (by rw [← hK']; exact hk)
  have hR1 : RdAt w1.heap.size K' w1 R fed s b bv hv yv 0 used taken := by rw [hK']; exact (h.below hbw).rebase
  have hback : ∀ k, (K' k ∨ w1.heap.size ≤ k) → K k ∨ N ≤ k := fun k hk => by
    rcases hk with hk | hk
    · exact h.mine k (by rw [← hK']; exact hk)
    · exact .inr (by have := h.low; omega)
  have hTback : ∀ wr, Turned w1.heap.size K' w1 wr → Turned N K w wr := fun wr ht =>
    (Turned.of_below hbw h.low).trans (ht.more (by have := h.low; omega) fun k hk hk' => by
      rcases hback k (.inl hk') with h1 | h1
      · exact h1
      · omega)
  have hZ : Blk w1 w.heap.size 33 zeroCells5 := by rw [hw1]; exact heap_alloc_new w _
  have hZr : ∀ wr, Turned w1.heap.size K' w1 wr → Blk wr w.heap.size 33 zeroCells5 := fun wr ht =>
    (ht.block w.heap.size (by omega) (fun hk => by have := hKlt _ hk; omega)).trans hZ
  have hnZ : ∀ k, (K' k ∨ w1.heap.size ≤ k) → k ≠ w.heap.size := fun k hk => by
    rcases hk with hk | hk
    · have := hKlt k hk; omega
    · omega
  have hE1 : EnvAt B w1 := he.below hbw he.le
  have hBN' : B ≤ w1.heap.size := by have := he.le; omega
  have hBK' : ∀ k, K' k → B ≤ k := fun k hk => by
    rcases hback k (.inl hk) with h1 | h1
    · exact hBK k h1
    · omega
  have hEr : ∀ wr, Turned w1.heap.size K' w1 wr → EnvAt B wr := fun wr ht => hE1.turned ht hBN' hBK'
  have hlow := h.low
  obtain ⟨N', hN'⟩ : ∃ N', N' = w1.heap.size := ⟨_, rfl⟩
  rw [← hN'] at hR1 hback hTback hZr hnZ hBN' hEr
  have hstart : NextRel N' K' w1 R fed s b used taken w1 := ⟨s, b, bv, hv, yv, taken, hR1, Turned.refl _ _ _, rfl, hwf, h0, rfl⟩
  have c0 : w.cell? ⟨R, 0, none⟩ = some (.bool true) := h.blk.cell 0
  have hNZ : w.heap.size < N' := by omega
  have hRZ : R ≠ w.heap.size := by omega
  have pW : ∀ (wr W : World) (s' : RS) (b' : List UInt8) (bv' hv' yv' : Value) (wrong t' : Int), RdAt N' K' wr R fed s' b' bv' hv' yv' wrong used t' → Turned N' K' w1 wr → Turned wr.heap.size (fun k => k = w.heap.size) wr W →
      ((tellP s b = .wait s' b' ∧ wrong = 0 ∧ s'.wf) ∨ tellP s b = .refuse wrong) → 0 ≤ t' → t' + b'.length = taken + b.length → NextPost N K w R fed b used taken (tellP s b) (.returned (.tuple #[zeroReq, .bool false, .int .i64 wrong])) W := by
    intro wr W s' b' bv' hv' yv' wrong t' hR ht hW hor h1 h2
    have hR2 : RdAt N' K' W R fed s' b' bv' hv' yv' wrong used t' := hR.turned hW (Nat.le_refl _) fun k hk => hnZ k (hR.mine k hk)
    have hR3 : RdAt N K W R fed s' b' bv' hv' yv' wrong used t' := ⟨hR2.blk, hR2.bytes, hR2.heads, hR2.body, hR2.apart, fun k hk => hback k (hR2.mine k hk), by have := hW.size; have := ht.size; omega⟩
    have hT3 : Turned N K w W := (hTback wr ht).trans (hW.more (by have := ht.size; omega) fun k hk hk' => by subst hk'; omega)
    refine ⟨hT3, ?_⟩
    rcases hor with ⟨e1, e2, e3⟩ | e1
    · rw [e1]; subst e2; exact ⟨rfl, e3, bv', hv', yv', t', hR3, h1, h2⟩
    · rw [e1]; exact ⟨rfl, s', b', bv', hv', yv', t', hR3, h1, h2⟩
  have pD : ∀ (wr w2 W : World) (s' : RS) (b' : List UInt8) (bv' hv' yv' : Value) (t' : Int), RdAt N' K' wr R fed s' b' bv' hv' yv' 0 used t' → Turned N' K' w1 wr → Turned wr.heap.size (fun k => k = R) wr w2 → Blk w2 R 50 (rdCells RS.init bv' (.slice none 0 0) (.slice none 0 0) 0 (used + t') 0) →
      Turned w2.heap.size (fun k => k = w.heap.size) w2 W → tellP s b = .done s'.rq b' → 0 ≤ t' → t' + b'.length = taken + b.length → NextPost N K w R fed b used taken (tellP s b) (.returned (.tuple #[.agg #[.string s'.m, .string s'.p, hv', .string ⟨s'.body.toArray⟩, .bool s'.close], .bool true, .int .i64 0])) W := by
    intro wr w2 W s' b' bv' hv' yv' t' hR ht h2 hB2 hW htl h1 hsum
    have kk : ∀ k, foot R bv' hv' yv' k → k ≠ R → W.heap[k]? = wr.heap[k]? := fun k hk hne =>
      (hW.block k (Nat.lt_of_lt_of_le (hR.lt hk) h2.size) (hnZ k (hR.mine k hk))).trans (h2.block k (hR.lt hk) hne)
    have hBW : Blk W R 50 (rdCells RS.init bv' (.slice none 0 0) (.slice none 0 0) 0 (used + t') 0) := (hW.block R hB2.lt hRZ).trans hB2
    have hRd : RdAt N K W R fed RS.init b' bv' (.slice none 0 0) (.slice none 0 0) 0 (used + t') 0 := by
      refine ⟨hBW, hR.bytes.keep fun g hg => kk g (.inr (.inl hg)) (fun e => hR.ne_b (e ▸ hg)), World.ownsRow_nil _ _ _ _, World.ownsRow_nil _ _ _ _, fun g hg => by simp [Value.ownBlock], ?_, by have := hW.size; have := h2.size; have := ht.size; omega⟩
      rintro k (hk | hk | hk | hk)
      · exact hback k (hR.mine k (.inl hk))
      · exact hback k (hR.mine k (.inr (.inl hk)))
      · simp [Value.ownBlock] at hk
      · simp [Value.ownBlock] at hk
    have hT3 : Turned N K w W := ((hTback wr ht).trans (h2.more (by have := ht.size; omega) fun k hk hk' => by
        subst hk'
        rcases hback k (hR.mine k (.inl rfl)) with h3 | h3
        · exact h3
        · omega)).trans (hW.more (by have := ht.size; have := h2.size; omega) fun k hk hk' => by subst hk'; omega)
    refine ⟨hT3, ?_⟩
    rw [htl]
    refine ⟨bv', hv', rfl, ?_, own_keep hR.heads fun g hg => kk g (.inr (.inr (.inl hg))) (fun e => hR.ne_h (e ▸ hg)), fun g hg => ⟨hback g (hR.mine g (.inr (.inr (.inl hg)))), ?_⟩⟩
    · have : used + (taken + (b.length : Int) - (b'.length : Int)) = used + t' := by omega
      rw [this]; exact hRd
    · rintro (hk | hk | hk | hk)
      · exact hR.ne_h (hk ▸ hg)
      · exact hR.bytes.own hR.heads (by decide) hk hg
      · simp [Value.ownBlock] at hk
      · simp [Value.ownBlock] at hk
  have PW := Lib.hid pW; clear pW
  have PD := Lib.hid pD; clear pD
  generalize hQ : NextPost N K w R fed b used taken (tellP s b) = Q at PW PD ⊢
  clear hQ
  have HZr := Lib.hid hZr; clear hZr
  have HEr := Lib.hid hEr; clear hEr
  have HBK' := Lib.hid hBK'; clear hBK'
  have HSt := Lib.hid hstart; clear hstart
  have HT := Lib.hid hT; clear hT
  have HBW := Lib.hid hbw
  clear hback hTback hnZ hE1 hKlt hR1 hN1 hbw hBK he h hZ hK' hlow hwf
  unfold zeroCells5 at hw1
  have HW1 := Lib.hid hw1
  have CC0 : Hid (w1.cell? ⟨R, 0, none⟩ = some (.bool true)) := Lib.hid ((HBW.out.cell (p := ⟨R, 0, none⟩) hRlt).trans c0)
  go_enter Tryz.func16, Tryz.ntmps16
  go_wp2_with fail
  rw [← HW1.out]
  clear hw1 hN'
  have d0 : w1.cell? ⟨R, 0, none⟩ = some (.bool true) := CC0.out
  go_step3
  go_wp2_with fail
  go_step3
  go_wp2_with fail
  go_loopw [5] (fun on wr => NextRel N' K' w1 R fed s b used taken wr) (fun on wr => rdWeight R wr)
  case atStart => exact HSt.out
  case round =>
    obtain ⟨s', b', bv', hv', yv', t', hR, ht, htl, hwf, h1, hsum⟩ := hrel
    have hZb := HZr.out _ ht
    have hE := Lib.hid (HEr.out _ ht)
    have k2 : wr.cell? ⟨R, 2, none⟩ = some (.int .i64 (s'.state : Int)) := hR.blk.cell 2
    rcases (show s'.state = 0 ∨ s'.state = 1 ∨ s'.state = 2 ∨ s'.state = 3 ∨ s'.state = 4 ∨ s'.state = 5 ∨ s'.state = 6 by have := hwf.state; omega) with hst | hst | hst | hst | hst | hst | hst
    · have k2' : wr.cell? ⟨R, 2, none⟩ = some (.int .i64 0) := by rw [hst] at k2; exact k2
      clear k2
      have k13 : wr.cell? ⟨R, 13, none⟩ = some (.int .i64 0) := hR.blk.cell 13
      have HC := Lib.hid (rk_first N' K' R fed s' b' bv' hv' yv' used t' wr hR B hE.out hBN' HBK'.out h1 (by have := HT.out; omega) hst)
      have HTL := Lib.hid htl; clear htl
      have HWF := Lib.hid hwf; clear hwf
      have HR := Lib.hid hR; clear hR
      have HTu := Lib.hid ht; clear ht
      clear hst hZb
      go_wp2_with fail
      refine HC.out.mono ?_
      rintro en w2 ⟨s2, b2, bv2, hv2, yv2, wr2, t2, hR2, ht2, h2, hs2, hcase⟩
      cases hstep : stepP s' b' with
      | wait =>
        rw [hstep] at hcase
        obtain ⟨rfl, rfl, rfl, rfl⟩ := hcase
        have k13' : w2.cell? ⟨R, 13, none⟩ = some (.int .i64 0) := hR2.blk.cell 13
        have HF : Hid (∀ W, Turned w2.heap.size (fun k => k = w.heap.size) w2 W → Q (.returned (.tuple #[zeroReq, .bool false, .int .i64 0])) W) := fun W hW =>
          PW.out w2 W _ _ _ _ _ 0 t2 hR2 (HTu.out.trans ht2) hW (.inl ⟨by rw [HTL.out, tell_wait hstep], rfl, HWF.out⟩) h2 (by omega)
        have HT2 := Lib.hid (HTu.out.trans ht2)
        clear hR2 ht2 h2 hs2 hstep
        have zb := HZr.out w2 HT2.out
        have z0 : w2.cell? ⟨w.heap.size, 0, none⟩ = some (.string ⟨#[]⟩) := zb.cell 0
        have z1 : w2.cell? ⟨w.heap.size, 1, none⟩ = some (.string ⟨#[]⟩) := zb.cell 1
        have z2 : w2.cell? ⟨w.heap.size, 2, none⟩ = some (.slice none 0 0) := zb.cell 2
        have z3 : w2.cell? ⟨w.heap.size, 3, none⟩ = some (.string ⟨#[]⟩) := zb.cell 3
        have z4 : w2.cell? ⟨w.heap.size, 4, none⟩ = some (.bool false) := zb.cell 4
        have zf0 := zb.frozen 0
        have zf1 := zb.frozen 1
        have zf2 := zb.frozen 2
        have zf3 := zb.frozen 3
        have zf4 := zb.frozen 4
        clear zb
        go_wp2_with fail
        go_region
        all_goals go_wp2_with fail
        all_goals
          refine bodyPost_ret (v := .tuple #[.agg #[.string ⟨#[]⟩, .string ⟨#[]⟩, .slice none 0 0, .string ⟨#[]⟩, .bool false], .bool false, .int .i64 0]) (by simp [results, Tryz.results16, go_sem, z0, z1, z2, z3, z4]) rfl ?_
          exact HF.out _ (by first | (refine Turned.drew ?_; (iterate 5 refine Turned.setR0 ?_ _ _); exact Turned.refl _ _ _) | ((iterate 5 refine Turned.setR0 ?_ _ _); exact Turned.drew (Turned.refl _ _ _)) | ((iterate 5 refine Turned.setR0 ?_ _ _); exact Turned.refl _ _ _))
      | fail e =>
        rw [hstep] at hcase
        obtain ⟨rfl, rfl⟩ := hcase
        have k13' : w2.cell? ⟨R, 13, none⟩ = some (.int .i64 wr2) := hR2.blk.cell 13
        have HF : Hid (∀ W, Turned w2.heap.size (fun k => k = w.heap.size) w2 W → Q (.returned (.tuple #[zeroReq, .bool false, .int .i64 wr2])) W) := fun W hW =>
          PW.out w2 W _ _ _ _ _ wr2 t2 hR2 (HTu.out.trans ht2) hW (.inr (by rw [HTL.out, tell_fail hstep])) h2 (by omega)
        have HT2 := Lib.hid (HTu.out.trans ht2)
        clear hR2 ht2 h2 hs2 hstep
        have zb := HZr.out w2 HT2.out
        have z0 : w2.cell? ⟨w.heap.size, 0, none⟩ = some (.string ⟨#[]⟩) := zb.cell 0
        have z1 : w2.cell? ⟨w.heap.size, 1, none⟩ = some (.string ⟨#[]⟩) := zb.cell 1
        have z2 : w2.cell? ⟨w.heap.size, 2, none⟩ = some (.slice none 0 0) := zb.cell 2
        have z3 : w2.cell? ⟨w.heap.size, 3, none⟩ = some (.string ⟨#[]⟩) := zb.cell 3
        have z4 : w2.cell? ⟨w.heap.size, 4, none⟩ = some (.bool false) := zb.cell 4
        have zf0 := zb.frozen 0
        have zf1 := zb.frozen 1
        have zf2 := zb.frozen 2
        have zf3 := zb.frozen 3
        have zf4 := zb.frozen 4
        clear zb
        go_wp2_with fail
        go_region
        all_goals go_wp2_with fail
        all_goals
          refine bodyPost_ret (v := .tuple #[.agg #[.string ⟨#[]⟩, .string ⟨#[]⟩, .slice none 0 0, .string ⟨#[]⟩, .bool false], .bool false, .int .i64 wr2]) (by simp [results, Tryz.results16, go_sem, z0, z1, z2, z3, z4]) rfl ?_
          exact HF.out _ (by first | (refine Turned.drew ?_; (iterate 5 refine Turned.setR0 ?_ _ _); exact Turned.refl _ _ _) | ((iterate 5 refine Turned.setR0 ?_ _ _); exact Turned.drew (Turned.refl _ _ _)) | ((iterate 5 refine Turned.setR0 ?_ _ _); exact Turned.refl _ _ _))
      | on s3 r3 =>
        rw [hstep] at hcase
        obtain ⟨rfl, rfl, rfl, rfl⟩ := hcase
        have HN : Hid (NextRel N' K' w1 R fed s b used taken w2) := step_rel HTu.out HTL.out HWF.out hsum hstep hR2 ht2 h2 hs2
        have HM : Hid (rdWeight R w2 < rdWeight R wr) := by
          show rdWeight R w2 < rdWeight R wr
          rw [hR2.weight, HR.out.weight]
          exact step_lt hstep
        clear hR2 ht2 h2 hs2 hstep
        go_wp2_with fail
        go_roundw
        case rel => exact HN.out
        case measure => exact HM.out
      | whole q3 r3 =>
        rw [hstep] at hcase
        exact hcase.elim
    · have k2' : wr.cell? ⟨R, 2, none⟩ = some (.int .i64 1) := by rw [hst] at k2; exact k2
      clear k2
      have k13 : wr.cell? ⟨R, 13, none⟩ = some (.int .i64 0) := hR.blk.cell 13
      have HC := Lib.hid (rk_head N' K' R fed s' b' bv' hv' yv' used t' wr hR B hE.out hBN' HBK'.out h1 (by have := HT.out; omega) hwf hst)
      have HTL := Lib.hid htl; clear htl
      have HWF := Lib.hid hwf; clear hwf
      have HR := Lib.hid hR; clear hR
      have HTu := Lib.hid ht; clear ht
      clear hst hZb
      go_wp2_with fail
      refine HC.out.mono ?_
      rintro en w2 ⟨s2, b2, bv2, hv2, yv2, wr2, t2, hR2, ht2, h2, hs2, hcase⟩
      cases hstep : stepP s' b' with
      | wait =>
        rw [hstep] at hcase
        obtain ⟨rfl, rfl, rfl, rfl⟩ := hcase
        have k13' : w2.cell? ⟨R, 13, none⟩ = some (.int .i64 0) := hR2.blk.cell 13
        have HF : Hid (∀ W, Turned w2.heap.size (fun k => k = w.heap.size) w2 W → Q (.returned (.tuple #[zeroReq, .bool false, .int .i64 0])) W) := fun W hW =>
          PW.out w2 W _ _ _ _ _ 0 t2 hR2 (HTu.out.trans ht2) hW (.inl ⟨by rw [HTL.out, tell_wait hstep], rfl, HWF.out⟩) h2 (by omega)
        have HT2 := Lib.hid (HTu.out.trans ht2)
        clear hR2 ht2 h2 hs2 hstep
        have zb := HZr.out w2 HT2.out
        have z0 : w2.cell? ⟨w.heap.size, 0, none⟩ = some (.string ⟨#[]⟩) := zb.cell 0
        have z1 : w2.cell? ⟨w.heap.size, 1, none⟩ = some (.string ⟨#[]⟩) := zb.cell 1
        have z2 : w2.cell? ⟨w.heap.size, 2, none⟩ = some (.slice none 0 0) := zb.cell 2
        have z3 : w2.cell? ⟨w.heap.size, 3, none⟩ = some (.string ⟨#[]⟩) := zb.cell 3
        have z4 : w2.cell? ⟨w.heap.size, 4, none⟩ = some (.bool false) := zb.cell 4
        have zf0 := zb.frozen 0
        have zf1 := zb.frozen 1
        have zf2 := zb.frozen 2
        have zf3 := zb.frozen 3
        have zf4 := zb.frozen 4
        clear zb
        go_wp2_with fail
        go_region
        all_goals go_wp2_with fail
        all_goals
          refine bodyPost_ret (v := .tuple #[.agg #[.string ⟨#[]⟩, .string ⟨#[]⟩, .slice none 0 0, .string ⟨#[]⟩, .bool false], .bool false, .int .i64 0]) (by simp [results, Tryz.results16, go_sem, z0, z1, z2, z3, z4]) rfl ?_
          exact HF.out _ (by first | (refine Turned.drew ?_; (iterate 5 refine Turned.setR0 ?_ _ _); exact Turned.refl _ _ _) | ((iterate 5 refine Turned.setR0 ?_ _ _); exact Turned.drew (Turned.refl _ _ _)) | ((iterate 5 refine Turned.setR0 ?_ _ _); exact Turned.refl _ _ _))
      | fail e =>
        rw [hstep] at hcase
        obtain ⟨rfl, rfl⟩ := hcase
        have k13' : w2.cell? ⟨R, 13, none⟩ = some (.int .i64 wr2) := hR2.blk.cell 13
        have HF : Hid (∀ W, Turned w2.heap.size (fun k => k = w.heap.size) w2 W → Q (.returned (.tuple #[zeroReq, .bool false, .int .i64 wr2])) W) := fun W hW =>
          PW.out w2 W _ _ _ _ _ wr2 t2 hR2 (HTu.out.trans ht2) hW (.inr (by rw [HTL.out, tell_fail hstep])) h2 (by omega)
        have HT2 := Lib.hid (HTu.out.trans ht2)
        clear hR2 ht2 h2 hs2 hstep
        have zb := HZr.out w2 HT2.out
        have z0 : w2.cell? ⟨w.heap.size, 0, none⟩ = some (.string ⟨#[]⟩) := zb.cell 0
        have z1 : w2.cell? ⟨w.heap.size, 1, none⟩ = some (.string ⟨#[]⟩) := zb.cell 1
        have z2 : w2.cell? ⟨w.heap.size, 2, none⟩ = some (.slice none 0 0) := zb.cell 2
        have z3 : w2.cell? ⟨w.heap.size, 3, none⟩ = some (.string ⟨#[]⟩) := zb.cell 3
        have z4 : w2.cell? ⟨w.heap.size, 4, none⟩ = some (.bool false) := zb.cell 4
        have zf0 := zb.frozen 0
        have zf1 := zb.frozen 1
        have zf2 := zb.frozen 2
        have zf3 := zb.frozen 3
        have zf4 := zb.frozen 4
        clear zb
        go_wp2_with fail
        go_region
        all_goals go_wp2_with fail
        all_goals
          refine bodyPost_ret (v := .tuple #[.agg #[.string ⟨#[]⟩, .string ⟨#[]⟩, .slice none 0 0, .string ⟨#[]⟩, .bool false], .bool false, .int .i64 wr2]) (by simp [results, Tryz.results16, go_sem, z0, z1, z2, z3, z4]) rfl ?_
          exact HF.out _ (by first | (refine Turned.drew ?_; (iterate 5 refine Turned.setR0 ?_ _ _); exact Turned.refl _ _ _) | ((iterate 5 refine Turned.setR0 ?_ _ _); exact Turned.drew (Turned.refl _ _ _)) | ((iterate 5 refine Turned.setR0 ?_ _ _); exact Turned.refl _ _ _))
      | on s3 r3 =>
        rw [hstep] at hcase
        obtain ⟨rfl, rfl, rfl, rfl⟩ := hcase
        have HN : Hid (NextRel N' K' w1 R fed s b used taken w2) := step_rel HTu.out HTL.out HWF.out hsum hstep hR2 ht2 h2 hs2
        have HM : Hid (rdWeight R w2 < rdWeight R wr) := by
          show rdWeight R w2 < rdWeight R wr
          rw [hR2.weight, HR.out.weight]
          exact step_lt hstep
        clear hR2 ht2 h2 hs2 hstep
        go_wp2_with fail
        go_roundw
        case rel => exact HN.out
        case measure => exact HM.out
      | whole q3 r3 =>
        rw [hstep] at hcase
        exact hcase.elim
    · have k2' : wr.cell? ⟨R, 2, none⟩ = some (.int .i64 2) := by rw [hst] at k2; exact k2
      clear k2
      have k13 : wr.cell? ⟨R, 13, none⟩ = some (.int .i64 0) := hR.blk.cell 13
      obtain ⟨Hv, ch, hhv⟩ := own_slice hR.heads
      subst hhv
      have k10 : wr.cell? ⟨R, 10, none⟩ = some (.int .i64 s'.long) := hR.blk.cell 10
      have hlow := hwf.low
      have hhigh := hwf.high
      have HC : Hid (∀ kk : Int, kk = (s'.long.toNat : Int) → Calls Tryz.prog 43 #[.pointer (some ⟨R, 0, none⟩), .int .i64 kk] wr (SomePost N' K' wr R fed s' b' (.slice Hv s'.hs.length ch) used t' s'.long.toNat)) := fun kk hk =>
        rk_some N' K' R fed s' b' bv' (.slice Hv s'.hs.length ch) yv' used t' s'.long.toNat kk wr hR h1 (by have := HT.out; omega) hk (by omega) hwf.body
      have hstep := step2 s' b' hst
      have HTL := Lib.hid htl; clear htl
      have HWF := Lib.hid hwf; clear hwf
      have HR := Lib.hid hR; clear hR
      have HTu := Lib.hid ht; clear ht
      have HST := Lib.hid hstep; clear hstep
      have HSS := Lib.hid hst; clear hst
      clear hZb
      go_wp2_with fail
      refine (HC.out _ (by first | omega | (simp; omega))).mono ?_
      rintro en w2 ⟨b2, s2, bv2, yv2, t2, hR2, ht2, h2, hs2, hcase⟩
      have hstep := HST.out
      rcases hcase with ⟨q1, rfl, rfl, rfl⟩ | ⟨q1, rfl, rfl, rfl⟩
      · rw [if_pos q1] at hstep
        have k13' : w2.cell? ⟨R, 13, none⟩ = some (.int .i64 0) := hR2.blk.cell 13
        have HF : Hid (∀ W, Turned w2.heap.size (fun k => k = w.heap.size) w2 W → Q (.returned (.tuple #[zeroReq, .bool false, .int .i64 0])) W) := fun W hW =>
          PW.out w2 W _ _ _ _ _ 0 t2 hR2 (HTu.out.trans ht2) hW (.inl ⟨by rw [HTL.out, tell_wait hstep], rfl, HWF.out⟩) h2 (by omega)
        have HT2 := Lib.hid (HTu.out.trans ht2)
        clear hR2 ht2 h2 hs2 hstep
        have zb := HZr.out w2 HT2.out
        have z0 : w2.cell? ⟨w.heap.size, 0, none⟩ = some (.string ⟨#[]⟩) := zb.cell 0
        have z1 : w2.cell? ⟨w.heap.size, 1, none⟩ = some (.string ⟨#[]⟩) := zb.cell 1
        have z2 : w2.cell? ⟨w.heap.size, 2, none⟩ = some (.slice none 0 0) := zb.cell 2
        have z3 : w2.cell? ⟨w.heap.size, 3, none⟩ = some (.string ⟨#[]⟩) := zb.cell 3
        have z4 : w2.cell? ⟨w.heap.size, 4, none⟩ = some (.bool false) := zb.cell 4
        have zf0 := zb.frozen 0
        have zf1 := zb.frozen 1
        have zf2 := zb.frozen 2
        have zf3 := zb.frozen 3
        have zf4 := zb.frozen 4
        clear zb
        go_wp2_with fail
        go_region
        all_goals go_wp2_with fail
        all_goals
          refine bodyPost_ret (v := .tuple #[.agg #[.string ⟨#[]⟩, .string ⟨#[]⟩, .slice none 0 0, .string ⟨#[]⟩, .bool false], .bool false, .int .i64 0]) (by simp [results, Tryz.results16, go_sem, z0, z1, z2, z3, z4]) rfl ?_
          exact HF.out _ (by first | (refine Turned.drew ?_; (iterate 5 refine Turned.setR0 ?_ _ _); exact Turned.refl _ _ _) | ((iterate 5 refine Turned.setR0 ?_ _ _); exact Turned.drew (Turned.refl _ _ _)) | ((iterate 5 refine Turned.setR0 ?_ _ _); exact Turned.refl _ _ _))
      · rw [if_neg (Nat.not_lt.2 q1)] at hstep
        have HTD : Hid (tellP s b = .done ({ s' with body := s'.body ++ b'.take s'.long.toNat } : RS).rq (b'.drop s'.long.toNat)) := by show _ = _; rw [HTL.out, tell_whole hstep]
        have HR2 := Lib.hid hR2; clear hR2
        have HT2 := Lib.hid (HTu.out.trans ht2); clear ht2
        clear hstep
        have hT3 : ∀ w3, Turned w2.heap.size (fun k => k = R) w2 w3 → Turned N' K' w1 w3 := fun w3 h3 => HT2.out.trans (h3.more HR2.out.low (fun k hk hk' => by
          subst hk'
          rcases HR2.out.inR with h5 | h5
          · exact h5
          · omega))
        have HW := Lib.hid (rk_whole N' K' R fed ({ s' with body := s'.body ++ b'.take s'.long.toNat } : RS) (b'.drop s'.long.toNat) bv2 (.slice Hv s'.hs.length ch) yv2 used t2 w2 HR2.out h2 (by have := HT.out; omega) hu (by have := HT.out; omega))
        have HT3 := Lib.hid hT3; clear hT3
        go_wp2_with fail
        refine HW.out.mono ?_
        rintro en3 w3 ⟨rfl, ht3, hb3⟩
        have HF : Hid (∀ W, Turned w3.heap.size (fun k => k = w.heap.size) w3 W → Q (.returned (.tuple #[.agg #[.string s'.m, .string s'.p, .slice Hv s'.hs.length ch, .string ⟨(({ s' with body := s'.body ++ b'.take s'.long.toNat } : RS)).body.toArray⟩, .bool s'.close], .bool true, .int .i64 0])) W) := fun W hW =>
          PD.out w2 w3 W ({ s' with body := s'.body ++ b'.take s'.long.toNat } : RS) (b'.drop s'.long.toNat) _ _ _ t2 HR2.out HT2.out ht3 hb3 hW HTD.out h2 (by omega)
        have HT4 := Lib.hid (HT3.out w3 ht3)
        clear ht3 hb3
        have zb := HZr.out w3 HT4.out
        have z0 : w3.cell? ⟨w.heap.size, 0, none⟩ = some (.string ⟨#[]⟩) := zb.cell 0
        have z1 : w3.cell? ⟨w.heap.size, 1, none⟩ = some (.string ⟨#[]⟩) := zb.cell 1
        have z2 : w3.cell? ⟨w.heap.size, 2, none⟩ = some (.slice none 0 0) := zb.cell 2
        have z3 : w3.cell? ⟨w.heap.size, 3, none⟩ = some (.string ⟨#[]⟩) := zb.cell 3
        have z4 : w3.cell? ⟨w.heap.size, 4, none⟩ = some (.bool false) := zb.cell 4
        have zf0 := zb.frozen 0
        have zf1 := zb.frozen 1
        have zf2 := zb.frozen 2
        have zf3 := zb.frozen 3
        have zf4 := zb.frozen 4
        clear zb
        obtain ⟨mB, hmB⟩ : ∃ x : ByteArray, x = ⟨(({ s' with body := s'.body ++ b'.take s'.long.toNat } : RS)).body.toArray⟩ := ⟨_, rfl⟩
        simp only [← hmB] at HF ⊢
        clear hmB
        go_wp2_with fail
        refine bodyPost_ret (v := .tuple #[.agg #[.string s'.m, .string s'.p, .slice Hv s'.hs.length ch, .string mB, .bool s'.close], .bool true, .int .i64 0]) (by simp [results, Tryz.results16, go_sem, z0, z1, z2, z3, z4]) rfl ?_
        exact HF.out _ (by first | (refine Turned.drew ?_; (iterate 5 refine Turned.setR0 ?_ _ _); exact Turned.refl _ _ _) | ((iterate 5 refine Turned.setR0 ?_ _ _); exact Turned.drew (Turned.refl _ _ _)) | ((iterate 5 refine Turned.setR0 ?_ _ _); exact Turned.refl _ _ _))
    · have k2' : wr.cell? ⟨R, 2, none⟩ = some (.int .i64 3) := by rw [hst] at k2; exact k2
      clear k2
      have k13 : wr.cell? ⟨R, 13, none⟩ = some (.int .i64 0) := hR.blk.cell 13
      have HC := Lib.hid (rk_chunk N' K' R fed s' b' bv' hv' yv' used t' wr hR B hE.out hBN' HBK'.out h1 (by have := HT.out; omega) hwf hst)
      have HTL := Lib.hid htl; clear htl
      have HWF := Lib.hid hwf; clear hwf
      have HR := Lib.hid hR; clear hR
      have HTu := Lib.hid ht; clear ht
      clear hst hZb
      go_wp2_with fail
      refine HC.out.mono ?_
      rintro en w2 ⟨s2, b2, bv2, hv2, yv2, wr2, t2, hR2, ht2, h2, hs2, hcase⟩
      cases hstep : stepP s' b' with
      | wait =>
        rw [hstep] at hcase
        obtain ⟨rfl, rfl, rfl, rfl⟩ := hcase
        have k13' : w2.cell? ⟨R, 13, none⟩ = some (.int .i64 0) := hR2.blk.cell 13
        have HF : Hid (∀ W, Turned w2.heap.size (fun k => k = w.heap.size) w2 W → Q (.returned (.tuple #[zeroReq, .bool false, .int .i64 0])) W) := fun W hW =>
          PW.out w2 W _ _ _ _ _ 0 t2 hR2 (HTu.out.trans ht2) hW (.inl ⟨by rw [HTL.out, tell_wait hstep], rfl, HWF.out⟩) h2 (by omega)
        have HT2 := Lib.hid (HTu.out.trans ht2)
        clear hR2 ht2 h2 hs2 hstep
        have zb := HZr.out w2 HT2.out
        have z0 : w2.cell? ⟨w.heap.size, 0, none⟩ = some (.string ⟨#[]⟩) := zb.cell 0
        have z1 : w2.cell? ⟨w.heap.size, 1, none⟩ = some (.string ⟨#[]⟩) := zb.cell 1
        have z2 : w2.cell? ⟨w.heap.size, 2, none⟩ = some (.slice none 0 0) := zb.cell 2
        have z3 : w2.cell? ⟨w.heap.size, 3, none⟩ = some (.string ⟨#[]⟩) := zb.cell 3
        have z4 : w2.cell? ⟨w.heap.size, 4, none⟩ = some (.bool false) := zb.cell 4
        have zf0 := zb.frozen 0
        have zf1 := zb.frozen 1
        have zf2 := zb.frozen 2
        have zf3 := zb.frozen 3
        have zf4 := zb.frozen 4
        clear zb
        go_wp2_with fail
        go_region
        all_goals go_wp2_with fail
        all_goals
          refine bodyPost_ret (v := .tuple #[.agg #[.string ⟨#[]⟩, .string ⟨#[]⟩, .slice none 0 0, .string ⟨#[]⟩, .bool false], .bool false, .int .i64 0]) (by simp [results, Tryz.results16, go_sem, z0, z1, z2, z3, z4]) rfl ?_
          exact HF.out _ (by first | (refine Turned.drew ?_; (iterate 5 refine Turned.setR0 ?_ _ _); exact Turned.refl _ _ _) | ((iterate 5 refine Turned.setR0 ?_ _ _); exact Turned.drew (Turned.refl _ _ _)) | ((iterate 5 refine Turned.setR0 ?_ _ _); exact Turned.refl _ _ _))
      | fail e =>
        rw [hstep] at hcase
        obtain ⟨rfl, rfl⟩ := hcase
        have k13' : w2.cell? ⟨R, 13, none⟩ = some (.int .i64 wr2) := hR2.blk.cell 13
        have HF : Hid (∀ W, Turned w2.heap.size (fun k => k = w.heap.size) w2 W → Q (.returned (.tuple #[zeroReq, .bool false, .int .i64 wr2])) W) := fun W hW =>
          PW.out w2 W _ _ _ _ _ wr2 t2 hR2 (HTu.out.trans ht2) hW (.inr (by rw [HTL.out, tell_fail hstep])) h2 (by omega)
        have HT2 := Lib.hid (HTu.out.trans ht2)
        clear hR2 ht2 h2 hs2 hstep
        have zb := HZr.out w2 HT2.out
        have z0 : w2.cell? ⟨w.heap.size, 0, none⟩ = some (.string ⟨#[]⟩) := zb.cell 0
        have z1 : w2.cell? ⟨w.heap.size, 1, none⟩ = some (.string ⟨#[]⟩) := zb.cell 1
        have z2 : w2.cell? ⟨w.heap.size, 2, none⟩ = some (.slice none 0 0) := zb.cell 2
        have z3 : w2.cell? ⟨w.heap.size, 3, none⟩ = some (.string ⟨#[]⟩) := zb.cell 3
        have z4 : w2.cell? ⟨w.heap.size, 4, none⟩ = some (.bool false) := zb.cell 4
        have zf0 := zb.frozen 0
        have zf1 := zb.frozen 1
        have zf2 := zb.frozen 2
        have zf3 := zb.frozen 3
        have zf4 := zb.frozen 4
        clear zb
        go_wp2_with fail
        go_region
        all_goals go_wp2_with fail
        all_goals
          refine bodyPost_ret (v := .tuple #[.agg #[.string ⟨#[]⟩, .string ⟨#[]⟩, .slice none 0 0, .string ⟨#[]⟩, .bool false], .bool false, .int .i64 wr2]) (by simp [results, Tryz.results16, go_sem, z0, z1, z2, z3, z4]) rfl ?_
          exact HF.out _ (by first | (refine Turned.drew ?_; (iterate 5 refine Turned.setR0 ?_ _ _); exact Turned.refl _ _ _) | ((iterate 5 refine Turned.setR0 ?_ _ _); exact Turned.drew (Turned.refl _ _ _)) | ((iterate 5 refine Turned.setR0 ?_ _ _); exact Turned.refl _ _ _))
      | on s3 r3 =>
        rw [hstep] at hcase
        obtain ⟨rfl, rfl, rfl, rfl⟩ := hcase
        have HN : Hid (NextRel N' K' w1 R fed s b used taken w2) := step_rel HTu.out HTL.out HWF.out hsum hstep hR2 ht2 h2 hs2
        have HM : Hid (rdWeight R w2 < rdWeight R wr) := by
          show rdWeight R w2 < rdWeight R wr
          rw [hR2.weight, HR.out.weight]
          exact step_lt hstep
        clear hR2 ht2 h2 hs2 hstep
        go_wp2_with fail
        go_roundw
        case rel => exact HN.out
        case measure => exact HM.out
      | whole q3 r3 =>
        rw [hstep] at hcase
        exact hcase.elim
    · have k2' : wr.cell? ⟨R, 2, none⟩ = some (.int .i64 4) := by rw [hst] at k2; exact k2
      clear k2
      have k13 : wr.cell? ⟨R, 13, none⟩ = some (.int .i64 0) := hR.blk.cell 13
      obtain ⟨Hv, ch, hhv⟩ := own_slice hR.heads
      subst hhv
      have k10 : wr.cell? ⟨R, 10, none⟩ = some (.int .i64 s'.long) := hR.blk.cell 10
      have hlow := hwf.low
      have hhigh := hwf.high
      have h4 := (hwf.four hst).1
      have HC : Hid (∀ kk : Int, kk = (s'.long.toNat : Int) → Calls Tryz.prog 43 #[.pointer (some ⟨R, 0, none⟩), .int .i64 kk] wr (SomePost N' K' wr R fed s' b' (.slice Hv s'.hs.length ch) used t' s'.long.toNat)) := fun kk hk =>
        rk_some N' K' R fed s' b' bv' (.slice Hv s'.hs.length ch) yv' used t' s'.long.toNat kk wr hR h1 (by have := HT.out; omega) hk (by omega) hwf.body
      have hstep := step4 s' b' hst
      have HTL := Lib.hid htl; clear htl
      have HWF := Lib.hid hwf; clear hwf
      have HR := Lib.hid hR; clear hR
      have HTu := Lib.hid ht; clear ht
      have HST := Lib.hid hstep; clear hstep
      have HSS := Lib.hid hst; clear hst
      clear hZb
      go_wp2_with fail
      refine (HC.out _ (by first | omega | (simp; omega))).mono ?_
      rintro en w2 ⟨b2, s2, bv2, yv2, t2, hR2, ht2, h2, hs2, hcase⟩
      have hstep := HST.out
      rcases hcase with ⟨q1, rfl, rfl, rfl⟩ | ⟨q1, rfl, rfl, rfl⟩
      · rw [if_pos q1] at hstep
        have k13' : w2.cell? ⟨R, 13, none⟩ = some (.int .i64 0) := hR2.blk.cell 13
        have HF : Hid (∀ W, Turned w2.heap.size (fun k => k = w.heap.size) w2 W → Q (.returned (.tuple #[zeroReq, .bool false, .int .i64 0])) W) := fun W hW =>
          PW.out w2 W _ _ _ _ _ 0 t2 hR2 (HTu.out.trans ht2) hW (.inl ⟨by rw [HTL.out, tell_wait hstep], rfl, HWF.out⟩) h2 (by omega)
        have HT2 := Lib.hid (HTu.out.trans ht2)
        clear hR2 ht2 h2 hs2 hstep
        have zb := HZr.out w2 HT2.out
        have z0 : w2.cell? ⟨w.heap.size, 0, none⟩ = some (.string ⟨#[]⟩) := zb.cell 0
        have z1 : w2.cell? ⟨w.heap.size, 1, none⟩ = some (.string ⟨#[]⟩) := zb.cell 1
        have z2 : w2.cell? ⟨w.heap.size, 2, none⟩ = some (.slice none 0 0) := zb.cell 2
        have z3 : w2.cell? ⟨w.heap.size, 3, none⟩ = some (.string ⟨#[]⟩) := zb.cell 3
        have z4 : w2.cell? ⟨w.heap.size, 4, none⟩ = some (.bool false) := zb.cell 4
        have zf0 := zb.frozen 0
        have zf1 := zb.frozen 1
        have zf2 := zb.frozen 2
        have zf3 := zb.frozen 3
        have zf4 := zb.frozen 4
        clear zb
        go_wp2_with fail
        go_region
        all_goals go_wp2_with fail
        all_goals
          refine bodyPost_ret (v := .tuple #[.agg #[.string ⟨#[]⟩, .string ⟨#[]⟩, .slice none 0 0, .string ⟨#[]⟩, .bool false], .bool false, .int .i64 0]) (by simp [results, Tryz.results16, go_sem, z0, z1, z2, z3, z4]) rfl ?_
          exact HF.out _ (by first | (refine Turned.drew ?_; (iterate 5 refine Turned.setR0 ?_ _ _); exact Turned.refl _ _ _) | ((iterate 5 refine Turned.setR0 ?_ _ _); exact Turned.drew (Turned.refl _ _ _)) | ((iterate 5 refine Turned.setR0 ?_ _ _); exact Turned.refl _ _ _))
      · rw [if_neg (Nat.not_lt.2 q1)] at hstep
        have k2'' : w2.cell? ⟨R, 2, none⟩ = some (.int .i64 (s'.state : Int)) := hR2.blk.cell 2
        have u2 := hR2.blk.frozen 2
        have HN : Hid (NextRel N' K' w1 R fed s b used taken (w2.setCell ⟨R, 2, none⟩ (.int .i64 5))) := step_rel HTu.out HTL.out HWF.out hsum hstep (hR2.store 2 (.int .i64 5) (s' := { s' with state := 5, body := s'.body ++ b'.take s'.long.toNat }) rfl rfl rfl) (Turned.setR hR2 ht2 2 _) h2 hs2
        have HM : Hid (rdWeight R (w2.setCell ⟨R, 2, none⟩ (.int .i64 5)) < rdWeight R wr) := by
          show rdWeight R (w2.setCell ⟨R, 2, none⟩ (.int .i64 5)) < rdWeight R wr
          rw [(hR2.store 2 (.int .i64 5) (s' := { s' with state := 5, body := s'.body ++ b'.take s'.long.toNat }) rfl rfl rfl).weight, HR.out.weight]
          exact step_lt hstep
        clear hR2 ht2 h2 hs2 hstep
        go_wp2_with fail
        go_roundw
        case rel => exact HN.out
        case measure => exact HM.out
    · have k2' : wr.cell? ⟨R, 2, none⟩ = some (.int .i64 5) := by rw [hst] at k2; exact k2
      clear k2
      have k13 : wr.cell? ⟨R, 13, none⟩ = some (.int .i64 0) := hR.blk.cell 13
      obtain ⟨Hv, ch, hhv⟩ := own_slice hR.heads
      subst hhv
      have HC := Lib.hid (rk_end N' K' R fed s' b' bv' (.slice Hv s'.hs.length ch) yv' used t' wr hR h1 (by have := HT.out; omega))
      have hstep := step5 s' b' hst
      have HTL := Lib.hid htl; clear htl
      have HWF := Lib.hid hwf; clear hwf
      have HR := Lib.hid hR; clear hR
      have HTu := Lib.hid ht; clear ht
      clear hZb
      go_wp2_with fail
      refine HC.out.mono ?_
      rintro en w2 ⟨b2, bv2, wr2, t2, hR2, ht2, h2, hs2, hcase⟩
      cases hend : endAt b' with
      | wait =>
        rw [hend] at hcase hstep
        obtain ⟨rfl, rfl, rfl⟩ := hcase
        have k13' : w2.cell? ⟨R, 13, none⟩ = some (.int .i64 0) := hR2.blk.cell 13
        have HF : Hid (∀ W, Turned w2.heap.size (fun k => k = w.heap.size) w2 W → Q (.returned (.tuple #[zeroReq, .bool false, .int .i64 0])) W) := fun W hW =>
          PW.out w2 W _ _ _ _ _ 0 t2 hR2 (HTu.out.trans ht2) hW (.inl ⟨by rw [HTL.out, tell_wait hstep], rfl, HWF.out⟩) h2 (by omega)
        have HT2 := Lib.hid (HTu.out.trans ht2)
        clear hR2 ht2 h2 hs2 hstep hst
        have zb := HZr.out w2 HT2.out
        have z0 : w2.cell? ⟨w.heap.size, 0, none⟩ = some (.string ⟨#[]⟩) := zb.cell 0
        have z1 : w2.cell? ⟨w.heap.size, 1, none⟩ = some (.string ⟨#[]⟩) := zb.cell 1
        have z2 : w2.cell? ⟨w.heap.size, 2, none⟩ = some (.slice none 0 0) := zb.cell 2
        have z3 : w2.cell? ⟨w.heap.size, 3, none⟩ = some (.string ⟨#[]⟩) := zb.cell 3
        have z4 : w2.cell? ⟨w.heap.size, 4, none⟩ = some (.bool false) := zb.cell 4
        have zf0 := zb.frozen 0
        have zf1 := zb.frozen 1
        have zf2 := zb.frozen 2
        have zf3 := zb.frozen 3
        have zf4 := zb.frozen 4
        clear zb
        go_wp2_with fail
        go_region
        all_goals go_wp2_with fail
        all_goals
          refine bodyPost_ret (v := .tuple #[.agg #[.string ⟨#[]⟩, .string ⟨#[]⟩, .slice none 0 0, .string ⟨#[]⟩, .bool false], .bool false, .int .i64 0]) (by simp [results, Tryz.results16, go_sem, z0, z1, z2, z3, z4]) rfl ?_
          exact HF.out _ (by first | (refine Turned.drew ?_; (iterate 5 refine Turned.setR0 ?_ _ _); exact Turned.refl _ _ _) | ((iterate 5 refine Turned.setR0 ?_ _ _); exact Turned.drew (Turned.refl _ _ _)) | ((iterate 5 refine Turned.setR0 ?_ _ _); exact Turned.refl _ _ _))
      | bad =>
        rw [hend] at hcase hstep
        obtain ⟨rfl, rfl⟩ := hcase
        have k13' : w2.cell? ⟨R, 13, none⟩ = some (.int .i64 280) := hR2.blk.cell 13
        have HF : Hid (∀ W, Turned w2.heap.size (fun k => k = w.heap.size) w2 W → Q (.returned (.tuple #[zeroReq, .bool false, .int .i64 280])) W) := fun W hW =>
          PW.out w2 W _ _ _ _ _ 280 t2 hR2 (HTu.out.trans ht2) hW (.inr (by rw [HTL.out, tell_fail hstep])) h2 (by omega)
        have HT2 := Lib.hid (HTu.out.trans ht2)
        clear hR2 ht2 h2 hs2 hstep hst
        have zb := HZr.out w2 HT2.out
        have z0 : w2.cell? ⟨w.heap.size, 0, none⟩ = some (.string ⟨#[]⟩) := zb.cell 0
        have z1 : w2.cell? ⟨w.heap.size, 1, none⟩ = some (.string ⟨#[]⟩) := zb.cell 1
        have z2 : w2.cell? ⟨w.heap.size, 2, none⟩ = some (.slice none 0 0) := zb.cell 2
        have z3 : w2.cell? ⟨w.heap.size, 3, none⟩ = some (.string ⟨#[]⟩) := zb.cell 3
        have z4 : w2.cell? ⟨w.heap.size, 4, none⟩ = some (.bool false) := zb.cell 4
        have zf0 := zb.frozen 0
        have zf1 := zb.frozen 1
        have zf2 := zb.frozen 2
        have zf3 := zb.frozen 3
        have zf4 := zb.frozen 4
        clear zb
        go_wp2_with fail
        go_region
        all_goals go_wp2_with fail
        all_goals
          refine bodyPost_ret (v := .tuple #[.agg #[.string ⟨#[]⟩, .string ⟨#[]⟩, .slice none 0 0, .string ⟨#[]⟩, .bool false], .bool false, .int .i64 280]) (by simp [results, Tryz.results16, go_sem, z0, z1, z2, z3, z4]) rfl ?_
          exact HF.out _ (by first | (refine Turned.drew ?_; (iterate 5 refine Turned.setR0 ?_ _ _); exact Turned.refl _ _ _) | ((iterate 5 refine Turned.setR0 ?_ _ _); exact Turned.drew (Turned.refl _ _ _)) | ((iterate 5 refine Turned.setR0 ?_ _ _); exact Turned.refl _ _ _))
      | got l2 r2 =>
        rw [hend] at hcase hstep
        obtain ⟨rfl, rfl, rfl⟩ := hcase
        have k2'' : w2.cell? ⟨R, 2, none⟩ = some (.int .i64 (s'.state : Int)) := hR2.blk.cell 2
        have u2 := hR2.blk.frozen 2
        have HN : Hid (NextRel N' K' w1 R fed s b used taken (w2.setCell ⟨R, 2, none⟩ (.int .i64 3))) := step_rel HTu.out HTL.out HWF.out hsum hstep (hR2.store 2 (.int .i64 3) (s' := { s' with state := 3 }) rfl rfl rfl) (Turned.setR hR2 ht2 2 _) h2 hs2
        have HM : Hid (rdWeight R (w2.setCell ⟨R, 2, none⟩ (.int .i64 3)) < rdWeight R wr) := by
          show rdWeight R (w2.setCell ⟨R, 2, none⟩ (.int .i64 3)) < rdWeight R wr
          rw [(hR2.store 2 (.int .i64 3) (s' := { s' with state := 3 }) rfl rfl rfl).weight, HR.out.weight]
          exact step_lt hstep
        clear hR2 ht2 h2 hs2 hstep hst
        go_wp2_with fail
        go_roundw
        case rel => exact HN.out
        case measure => exact HM.out
    · have k2' : wr.cell? ⟨R, 2, none⟩ = some (.int .i64 6) := by rw [hst] at k2; exact k2
      clear k2
      have k13 : wr.cell? ⟨R, 13, none⟩ = some (.int .i64 0) := hR.blk.cell 13
      obtain ⟨Hv, ch, hhv⟩ := own_slice hR.heads
      subst hhv
      have HC := Lib.hid (rk_end N' K' R fed s' b' bv' (.slice Hv s'.hs.length ch) yv' used t' wr hR h1 (by have := HT.out; omega))
      have hstep := step6 s' b' hst
      have HTL := Lib.hid htl; clear htl
      have HWF := Lib.hid hwf; clear hwf
      have HR := Lib.hid hR; clear hR
      have HTu := Lib.hid ht; clear ht
      clear hZb
      go_wp2_with fail
      refine HC.out.mono ?_
      rintro en w2 ⟨b2, bv2, wr2, t2, hR2, ht2, h2, hs2, hcase⟩
      cases hend : endAt b' with
      | wait =>
        rw [hend] at hcase hstep
        obtain ⟨rfl, rfl, rfl⟩ := hcase
        have k13' : w2.cell? ⟨R, 13, none⟩ = some (.int .i64 0) := hR2.blk.cell 13
        have HF : Hid (∀ W, Turned w2.heap.size (fun k => k = w.heap.size) w2 W → Q (.returned (.tuple #[zeroReq, .bool false, .int .i64 0])) W) := fun W hW =>
          PW.out w2 W _ _ _ _ _ 0 t2 hR2 (HTu.out.trans ht2) hW (.inl ⟨by rw [HTL.out, tell_wait hstep], rfl, HWF.out⟩) h2 (by omega)
        have HT2 := Lib.hid (HTu.out.trans ht2)
        clear hR2 ht2 h2 hs2 hstep hst
        have zb := HZr.out w2 HT2.out
        have z0 : w2.cell? ⟨w.heap.size, 0, none⟩ = some (.string ⟨#[]⟩) := zb.cell 0
        have z1 : w2.cell? ⟨w.heap.size, 1, none⟩ = some (.string ⟨#[]⟩) := zb.cell 1
        have z2 : w2.cell? ⟨w.heap.size, 2, none⟩ = some (.slice none 0 0) := zb.cell 2
        have z3 : w2.cell? ⟨w.heap.size, 3, none⟩ = some (.string ⟨#[]⟩) := zb.cell 3
        have z4 : w2.cell? ⟨w.heap.size, 4, none⟩ = some (.bool false) := zb.cell 4
        have zf0 := zb.frozen 0
        have zf1 := zb.frozen 1
        have zf2 := zb.frozen 2
        have zf3 := zb.frozen 3
        have zf4 := zb.frozen 4
        clear zb
        go_wp2_with fail
        go_region
        all_goals go_wp2_with fail
        all_goals
          refine bodyPost_ret (v := .tuple #[.agg #[.string ⟨#[]⟩, .string ⟨#[]⟩, .slice none 0 0, .string ⟨#[]⟩, .bool false], .bool false, .int .i64 0]) (by simp [results, Tryz.results16, go_sem, z0, z1, z2, z3, z4]) rfl ?_
          exact HF.out _ (by first | (refine Turned.drew ?_; (iterate 5 refine Turned.setR0 ?_ _ _); exact Turned.refl _ _ _) | ((iterate 5 refine Turned.setR0 ?_ _ _); exact Turned.drew (Turned.refl _ _ _)) | ((iterate 5 refine Turned.setR0 ?_ _ _); exact Turned.refl _ _ _))
      | bad =>
        rw [hend] at hcase hstep
        obtain ⟨rfl, rfl⟩ := hcase
        have k13' : w2.cell? ⟨R, 13, none⟩ = some (.int .i64 280) := hR2.blk.cell 13
        have HF : Hid (∀ W, Turned w2.heap.size (fun k => k = w.heap.size) w2 W → Q (.returned (.tuple #[zeroReq, .bool false, .int .i64 280])) W) := fun W hW =>
          PW.out w2 W _ _ _ _ _ 280 t2 hR2 (HTu.out.trans ht2) hW (.inr (by rw [HTL.out, tell_fail hstep])) h2 (by omega)
        have HT2 := Lib.hid (HTu.out.trans ht2)
        clear hR2 ht2 h2 hs2 hstep hst
        have zb := HZr.out w2 HT2.out
        have z0 : w2.cell? ⟨w.heap.size, 0, none⟩ = some (.string ⟨#[]⟩) := zb.cell 0
        have z1 : w2.cell? ⟨w.heap.size, 1, none⟩ = some (.string ⟨#[]⟩) := zb.cell 1
        have z2 : w2.cell? ⟨w.heap.size, 2, none⟩ = some (.slice none 0 0) := zb.cell 2
        have z3 : w2.cell? ⟨w.heap.size, 3, none⟩ = some (.string ⟨#[]⟩) := zb.cell 3
        have z4 : w2.cell? ⟨w.heap.size, 4, none⟩ = some (.bool false) := zb.cell 4
        have zf0 := zb.frozen 0
        have zf1 := zb.frozen 1
        have zf2 := zb.frozen 2
        have zf3 := zb.frozen 3
        have zf4 := zb.frozen 4
        clear zb
        go_wp2_with fail
        go_region
        all_goals go_wp2_with fail
        all_goals
          refine bodyPost_ret (v := .tuple #[.agg #[.string ⟨#[]⟩, .string ⟨#[]⟩, .slice none 0 0, .string ⟨#[]⟩, .bool false], .bool false, .int .i64 280]) (by simp [results, Tryz.results16, go_sem, z0, z1, z2, z3, z4]) rfl ?_
          exact HF.out _ (by first | (refine Turned.drew ?_; (iterate 5 refine Turned.setR0 ?_ _ _); exact Turned.refl _ _ _) | ((iterate 5 refine Turned.setR0 ?_ _ _); exact Turned.drew (Turned.refl _ _ _)) | ((iterate 5 refine Turned.setR0 ?_ _ _); exact Turned.refl _ _ _))
      | got l2 r2 =>
        rw [hend] at hcase hstep
        obtain ⟨rfl, rfl, rfl⟩ := hcase
        have HTD : Hid (tellP s b = .done s'.rq b2) := by show _ = _; rw [HTL.out, tell_whole hstep]
        have HR2 := Lib.hid hR2; clear hR2
        have HT2 := Lib.hid (HTu.out.trans ht2); clear ht2
        clear hstep hst
        have hT3 : ∀ w3, Turned w2.heap.size (fun k => k = R) w2 w3 → Turned N' K' w1 w3 := fun w3 h3 => HT2.out.trans (h3.more HR2.out.low (fun k hk hk' => by
          subst hk'
          rcases HR2.out.inR with h5 | h5
          · exact h5
          · omega))
        have HW := Lib.hid (rk_whole N' K' R fed s' b2 bv2 (.slice Hv s'.hs.length ch) yv' used t2 w2 HR2.out h2 (by have := HT.out; omega) hu (by have := HT.out; omega))
        have HT3 := Lib.hid hT3; clear hT3
        go_wp2_with fail
        refine HW.out.mono ?_
        rintro en3 w3 ⟨rfl, ht3, hb3⟩
        have HF : Hid (∀ W, Turned w3.heap.size (fun k => k = w.heap.size) w3 W → Q (.returned (.tuple #[.agg #[.string s'.m, .string s'.p, .slice Hv s'.hs.length ch, .string ⟨(s').body.toArray⟩, .bool s'.close], .bool true, .int .i64 0])) W) := fun W hW =>
          PD.out w2 w3 W s' b2 _ _ _ t2 HR2.out HT2.out ht3 hb3 hW HTD.out h2 (by omega)
        have HT4 := Lib.hid (HT3.out w3 ht3)
        clear ht3 hb3
        have zb := HZr.out w3 HT4.out
        have z0 : w3.cell? ⟨w.heap.size, 0, none⟩ = some (.string ⟨#[]⟩) := zb.cell 0
        have z1 : w3.cell? ⟨w.heap.size, 1, none⟩ = some (.string ⟨#[]⟩) := zb.cell 1
        have z2 : w3.cell? ⟨w.heap.size, 2, none⟩ = some (.slice none 0 0) := zb.cell 2
        have z3 : w3.cell? ⟨w.heap.size, 3, none⟩ = some (.string ⟨#[]⟩) := zb.cell 3
        have z4 : w3.cell? ⟨w.heap.size, 4, none⟩ = some (.bool false) := zb.cell 4
        have zf0 := zb.frozen 0
        have zf1 := zb.frozen 1
        have zf2 := zb.frozen 2
        have zf3 := zb.frozen 3
        have zf4 := zb.frozen 4
        clear zb
        obtain ⟨mB, hmB⟩ : ∃ x : ByteArray, x = ⟨(s').body.toArray⟩ := ⟨_, rfl⟩
        simp only [← hmB] at HF ⊢
        clear hmB
        go_wp2_with fail
        refine bodyPost_ret (v := .tuple #[.agg #[.string s'.m, .string s'.p, .slice Hv s'.hs.length ch, .string mB, .bool s'.close], .bool true, .int .i64 0]) (by simp [results, Tryz.results16, go_sem, z0, z1, z2, z3, z4]) rfl ?_
        exact HF.out _ (by first | (refine Turned.drew ?_; (iterate 5 refine Turned.setR0 ?_ _ _); exact Turned.refl _ _ _) | ((iterate 5 refine Turned.setR0 ?_ _ _); exact Turned.drew (Turned.refl _ _ _)) | ((iterate 5 refine Turned.setR0 ?_ _ _); exact Turned.refl _ _ _))
end Go.Proofs.YtnicmdlicbnlgaaGreatDoor
