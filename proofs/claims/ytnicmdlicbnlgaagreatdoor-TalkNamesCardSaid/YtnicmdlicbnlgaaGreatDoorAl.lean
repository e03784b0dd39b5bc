/-
  Walks: a new reader; bytes given to it; Next where it has refused; all requests.
-/
import Derived.Test.YtnicmdlicbnlgaaGreatDoorNx
namespace Go.Proofs.YtnicmdlicbnlgaaGreatDoor
open Go.RowKit
set_option linter.unusedVariables false
set_option linter.unusedSimpArgs false

set_option maxRecDepth 100000 in
set_option maxHeartbeats 1600000 in
theorem rk_next_wrong (N : Nat) (K : Nat → Prop) (R : Nat) (fed : Bool) (s : RS) (b : List UInt8) (bv hv yv : Value) (e used taken : Int) (w : World) (h : RdAt N K w R fed s b bv hv yv e used taken) (he : ¬ e = 0) :
    Calls Tryz.prog 16 #[.pointer (some ⟨R, 0, none⟩)] w fun en w' => en = .returned (.tuple #[zeroReq, .bool false, .int .i64 e]) ∧ Below w.heap.size w w' := by
  obtain ⟨Q, hQ⟩ : ∃ Q : Ending → World → Prop, Q = fun en w' => en = .returned (.tuple #[zeroReq, .bool false, .int .i64 e]) ∧ Below w.heap.size w w' := ⟨_, rfl⟩
  rw [← hQ]
  have HF : Hid (∀ W, Below w.heap.size w W → Q (.returned (.tuple #[zeroReq, .bool false, .int .i64 e])) W) := fun W hW => by rw [hQ]; exact ⟨rfl, hW⟩
  clear hQ
  have c0 : w.cell? ⟨R, 0, none⟩ = some (.bool true) := h.blk.cell 0
  have c13 : w.cell? ⟨R, 13, none⟩ = some (.int .i64 e) := h.blk.cell 13
  have hRlt : R < w.heap.size := h.blk.lt
  have hne : ∀ i, ¬ (⟨R, i, none⟩ : Addr) = ⟨w.heap.size, 0, none⟩ := fun i h => by injection h; omega
  clear h
  obtain ⟨w1, hw1⟩ : ∃ w1, w1 = w.alloc (Obj.cells zeroCells5 33) := ⟨_, rfl⟩
  have hZ : Blk w1 w.heap.size 33 zeroCells5 := by rw [hw1]; exact heap_alloc_new w _
  have hbw : Below w.heap.size w w1 := by rw [hw1]; exact bl_alloc (Below.refl _ _) _
  have d0 := (hbw.cell (p := ⟨R, 0, none⟩) hRlt).trans c0
  have d13 := (hbw.cell (p := ⟨R, 13, none⟩) hRlt).trans c13
  have z0 : w1.cell? ⟨w.heap.size, 0, none⟩ = some (.string ⟨#[]⟩) := hZ.cell 0
  have z1 : w1.cell? ⟨w.heap.size, 1, none⟩ = some (.string ⟨#[]⟩) := hZ.cell 1
  have z2 : w1.cell? ⟨w.heap.size, 2, none⟩ = some (.slice none 0 0) := hZ.cell 2
  have z3 : w1.cell? ⟨w.heap.size, 3, none⟩ = some (.string ⟨#[]⟩) := hZ.cell 3
  have z4 : w1.cell? ⟨w.heap.size, 4, none⟩ = some (.bool false) := hZ.cell 4
  have zf0 := hZ.frozen 0
  have zf1 := hZ.frozen 1
  have zf2 := hZ.frozen 2
  have zf3 := hZ.frozen 3
  have zf4 := hZ.frozen 4
  have HBW := Lib.hid hbw; clear hbw hZ
  unfold zeroCells5 at hw1
  have HW1 := Lib.hid hw1; clear hw1
  go_enter Tryz.func16, Tryz.ntmps16
  go_wp2_with fail
  rw [← HW1.out]
  go_step3
  go_wp2_with fail
  go_step3
  go_wp2_with fail
  go_loopw [5] (fun on wr => wr = w1) (fun on wr => 0)
  case atStart => rfl
  case round =>
    subst hrel
    go_wp2_with fail
    go_region
    all_goals go_wp2_with fail
    all_goals
      refine bodyPost_ret (v := .tuple #[.agg #[.string ⟨#[]⟩, .string ⟨#[]⟩, .slice none 0 0, .string ⟨#[]⟩, .bool false], .bool false, .int .i64 e]) (by simp [results, Tryz.results16, go_sem, z0, z1, z2, z3, z4]) rfl ?_
      refine HF.out _ ?_
      exact (((((HBW.out.setCell (p := ⟨w.heap.size, 0, none⟩) (Nat.le_refl _) _).setCell (p := ⟨w.heap.size, 1, none⟩) (Nat.le_refl _) _).setCell (p := ⟨w.heap.size, 2, none⟩) (Nat.le_refl _) _).setCell (p := ⟨w.heap.size, 3, none⟩) (Nat.le_refl _) _).setCell (p := ⟨w.heap.size, 4, none⟩) (Nat.le_refl _) _).drew

/-! ### a new reader -/
set_option maxHeartbeats 400000 in
theorem rk_new (w : World) : Calls Tryz.prog 13 #[] w fun e w' => e = .returned (.pointer (some ⟨w.heap.size, 0, none⟩)) ∧ w' = w.alloc (.cells (rdCells RS.init (.slice none 0 0) (.slice none 0 0) (.slice none 0 0) 0 0 0) 50) := by
  unfold rdCells RS.init
  go_enter Tryz.func13, Tryz.ntmps13
  go_wp2
  go_ret
  exact ⟨rfl, rfl⟩
theorem new_rd (w : World) (fed : Bool) : RdAt w.heap.size (fun _ => False) (w.alloc (.cells (rdCells RS.init (.slice none 0 0) (.slice none 0 0) (.slice none 0 0) 0 0 0) 50)) w.heap.size fed RS.init [] (.slice none 0 0) (.slice none 0 0) (.slice none 0 0) 0 0 0 := by
  refine ⟨heap_alloc_new w _, BAt.nil _ _, World.ownsRow_nil _ _ _ _, World.ownsRow_nil _ _ _ _, fun g hg => by simp [Value.ownBlock], ?_, by simp⟩
  rintro k (hk | hk | hk | hk)
  · exact .inr (by omega)
  · simp [Value.ownBlock] at hk
  · simp [Value.ownBlock] at hk
  · simp [Value.ownBlock] at hk
/-! ### the requests that were told, in memory -/
def toldCells (ts : List (Rq × Value)) : List Value := ts.flatMap fun x => [.string x.1.m, .string x.1.p, x.2, .string x.1.body, .bool x.1.close]
theorem toldCells_len (ts : List (Rq × Value)) : (toldCells ts).length = ts.length * 5 := by
  unfold toldCells
  induction ts with
  | nil => rfl
  | cons h t ih => simp only [List.flatMap_cons, List.length_append, ih, List.length_cons, List.length_nil]; omega
theorem toldCells_append (a b : List (Rq × Value)) : toldCells (a ++ b) = toldCells a ++ toldCells b := by simp [toldCells]
def ToldAt (w : World) (v : Value) (ts : List (Rq × Value)) : Prop :=
  w.ownsRow 0 33 5 v ts.length (toldCells ts) ∧ ∀ x ∈ ts, w.ownsRow 0 88 2 x.2 x.1.hs.length (headCells x.1.hs)
theorem ToldAt.keep {w w' : World} {v : Value} {ts : List (Rq × Value)} (h : ToldAt w v ts) (hk : ∀ g t cs, w.heap[g]? = some (.cells cs t (0, 0)) → (t = 33 ∨ t = 88) → (v.ownBlock = some g ∨ ∃ x ∈ ts, x.2.ownBlock = some g) → w'.heap[g]? = w.heap[g]?) : ToldAt w' v ts := by
  refine ⟨own_keep h.1 fun g hg => ?_, fun x hx => own_keep (h.2 x hx) fun g hg => ?_⟩
  · rcases h.1.2 with ⟨rfl, _⟩ | ⟨g', cap, cur, rfl, _, hh, _⟩
    · cases hg
    · simp only [Value.ownBlock, Option.some.injEq] at hg
      subst hg
      exact hk _ _ _ hh (.inl rfl) (.inl rfl)
  · rcases (h.2 x hx).2 with ⟨e, _⟩ | ⟨g', cap, cur, e, _, hh, _⟩
    · rw [e] at hg; cases hg
    · rw [e] at hg
      simp only [Value.ownBlock, Option.some.injEq] at hg
      subst hg
      exact hk _ _ _ hh (.inr rfl) (.inr ⟨x, hx, by rw [e]; rfl⟩)
theorem ToldAt.below {w w' : World} {v : Value} {ts : List (Rq × Value)} (h : ToldAt w v ts) (hb : Below w.heap.size w w') : ToldAt w' v ts :=
  h.keep fun g t cs hg _ _ => hb.block g (Array.getElem?_eq_some_iff.1 hg).1
/-- Nothing of what was told lies under a reader that stands at its start. -/
theorem ToldAt.turned {N : Nat} {K : Nat → Prop} {w w' : World} {R : Nat} {fed : Bool} {s : RS} {b : List UInt8} {bv yv : Value} {wrong used taken : Int} {v : Value} {ts : List (Rq × Value)} (h : ToldAt w v ts) (hR : RdAt N K w R fed s b bv (.slice none 0 0) yv wrong used taken)
    (hT : Turned w.heap.size (foot R bv (.slice none 0 0) yv) w w') : ToldAt w' v ts := by
  refine h.keep fun g t cs hg ht _ => hT.block g (Array.getElem?_eq_some_iff.1 hg).1 ?_
  have hB : Blk w g t cs := hg
  have n1 : t ≠ 50 := by rcases ht with rfl | rfl <;> decide
  have n2 : 5 ≠ t := by rcases ht with rfl | rfl <;> decide
  rintro (hk | hk | hk | hk)
  · subst hk
    have := hR.blk
    unfold Blk at this hB
    rw [this] at hB
    injection hB with h2
    injection h2 with _ h3
    exact n1 h3.symm
  · exact hR.bytes.blk hB n2 hk
  · simp [Value.ownBlock] at hk
  · exact own_blk hR.body hB n2 hk
theorem done_heads {s : RS} {b r : List UInt8} {q : Rq} (hw : s.wf) (h : tellP s b = .done q r) : q.hs.length ≤ 32 := by
  induction s, b using tellP.induct with
  | case1 s b h1 => rw [tell_wait h1] at h; cases h
  | case2 s b e h1 => rw [tell_fail h1] at h; cases h
  | case3 s b q1 r1 h1 =>
    rw [tell_whole h1] at h
    cases h
    have hs : q.hs = s.hs := by
      have h6 := hw.state
      match hst : s.state with
      | 0 => exact absurd hst (whole_len h1).2
      | 1 =>
        rw [step1 s b hst] at h1
        split at h1
        · cases h1
        · cases hl : lineAt s.left b with
          | wait => simp [hl] at h1
          | bad => simp [hl] at h1
          | got l r =>
            rw [hl] at h1
            simp only at h1
            split at h1
            · unfold headedP at h1
              repeat' split at h1
              all_goals cases h1
            · unfold headP at h1
              cases hx : headLn l with
              | none => simp [hx] at h1
              | some x =>
                simp only [hx] at h1
                repeat' split at h1
                all_goals cases h1
      | 2 =>
        rw [step2 s b hst] at h1
        split at h1
        · cases h1
        · cases h1; rfl
      | 3 =>
        rw [step3 s b hst] at h1
        cases hl : lineAt 6 b with
        | wait => simp [hl] at h1
        | bad => simp [hl] at h1
        | got l r =>
          rw [hl] at h1
          simp only at h1
          repeat' split at h1
          all_goals cases h1
      | 4 =>
        rw [step4 s b hst] at h1
        split at h1 <;> cases h1
      | 5 =>
        rw [step5 s b hst] at h1
        cases he : endAt b <;> simp [he] at h1
      | 6 =>
        rw [step6 s b hst] at h1
        cases he : endAt b with
        | wait => simp [he] at h1
        | bad => simp [he] at h1
        | got l r =>
          simp only [he, Out.whole.injEq] at h1
          rw [← h1.1]; rfl
      | n + 7 => omega
    rw [hs]
    have := hw.heads
    have := hw.many
    omega
  | case4 s b s1 r1 h1 ih =>
    rw [tell_on h1] at h
    exact ih (step_wf hw h1) h
theorem all_heads : ∀ b, ∀ q ∈ (allP b).1, q.hs.length ≤ 32 := by
  refine all_induct _ fun b ih => ?_
  cases h : tellP RS.init b with
  | wait s b' => rw [all_wait h]; simp
  | refuse e => rw [all_refuse h]; simp
  | done q r =>
    rw [all_done h]
    intro q1 hq1
    rcases List.mem_cons.1 hq1 with rfl | h2
    · exact done_heads wf_init h
    · exact ih q r h q1 h2
end Go.Proofs.YtnicmdlicbnlgaaGreatDoor
