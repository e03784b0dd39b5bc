/-
  Walks: bytes given to a reader.
-/
import Derived.Test.YtnicmdlicbnlgaaGreatDoorAm
namespace Go.Proofs.YtnicmdlicbnlgaaGreatDoor
open Go.RowKit
set_option linter.unusedVariables false
set_option linter.unusedSimpArgs false

theorem wpList_feed {P : Program} {w : World} {ops : Array Oper} {rest : List Oper} {o : Oper} {a : Act} {Q : Exit → Act → World → Prop} (hgd : o.guard = none) (sl x : Operand) (t u : TypeId)
    (ho : o.op = .call { callee := .builtin .append, args := #[sl, x], argTypes := #[t, u] })
    (i : TypeInfo) (ht : P.underlying t = some (.slice 5)) (hu : P.underlying u = some .string) (hi : P.info? 5 = some i) (hz : i.zero = some (.int .u8 0)) (hsize : i.size = 1) (hby : i.bytes = 1)
    {v : Value} {b : List UInt8} (h : BAt w true v b) (hs : a.eval sl = v) (s : ByteArray) (hx : a.eval x = .string s) (h63 : b.length + s.size ≤ 1000000000000)
    (hK : ∀ v' w', BAt w' true v' (b ++ s.data.toList) → w.grownBy w' v.ownBlock → (v'.ownBlock = v.ownBlock ∨ v'.ownBlock = some w.heap.size) → wpList P ops Q rest (a.put o.dst v') w') : wpList P ops Q (o :: rest) a w := by
  refine wpList_plain hgd fun K hK' => ?_
  obtain ⟨v', w', hr, h2, h3, h4⟩ := run_feed (P := P) w t u o.type i ht hu hi hz hsize hby h s h63
  unfold Oper.wp execOp
  simp only [ho, resolve, invoke, builtin, Sem.run_bind, Sem.run_pure, Result.andThen_ok, List.map_toArray, List.map_cons, List.map_nil, hs, hx, hr]
  exact hK' _ _ (hK v' w' h2 h3 h4)
theorem RdAt.fed_ {N : Nat} {K : Nat → Prop} {w w' : World} {R : Nat} {s : RS} {b : List UInt8} {bv hv yv : Value} {wrong used taken : Int} (h : RdAt N K w R true s b bv hv yv wrong used taken) {bv' : Value} {b' : List UInt8} (hg : w.grownBy w' bv.ownBlock) (hb : BAt w' true bv' b')
    (hat : bv'.ownBlock = bv.ownBlock ∨ bv'.ownBlock = some w.heap.size) : RdAt N K (w'.setCell ⟨R, 1, none⟩ bv') R true s b' bv' hv yv wrong used taken := by
  have hR : w'.heap[R]? = w.heap[R]? := hg.block R h.blk.lt (fun e => h.ne_b e.symm)
  have hB : Blk w' R 50 (rdCells s bv hv yv wrong used taken) := hR.trans h.blk
  have hk : ∀ g, g ≠ R → (w'.setCell ⟨R, 1, none⟩ bv').heap[g]? = w'.heap[g]? := fun g hg => Below.heap_setCell _ _ _ _ hg
  have hB2 := hB.set_ 1 bv'
  have kh : ∀ g, hv.ownBlock = some g → w'.heap[g]? = w.heap[g]? := fun g hgb => hg.block g (h.heads.lt g hgb).2 (fun e => h.bytes.own h.heads (by decide) e.symm hgb)
  have ky : ∀ g, yv.ownBlock = some g → w'.heap[g]? = w.heap[g]? := fun g hgb => hg.block g (h.body.lt g hgb).2 (fun e => h.apart g e.symm hgb)
  refine ⟨hB2, hb.keep fun g hgb => hk g (fun e => hb.blk hB (by decide) (e ▸ hgb)), own_keep h.heads fun g hgb => (hk g (fun e => h.ne_h (e ▸ hgb))).trans (kh g hgb), own_keep h.body fun g hgb => (hk g (fun e => h.ne_y (e ▸ hgb))).trans (ky g hgb), ?_, ?_, ?_⟩
  · intro g hgb hy
    rcases hat with e | e
    · exact h.apart g (e ▸ hgb) hy
    · rw [e] at hgb
      cases hgb
      exact absurd (h.body.lt _ hy).2 (Nat.lt_irrefl _)
  · rintro k (hk | hk | hk | hk)
    · exact h.mine k (.inl hk)
    · rcases hat with e | e
      · exact h.mine k (.inr (.inl (e ▸ hk)))
      · rw [e] at hk
        cases hk
        exact .inr h.low
    · exact h.mine k (.inr (.inr (.inl hk)))
    · exact h.mine k (.inr (.inr (.inr hk)))
  · have := hg.size
    have := h.low
    simp [World.setCell]
    omega
theorem RdAt.grownB {N : Nat} {K : Nat → Prop} {w w' : World} {R : Nat} {fed : Bool} {s : RS} {b : List UInt8} {bv hv yv : Value} {wrong used taken : Int} (h : RdAt N K w R fed s b bv hv yv wrong used taken) (hg : w.grownBy w' bv.ownBlock) : Turned N K w w' :=
  (Turned.refl N K w).grown hg h.low fun k hk => h.mine k (.inr (.inl hk))
theorem grown_at1 {w w' : World} {row : Option Nat} (h : w.grownBy w' row) {R : Nat} (hR : R < w.heap.size) (hne : row ≠ some R) (o : Nat) {v : Value} (hc : w.cell? ⟨R, o, none⟩ = some v) (hf : w.frozen? ⟨R, o, none⟩ = false) :
    w'.cell? ⟨R, o, none⟩ = some v ∧ w'.frozen? ⟨R, o, none⟩ = false := by
  have hb : w'.heap[R]? = w.heap[R]? := h.block R hR (fun e => hne e.symm)
  exact ⟨(World.cell?_of_block (w := w) (a := ⟨R, o, none⟩) hb).trans hc, (World.frozen?_of_block (w := w) (a := ⟨R, o, none⟩) hb).trans hf⟩
theorem BAt.slice {w : World} {fed : Bool} {v : Value} {b : List UInt8} (h : BAt w fed v b) : ∃ A n c, v = .slice A n c := by
  obtain ⟨A, cap, rfl, _⟩ := h
  exact ⟨_, _, _, rfl⟩
set_option maxRecDepth 100000 in
set_option maxHeartbeats 1600000 in
theorem rk_feed (N : Nat) (K : Nat → Prop) (R : Nat) (s : RS) (b : List UInt8) (bv hv yv : Value) (wrong used taken : Int) (x : ByteArray) (w : World) (h : RdAt N K w R true s b bv hv yv wrong used taken) (hx : x.size ≤ 16384) (hb : b.length ≤ 1000000000) :
    Calls Tryz.prog 14 #[.pointer (some ⟨R, 0, none⟩), .string x] w fun e w' => e = .returned (.int .i64 0) ∧ Turned N K w w' ∧ ∃ bv', RdAt N K w' R true s (b ++ x.data.toList) bv' hv yv wrong used taken := by
  obtain ⟨i0, hi, hz0, hz1, hz2⟩ := info_parts info_u8
  obtain ⟨A, n, cap, hbv⟩ := h.bytes.slice
  have c0 : w.cell? ⟨R, 0, none⟩ = some (.bool true) := h.blk.cell 0
  have c1 : w.cell? ⟨R, 1, none⟩ = some bv := h.blk.cell 1
  have f1 := h.blk.frozen 1
  have hRlt : R < w.heap.size := h.blk.lt
  have H := Lib.hid h; clear h
  obtain ⟨Q, hQ⟩ : ∃ Q : Ending → World → Prop, Q = fun e w' => e = .returned (.int .i64 0) ∧ Turned N K w w' ∧ ∃ bv', RdAt N K w' R true s (b ++ x.data.toList) bv' hv yv wrong used taken := ⟨_, rfl⟩
  rw [← hQ]
  have HP : Hid (∀ w' bv', BAt w' true bv' (b ++ x.data.toList) → w.grownBy w' bv.ownBlock → (bv'.ownBlock = bv.ownBlock ∨ bv'.ownBlock = some w.heap.size) → Q (.returned (.int .i64 0)) (w'.setCell ⟨R, 1, none⟩ bv')) := fun w' bv' q1 q2 q3 => by
    rw [hQ]
    have h2 := H.out.fed_ q2 q1 q3
    exact ⟨rfl, Turned.setR h2 (H.out.grownB q2) _ _, bv', h2⟩
  clear hQ
  have HBV := Lib.hid hbv
  subst hbv
  go_enter Tryz.func14, Tryz.ntmps14
  go_wp2_with (at_builtin; refine wpList_feed rfl (.tmp 23) (.tmp 24) 48 9 rfl i0 Tryz.underlying48 Tryz.underlying9 hi hz0 hz1 hz2 H.out.bytes rfl x rfl (by omega) ?_)
  intro v' w' q1 q2 q3
  obtain ⟨A1, n1, cap1, rfl⟩ := q1.slice
  obtain ⟨e1, g1⟩ := grown_at1 q2 hRlt H.out.ne_b 1 c1 f1
  have HF := Lib.hid (HP.out _ _ q1 q2 q3)
  clear q1 q2 q3
  go_wp2_with fail
  exact HF.out
set_option maxRecDepth 100000 in
set_option maxHeartbeats 1600000 in
theorem rk_feed_long (N : Nat) (K : Nat → Prop) (R : Nat) (fed : Bool) (s : RS) (b : List UInt8) (bv hv yv : Value) (wrong used taken : Int) (x : ByteArray) (w : World) (h : RdAt N K w R fed s b bv hv yv wrong used taken) (hx : 16384 < x.size) :
    Calls Tryz.prog 14 #[.pointer (some ⟨R, 0, none⟩), .string x] w fun e w' => e = .returned (.int .i64 3) ∧ w' = w := by
  have c0 : w.cell? ⟨R, 0, none⟩ = some (.bool true) := h.blk.cell 0
  clear h
  go_enter Tryz.func14, Tryz.ntmps14
  go_wp2_with fail
  go_ret
  exact ⟨rfl, rfl⟩
end Go.Proofs.YtnicmdlicbnlgaaGreatDoor
