/-
  Walks: a reader takes bytes of the body.
-/
import Derived.Test.YtnicmdlicbnlgaaGreatDoorRk
import Derived.Deep.RegionLaw
namespace Go.Proofs.YtnicmdlicbnlgaaGreatDoor
open Go.RowKit
set_option linter.unusedVariables false
set_option linter.unusedSimpArgs false

theorem info_u8 : (Tryz.prog.info? 5).map (fun i => (i.zero, i.size, i.bytes)) = some (some (.int .u8 0), 1, 1) := by kernel_rfl
theorem oneCell_u8 (l : List UInt8) : ∀ u ∈ u8s l, u.oneCell' = true := by
  intro u hu
  obtain ⟨b, _, rfl⟩ := List.mem_map.1 hu
  rfl
theorem BAt.take {w : World} {fed : Bool} {A : Option Addr} {n cap : Nat} {b : List UInt8} (h : BAt w fed (.slice A n cap) b) (k : Nat) (hk : k ≤ b.length) : Reads w w.heap.size 1 A k (u8s (b.take k)) := by
  obtain ⟨A', cap', e, h1, h2, h3, h4⟩ := h
  injection e with e1 e2 e3
  subst e1; subst e2; subst e3
  refine ⟨by simp [u8s]; omega, fun hp => ?_⟩
  cases A with
  | none => have := h3 rfl; omega
  | some a =>
    obtain ⟨g, off, cur, fz, rfl, c, d, e, f⟩ := h4 a rfl
    refine ⟨_, rfl, (Array.getElem?_eq_some_iff.1 c).1, fun j u hu => ?_⟩
    rw [Addr.add_lit, cell_of_row w g (off + j) cur _ _ c]
    have hj : j < k := by have := (List.getElem?_eq_some_iff.1 hu).1; simp [u8s] at this; omega
    have e2 : u8s (b.take k) = (u8s b).take k := by simp [u8s, List.map_take]
    rw [e2, ← e, List.getElem?_take, if_pos hj, List.getElem?_take, if_pos (by omega), List.getElem?_drop] at hu
    simpa using hu
theorem own_slice {w : World} {base : Nat} {e : TypeId} {size : Nat} {v : Value} {n : Nat} {xs : List Value} (h : w.ownsRow base e size v n xs) : ∃ A c, v = .slice A n c := by
  rcases h.2 with ⟨rfl, rfl⟩ | ⟨g, cap, cur, rfl, _⟩
  · exact ⟨none, 0, rfl⟩
  · exact ⟨_, _, rfl⟩
theorem grown_at {w w' : World} {row : Option Nat} (h : w.drew.grownBy w' row) {R : Nat} (hR : R < w.heap.size) (hne : row ≠ some R) (o : Nat) {v : Value} (hc : w.cell? ⟨R, o, none⟩ = some v) (hf : w.frozen? ⟨R, o, none⟩ = false) :
    w'.cell? ⟨R, o, none⟩ = some v ∧ w'.frozen? ⟨R, o, none⟩ = false := by
  have hb : w'.heap[R]? = w.heap[R]? := h.block R hR (fun e => hne e.symm)
  exact ⟨(World.cell?_of_block (w := w) (a := ⟨R, o, none⟩) hb).trans hc, (World.frozen?_of_block (w := w) (a := ⟨R, o, none⟩) hb).trans hf⟩
/-- What taking bytes leaves. -/
def SomePost (N : Nat) (K : Nat → Prop) (w : World) (R : Nat) (fed : Bool) (s : RS) (b : List UInt8) (hv : Value) (used taken : Int) (k : Nat) (en : Ending) (w' : World) : Prop :=
  ∃ (b' : List UInt8) (s' : RS) (bv' yv' : Value) (t' : Int), RdAt N K w' R fed s' b' bv' hv yv' 0 used t' ∧ Turned N K w w' ∧ 0 ≤ t' ∧ t' + b'.length = taken + b.length ∧
    ((b.length < k ∧ en = .returned (.bool false) ∧ b' = b ∧ s' = s) ∨ (k ≤ b.length ∧ en = .returned (.bool true) ∧ b' = b.drop k ∧ s' = { s with body := s.body ++ b.take k }))
set_option maxRecDepth 100000 in
set_option maxHeartbeats 1600000 in
theorem rk_some (N : Nat) (K : Nat → Prop) (R : Nat) (fed : Bool) (s : RS) (b : List UInt8) (bv hv yv : Value) (used taken : Int) (k : Nat) (kk : Int) (w : World) (h : RdAt N K w R fed s b bv hv yv 0 used taken)
    (h0 : 0 ≤ taken) (hT : taken + b.length ≤ 1000000000) (hkk : kk = (k : Int)) (hk : k ≤ 10000000) (hbody : s.body.length ≤ 8192) :
    Calls Tryz.prog 43 #[.pointer (some ⟨R, 0, none⟩), .int .i64 kk] w (SomePost N K w R fed s b hv used taken k) := by
  subst hkk
  obtain ⟨i0, hi, hz0, hz1, hz2⟩ := info_parts info_u8
  obtain ⟨A, cap, hbv, hcap, -, hnone, hform⟩ := h.bytes
  subst hbv
  have c1 : w.cell? ⟨R, 1, none⟩ = some (.slice A b.length cap) := h.blk.cell 1
  have f1 := h.blk.frozen 1
  have f12 := h.blk.frozen 12
  have f15 := h.blk.frozen 15
  have c12 : w.cell? ⟨R, 12, none⟩ = some yv := h.blk.cell 12
  have c15 : w.cell? ⟨R, 15, none⟩ = some (.int .i64 taken) := h.blk.cell 15
  have hRlt : R < w.heap.size := h.blk.lt
  have HBD := Lib.hid hbody; clear hbody
  have H := Lib.hid h; clear h
  generalize hQ : SomePost N K w R fed s b hv used taken k = Q
  by_cases hlt : b.length < k
  · have hp : Q (.returned (.bool false)) w := by
      rw [← hQ]
      exact ⟨b, s, _, _, taken, H.out, Turned.refl _ _ _, h0, rfl, .inl ⟨hlt, rfl, rfl, rfl⟩⟩
    have HP := Lib.hid hp; clear hp hQ
    go_enter Tryz.func43, Tryz.ntmps43
    go_wp2_with fail
    exact HP.out
  · have hown := Lib.hid H.out.body
    have hrd := Lib.hid (H.out.bytes.take k (by omega))
    have HQ := Lib.hid hQ; clear hQ
    have post : ∀ (v' : Value) (w' : World), w'.ownsRow 0 5 1 v' (s.body.length + k) (u8s s.body ++ u8s (b.take k)) → w.grownBy w' yv.ownBlock → (v'.ownBlock = yv.ownBlock ∨ v'.ownBlock = some w.heap.size) →
        Q (.returned (.bool true)) (((w'.setCell ⟨R, 12, none⟩ v').setCell ⟨R, 1, none⟩ (cutV A b.length cap k)).setCell ⟨R, 15, none⟩ (.int .i64 (taken + (k : Int)))) := by
      intro v' w' ho hg hat
      have hlen : (s.body ++ b.take k).length = s.body.length + k := by simp; omega
      have h1 := H.out.setY (body' := s.body ++ b.take k) hg (by rw [hlen, u8s_append]; exact ho) hat
      have h2 := h1.skip k (by omega)
      rw [← HQ.out]
      have hl2 : (b.drop k).length = b.length - k := List.length_drop
      refine ⟨b.drop k, { s with body := s.body ++ b.take k }, _, _, _, h2, ?_, by omega, by rw [hl2]; omega, .inr ⟨by omega, rfl, rfl, rfl⟩⟩
      exact Turned.setR h2 (Turned.setR h2 (Turned.setR h2 (H.out.grownY hg) _ _) _ _) _ _
    have HPost := Lib.hid post; clear post
    cases A with
    | none =>
      have hc0 := hnone rfl
      clear hform hnone
      subst hc0
      have hk0 : k = 0 := by omega
      subst hk0
      generalize hnn : b.length = n at *
      have HNN := Lib.hid hnn; clear hnn
      obtain rfl : n = 0 := by omega
      go_enter Tryz.func43, Tryz.ntmps43
      go_wp2_with fail
      go_region_law (refine step_append_any _ rfl (.tmp 16) (.tmp 22) 48 rfl 0 5 i0 (.int .u8 0) 1 1 Tryz.underlying48 hi hz0 hz1 hz2 rfl (by decide) yv s.body.length (u8s s.body) (by simp [Act.eval, Act.put]) hown.out w.heap.size none 0 0 (u8s (b.take 0)) (by simp [Act.eval, Act.put]) hrd.out (oneCell_u8 _) (by have := HBD.out; simp only [maxLen]; omega) (by have := HBD.out; omega) (Nat.zero_le _) ?_; intro v' w' hown1 hgrow1 hat1; obtain ⟨A1, c1', rfl⟩ := own_slice hown1; obtain ⟨e12, g12⟩ := grown_at hgrow1 hRlt H.out.ne_y 12 c12 f12; obtain ⟨e1, g1⟩ := grown_at hgrow1 hRlt H.out.ne_y 1 c1 f1; obtain ⟨e15, g15⟩ := grown_at hgrow1 hRlt H.out.ne_y 15 c15 f15; have HO1 := Lib.hid hown1; have HG1 := Lib.hid hgrow1; have HA1 := Lib.hid hat1; clear hown1 hgrow1 hat1)
      go_wp2_with fail
      all_goals
        refine (rk_skip R _ 0 0 0 _ taken _ rfl (by omega) (by omega) h0 (by omega) (set_ne _ _ _ _ _ (by decide) e1) (set_fr _ _ _ _ _ g1) (set_ne _ _ _ _ _ (by decide) e15) (set_fr _ _ _ _ _ g15)).mono ?_
        rintro en w2 ⟨rfl, rfl⟩
        go_wp2_with fail
        have hfin := HPost.out _ _ HO1.out ⟨HG1.out.os, HG1.out.tape, HG1.out.output, HG1.out.size, HG1.out.block⟩ HA1.out
        simpa using hfin
    | some a =>
      obtain ⟨g, off, cur, fz, rfl, -⟩ := hform a rfl
      clear hform hnone
      have hkc : k ≤ cap := by omega
      go_enter Tryz.func43, Tryz.ntmps43
      go_wp2_with fail
      go_region_law (refine step_append_any _ rfl (.tmp 16) (.tmp 22) 48 rfl 0 5 i0 (.int .u8 0) 1 1 Tryz.underlying48 hi hz0 hz1 hz2 rfl (by decide) yv s.body.length (u8s s.body) (by simp [Act.eval, Act.put]) hown.out w.heap.size (some ⟨g, off, none⟩) k cap (u8s (b.take k)) (by simp [Act.eval, Act.put]) hrd.out (oneCell_u8 _) (by have := HBD.out; simp only [maxLen]; omega) (by have := HBD.out; omega) (Nat.zero_le _) ?_; intro v' w' hown1 hgrow1 hat1; obtain ⟨A1, c1', rfl⟩ := own_slice hown1; obtain ⟨e12, g12⟩ := grown_at hgrow1 hRlt H.out.ne_y 12 c12 f12; obtain ⟨e1, g1⟩ := grown_at hgrow1 hRlt H.out.ne_y 1 c1 f1; obtain ⟨e15, g15⟩ := grown_at hgrow1 hRlt H.out.ne_y 15 c15 f15; have HO1 := Lib.hid hown1; have HG1 := Lib.hid hgrow1; have HA1 := Lib.hid hat1; clear hown1 hgrow1 hat1)
      go_wp2_with fail
      all_goals
        refine (rk_skip R _ b.length cap k _ taken _ rfl (by omega) (by omega) h0 (by omega) (set_ne _ _ _ _ _ (by decide) e1) (set_fr _ _ _ _ _ g1) (set_ne _ _ _ _ _ (by decide) e15) (set_fr _ _ _ _ _ g15)).mono ?_
        rintro en w2 ⟨rfl, rfl⟩
        go_wp2_with fail
        exact HPost.out _ _ HO1.out ⟨HG1.out.os, HG1.out.tape, HG1.out.output, HG1.out.size, HG1.out.block⟩ HA1.out
end Go.Proofs.YtnicmdlicbnlgaaGreatDoor
