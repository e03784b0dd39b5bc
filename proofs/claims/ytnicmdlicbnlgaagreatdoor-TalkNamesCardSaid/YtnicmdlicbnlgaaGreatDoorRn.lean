/-
  Walks: a reader's line.
-/
import Derived.Test.YtnicmdlicbnlgaaGreatDoorRk
import Derived.Test.YtnicmdlicbnlgaaGreatDoorRl
import Derived.Test.YtnicmdlicbnlgaaGreatDoorEnv
import Derived.Test.YtnicmdlicbnlgaaGreatDoorShelf
namespace Go.Proofs.YtnicmdlicbnlgaaGreatDoor
open Go.RowKit
set_option linter.unusedVariables false
set_option linter.unusedSimpArgs false

/-- What the library's variables hold, with the error that strconv hands out. -/
structure EnvZ (w : World) : Prop where
  env : Env w
  syn : ∃ te pe, w.cell? ⟨5, 0, none⟩ = some (.iface te pe)
theorem EnvZ.below {w w' : World} (h : EnvZ w) (hb : Below w.heap.size w w') : EnvZ w' := by
  obtain ⟨h1, ⟨te, pe, h2⟩⟩ := h
  exact ⟨h1.below hb, te, pe, (hb.cell (p := ⟨5, 0, none⟩) (lt_of_cell h2)).trans h2⟩

/-- .. and have held since a world of B blocks. -/
def EnvAt (B : Nat) (w : World) : Prop := ∃ w0 : World, w0.heap.size = B ∧ EnvZ w0 ∧ Below B w0 w
theorem EnvAt.env {B : Nat} {w : World} (h : EnvAt B w) : EnvZ w := by
  obtain ⟨w0, rfl, h1, h2⟩ := h
  exact h1.below h2
theorem EnvAt.start {w : World} (h : EnvZ w) : EnvAt w.heap.size w := ⟨w, rfl, h, Below.refl _ _⟩
theorem EnvAt.below {B B' : Nat} {w w' : World} (h : EnvAt B w) (hb : Below B' w w') (hB : B ≤ B') : EnvAt B w' := by
  obtain ⟨w0, h0, h1, h2⟩ := h
  exact ⟨w0, h0, h1, h2.trans (hb.mono hB)⟩
theorem EnvAt.le {B : Nat} {w : World} (h : EnvAt B w) : B ≤ w.heap.size := by
  obtain ⟨w0, h0, h1, h2⟩ := h
  have := h2.size
  omega
theorem EnvAt.turned {B N : Nat} {K : Nat → Prop} {w w' : World} (h : EnvAt B w) (ht : Turned N K w w') (hN : B ≤ N) (hK : ∀ k, K k → B ≤ k) : EnvAt B w' :=
  h.below (ht.to_below hN hK) (Nat.le_refl _)
def natsOf (b : List UInt8) : List Int := b.map fun c => (c.toNat : Int)
theorem bytesOf_nats (b : List UInt8) : Lib.bytesOf (natsOf b) = b := by
  unfold Lib.bytesOf natsOf
  rw [List.map_map]
  conv => rhs; rw [← List.map_id b]
  congr 1
  funext c
  simp
theorem index_short (b : List UInt8) (h : b.length < 2) : Lib.index b [13, 10] = -1 := by
  rw [index_line]
  match b, h with
  | [], _ => rfl
  | [x], _ => rfl
theorem ix_index (fed : Bool) (A : Option Addr) (n cap : Nat) (b : List UInt8) (g : Nat) (w : World) (h : BAt w fed (.slice A n cap) b) (he : Env w) (hn : b.length ≤ 1000000000)
    (h0 : w.cell? ⟨g, 0, none⟩ = some (.int .u8 13)) (h1 : w.cell? ⟨g, 1, none⟩ = some (.int .u8 10)) :
    Calls Tryz.prog 96 #[.slice A n cap, .slice (some ⟨g, 0, none⟩) 2 2] w fun e w' => e = .returned (.int .i64 (Lib.index b [13, 10])) ∧ ∃ q, w' = w.drewN q := by
  obtain ⟨rfl, hc, hm⟩ := h.len
  obtain ⟨m, hmm⟩ := he.most
  by_cases hs : b.length < 2
  · have := Tryz.bytes_Index_longer A (some ⟨g, 0, none⟩) b.length cap 2 2 w (Nat.le_refl _) hs (by omega)
    rw [index_short b hs]
    exact this.mono fun e w' ⟨h1, h2⟩ => ⟨h1, 0, h2⟩
  · have hb := h.byte (i := 0) (by omega)
    obtain ⟨g', off, rfl, _⟩ := hb
    have := Tryz.bytes_Index_at ⟨g', off, none⟩ ⟨g, 0, none⟩ b.length cap 2 2 (natsOf b) (natsOf [13, 10]) m w (by simp [natsOf]) rfl
      (by intro x hx; obtain ⟨c, _, rfl⟩ := List.mem_map.1 hx; have := c.toNat_lt; omega) (by intro x hx; obtain ⟨c, _, rfl⟩ := List.mem_map.1 hx; have := c.toNat_lt; omega)
      (by
        intro i hi
        obtain ⟨g2, off2, e, hcell⟩ := h.byte hi
        obtain ⟨rfl, rfl⟩ : g' = g2 ∧ off = off2 := by simpa using e
        rw [Addr.add_lit, hcell]
        simp [natsOf, List.getD, hi])
      (by
        intro i hi
        rw [Addr.add_lit, Nat.zero_add]
        match i, hi with
        | 0, _ => exact h0
        | 1, _ => exact h1) hc (by omega) (by omega) hmm
    rw [bytesOf_nats, bytesOf_nats] at this
    exact this

theorem crlf (w : World) : ∃ W, (convert 48 48 (.slice (some ⟨w.heap.size, 0, none⟩) 2 2)).run Tryz.prog (w.alloc (.cells #[.int .u8 13, .int .u8 10] 5)) = .ok (.slice (some ⟨w.heap.size, 0, none⟩) 2 2) W ∧ Below w.heap.size w W ∧
    W.cell? ⟨w.heap.size, 0, none⟩ = some (.int .u8 13) ∧ W.cell? ⟨w.heap.size, 1, none⟩ = some (.int .u8 10) := by
  have hsh : (w.alloc (.cells #[.int .u8 13, .int .u8 10] 5)).shape? w.heap.size = some (5, 2) := by
    simp [World.shape?, World.alloc, World.drew, -World.alloc_eq, -World.drew_eq]
  refine ⟨(w.alloc (.cells #[.int .u8 13, .int .u8 10] 5)).freeze ⟨w.heap.size, 2, none⟩ 1, ?_, Lib.below_freeze ((Below.refl _ w).alloc (Nat.le_refl _) _) (p := ⟨w.heap.size, _, none⟩) (Nat.le_refl _) 1, ?_, ?_⟩
  · simp [convert, run_underlying Tryz.underlying48, run_underlying Tryz.underlying5, markStringish, hsh, Result.andThen]
  · simp [World.cell?, World.freeze, World.alloc, -World.alloc_eq, Array.getElem_modify_self]
  · simp [World.cell?, World.freeze, World.alloc, -World.alloc_eq, Array.getElem_modify_self]
/-- What a line tells. -/
def LinePost (N : Nat) (K : Nat → Prop) (w : World) (R : Nat) (fed : Bool) (s : RS) (b : List UInt8) (hv yv : Value) (used taken e : Int) (o : Ln) (en : Ending) (w' : World) : Prop :=
  ∃ (b' : List UInt8) (bv' : Value) (wr t' : Int), RdAt N K w' R fed s b' bv' hv yv wr used t' ∧ Turned N K w w' ∧ 0 ≤ t' ∧ t' + b'.length = taken + b.length ∧
    (match o with
    | .wait => en = .returned (.tuple #[.string ⟨#[]⟩, .bool false]) ∧ b' = b ∧ wr = 0
    | .bad => en = .returned (.tuple #[.string ⟨#[]⟩, .bool false]) ∧ wr = e
    | .got l r => en = .returned (.tuple #[.string ⟨l.toArray⟩, .bool true]) ∧ b' = r ∧ wr = 0)
set_option maxRecDepth 100000 in
set_option maxHeartbeats 1600000 in
theorem rk_line (N : Nat) (K : Nat → Prop) (R : Nat) (fed : Bool) (s : RS) (b : List UInt8) (bv hv yv : Value) (used taken e : Int) (lim : Nat) (w : World) (h : RdAt N K w R fed s b bv hv yv 0 used taken) (he : Env w)
    (h0 : 0 ≤ taken) (hT : taken + b.length ≤ 1000000000) (hlim : lim ≤ 1000000) :
    Calls Tryz.prog 64 #[.pointer (some ⟨R, 0, none⟩), .int .i64 lim, .int .i64 e] w (LinePost N K w R fed s b hv yv used taken e (lineAt lim b)) := by
  obtain ⟨A, cap, hbv, hcap, -⟩ := h.bytes
  subst hbv
  have c1 : w.cell? ⟨R, 1, none⟩ = some (.slice A b.length cap) := h.blk.cell 1
  have f1 := h.blk.frozen 1
  have f13 := h.blk.frozen 13
  have f15 := h.blk.frozen 15
  have c13 : w.cell? ⟨R, 13, none⟩ = some (.int .i64 0) := h.blk.cell 13
  have c15 : w.cell? ⟨R, 15, none⟩ = some (.int .i64 taken) := h.blk.cell 15
  have hRlt : R < w.heap.size := h.blk.lt
  have H := Lib.hid h; clear h
  have pW : ∀ w', lineAt lim b = .wait → Below w.heap.size w w' → LinePost N K w R fed s b hv yv used taken e (lineAt lim b) (.returned (.tuple #[.string ⟨#[]⟩, .bool false])) w' := fun w' hl hb => by
    rw [hl]
    exact ⟨b, _, 0, taken, H.out.below hb, Turned.of_below hb H.out.low, h0, rfl, rfl, rfl, rfl⟩
  have pB : ∀ w', lineAt lim b = .bad → Below w.heap.size w w' → LinePost N K w R fed s b hv yv used taken e (lineAt lim b) (.returned (.tuple #[.string ⟨#[]⟩, .bool false])) (w'.setCell ⟨R, 13, none⟩ (.int .i64 e)) := fun w' hl hb => by
    rw [hl]
    exact ⟨b, _, e, taken, (H.out.below hb).wrong_ e, Turned.setR H.out (Turned.of_below hb H.out.low) _ _, h0, rfl, rfl, rfl⟩
  have pG : ∀ w' (l r : List UInt8), lineAt lim b = .got l r → Below w.heap.size w w' → LinePost N K w R fed s b hv yv used taken e (lineAt lim b) (.returned (.tuple #[.string ⟨l.toArray⟩, .bool true])) ((w'.setCell ⟨R, 1, none⟩ (cutV A b.length cap (l.length + 2))).setCell ⟨R, 15, none⟩ (.int .i64 (taken + ((l.length + 2 : Nat) : Int)))) := fun w' l r hl hb => by
    have hbl := (lineAt_len hl).1
    have hdrop : b.drop (l.length + 2) = r := by rw [hbl]; simp
    have hlen : b.length = l.length + 2 + r.length := by rw [hbl]; simp; omega
    rw [hl]
    have := (H.out.below hb).skip (l.length + 2) (by omega)
    rw [hdrop] at this
    refine ⟨r, _, 0, _, this, ?_, by omega, by omega, rfl, rfl, rfl⟩
    exact Turned.setR H.out (Turned.setR H.out (Turned.of_below hb H.out.low) _ _) _ _
  have PW := Lib.hid pW; clear pW
  have PB := Lib.hid pB; clear pB
  have PG := Lib.hid pG; clear pG
  generalize hQ : LinePost N K w R fed s b hv yv used taken e (lineAt lim b) = Q at PW PB PG ⊢
  clear hQ
  obtain ⟨W1, hcv, hB1, n0, n1⟩ := crlf w
  have cc1 := (hB1.cell (p := ⟨R, 1, none⟩) hRlt).trans c1
  have cc13 := (hB1.cell (p := ⟨R, 13, none⟩) hRlt).trans c13
  have cc15 := (hB1.cell (p := ⟨R, 15, none⟩) hRlt).trans c15
  have ff1 := (hB1.frozen (p := ⟨R, 1, none⟩) hRlt).trans f1
  have ff13 := (hB1.frozen (p := ⟨R, 13, none⟩) hRlt).trans f13
  have ff15 := (hB1.frozen (p := ⟨R, 15, none⟩) hRlt).trans f15
  have HH := Lib.hid he; clear he
  have HB1 := Lib.hid hB1; clear hB1
  cases hl : lineP b with
  | none =>
    have hix : Lib.index b [13, 10] = -1 := by rw [index_line, hl]
    have HI := Lib.hid hix; clear hix
    have HL := Lib.hid hl; clear hl
    by_cases hb0 : b.length = 0
    · have hbn : b = [] := List.eq_nil_of_length_eq_zero hb0
      have hw : lineAt lim b = .wait := by rw [hbn]; simp [lineAt, lineP, thereP]
      have HW := Lib.hid hw; clear hw
      have HN := Lib.hid hbn; clear hbn
      generalize hnn : b.length = n at c1 cc1 hb0 hT hcap
      have HNN := Lib.hid hnn; clear hnn
      subst hb0
      go_enter Tryz.func64, Tryz.ntmps64
      go_wp2_with fail
      refine (ix_index fed A _ cap b _ _ (HNN.out ▸ (H.out.below HB1.out).bytes) (HH.out.below HB1.out) (by have := HNN.out; omega) n0 n1).mono ?_
      rw [HI.out]
      rintro en w1 ⟨rfl, q, rfl⟩
      go_wp2_with fail
      exact PW.out _ HW.out (bl_drew HB1.out _)
    · obtain ⟨g, off, hA, hcell⟩ := H.out.bytes.byte (i := b.length - 1) (by omega)
      subst hA
      have hglt : g < w.heap.size := lt_of_cell hcell
      have hgl : b.getLast? = some (b[b.length - 1]'(by omega)) := by rw [List.getLast?_eq_getElem?, List.getElem?_eq_getElem]
      generalize b[b.length - 1]'(by omega) = c at hcell hgl
      have hth : thereP b = if c = 13 then b.length - 1 else b.length := by unfold thereP; rw [hgl]; simp
      clear hgl
      have hlA : lineAt lim b = if lim < thereP b then .bad else .wait := by unfold lineAt; rw [HL.out]
      rw [hth] at hlA
      clear hth
      generalize hnn : b.length = n at *
      have HNN := Lib.hid hnn; clear hnn
      obtain ⟨k, rfl⟩ : ∃ k, n = k + 1 := ⟨n - 1, by omega⟩
      have hcell' : W1.cell? ⟨g, off + k, none⟩ = some (.int .u8 (c.toNat : Int)) := (HB1.out.cell (p := ⟨g, off + k, none⟩) hglt).trans (by rw [← hcell]; rfl)
      clear hcell hb0
      by_cases hc13 : (c.toNat : Int) = 13
      · rw [if_pos (byte13 hc13)] at hlA
        by_cases hlim2 : (lim : Int) < (k : Int)
        · rw [if_pos (by omega)] at hlA
          have HA := Lib.hid hlA; clear hlA
          go_enter Tryz.func64, Tryz.ntmps64
          go_wp2_with fail
          refine (ix_index fed _ _ cap b _ _ (HNN.out ▸ (H.out.below HB1.out).bytes) (HH.out.below HB1.out) (by have := HNN.out; omega) n0 n1).mono ?_
          rw [HI.out]
          rintro en w1 ⟨rfl, q, rfl⟩
          go_wp2_with fail
          refine (rk_fail _ _ _ _ (by simpa using cc13) (by simpa using ff13)).mono ?_
          rintro en w2 ⟨rfl, rfl⟩
          go_wp2_with fail
          exact PB.out _ HA.out (bl_drew HB1.out _)
        · rw [if_neg (by omega)] at hlA
          have HA := Lib.hid hlA; clear hlA
          go_enter Tryz.func64, Tryz.ntmps64
          go_wp2_with fail
          refine (ix_index fed _ _ cap b _ _ (HNN.out ▸ (H.out.below HB1.out).bytes) (HH.out.below HB1.out) (by have := HNN.out; omega) n0 n1).mono ?_
          rw [HI.out]
          rintro en w1 ⟨rfl, q, rfl⟩
          go_wp2_with fail
          exact PW.out _ HA.out (bl_drew HB1.out _)
      · rw [if_neg (fun h : c = 13 => hc13 (by rw [h]; rfl))] at hlA
        by_cases hlim2 : (lim : Int) < (k : Int) + 1
        · rw [if_pos (by omega)] at hlA
          have HA := Lib.hid hlA; clear hlA
          go_enter Tryz.func64, Tryz.ntmps64
          go_wp2_with fail
          refine (ix_index fed _ _ cap b _ _ (HNN.out ▸ (H.out.below HB1.out).bytes) (HH.out.below HB1.out) (by have := HNN.out; omega) n0 n1).mono ?_
          rw [HI.out]
          rintro en w1 ⟨rfl, q, rfl⟩
          go_wp2_with fail
          refine (rk_fail _ _ _ _ (by simpa using cc13) (by simpa using ff13)).mono ?_
          rintro en w2 ⟨rfl, rfl⟩
          go_wp2_with fail
          exact PB.out _ HA.out (bl_drew HB1.out _)
        · rw [if_neg (by omega)] at hlA
          have HA := Lib.hid hlA; clear hlA
          go_enter Tryz.func64, Tryz.ntmps64
          go_wp2_with fail
          refine (ix_index fed _ _ cap b _ _ (HNN.out ▸ (H.out.below HB1.out).bytes) (HH.out.below HB1.out) (by have := HNN.out; omega) n0 n1).mono ?_
          rw [HI.out]
          rintro en w1 ⟨rfl, q, rfl⟩
          go_wp2_with fail
          exact PW.out _ HA.out (bl_drew HB1.out _)
  | some x =>
    obtain ⟨l, r⟩ := x
    have hix : Lib.index b [13, 10] = (l.length : Int) := by rw [index_line, hl]
    have HI := Lib.hid hix; clear hix
    have hlb := lineP_len hl
    have hlen : l.length + 2 ≤ b.length := by rw [hlb]; simp
    have htake : b.take l.length = l := by rw [hlb]; simp
    have hlA : lineAt lim b = if lim < l.length then .bad else .got l r := by unfold lineAt; rw [hl]
    clear hlb hl
    have HTK := Lib.hid htake; clear htake
    by_cases hbig : (lim : Int) < (l.length : Int)
    · rw [if_pos (by omega)] at hlA
      have HA := Lib.hid hlA; clear hlA
      go_enter Tryz.func64, Tryz.ntmps64
      go_wp2_with fail
      refine (ix_index fed A _ cap b _ _ (H.out.below HB1.out).bytes (HH.out.below HB1.out) (by omega) n0 n1).mono ?_
      rw [HI.out]
      rintro en w1 ⟨rfl, q, rfl⟩
      go_wp2_with fail
      refine (rk_fail _ _ _ _ (by simpa using cc13) (by simpa using ff13)).mono ?_
      rintro en w2 ⟨rfl, rfl⟩
      go_wp2_with fail
      exact PB.out _ HA.out (bl_drew HB1.out _)
    · rw [if_neg (by omega)] at hlA
      have HA := Lib.hid hlA; clear hlA
      obtain ⟨g, off, hA, -⟩ := H.out.bytes.byte (i := 0) (by omega)
      subst hA
      have hcap0 : 0 < cap := by omega
      go_enter Tryz.func64, Tryz.ntmps64
      go_wp2_with fail
      refine (ix_index fed _ _ cap b _ _ (H.out.below HB1.out).bytes (HH.out.below HB1.out) (by omega) n0 n1).mono ?_
      rw [HI.out]
      rintro en w1 ⟨rfl, q, rfl⟩
      have hst : ∀ c, (convert 48 9 (.slice (some ⟨g, off, none⟩) l.length c)).run Tryz.prog (W1.drewN q) = .ok (.string ⟨l.toArray⟩) (W1.drewN q) := fun c => by
        have := at_string (P := Tryz.prog) (H.out.below (bl_drew HB1.out q)).bytes l.length c (by omega) 48 9 Tryz.underlying48 Tryz.underlying5 Tryz.underlying9
        rw [HTK.out] at this
        exact this
      go_wp2_with fail
      refine (rk_skip R _ b.length cap (l.length + 2) _ taken _ (by omega) (by omega) (by omega) h0 (by omega) (by simpa using cc1) (by simpa using ff1) (by simpa using cc15) (by simpa using ff15)).mono ?_
      rintro en w2 ⟨rfl, rfl⟩
      go_wp2_with fail
      exact PG.out _ l r HA.out (bl_drew HB1.out _)
end Go.Proofs.YtnicmdlicbnlgaaGreatDoor
