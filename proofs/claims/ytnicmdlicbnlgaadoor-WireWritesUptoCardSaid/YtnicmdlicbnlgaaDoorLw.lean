/-
  Walk: the law WireWrites, out of the contracts.
-/
import Derived.Test.YtnicmdlicbnlgaaDoorWw
import Derived.Test.YtnicmdlicbnlgaaDoorRw
import Derived.Test.YtnicmdlicbnlgaaDoorAn
import Derived.Test.YtnicmdlicbnlgaaDoorSm
import Derived.WalkKit
import Derived.WalkSpells
import Derived.WalkLawsBesides
import Derived.BigQuiet
import Derived.Deep.QuietTactic
import Derived.Lib.Hide
namespace Go.Proofs.YtnicmdlicbnlgaaDoor
open Go.RowKit
set_option linter.unusedVariables false
set_option linter.unusedSimpArgs false

theorem info_head : (Tryd.prog.info? 37).map (fun i => (i.zero, i.size, i.bytes)) = some (some (.agg #[.string ⟨#[]⟩, .string ⟨#[]⟩]), 2, 32) := by kernel_rfl

theorem not_long {n k : Nat} (h : false = (decide (100 < n) || decide (20000 < k))) : n ≤ 100 ∧ k ≤ 20000 := by
  have h := h.symm
  simp only [Bool.or_eq_false_iff, decide_eq_false_iff_not] at h
  omega
def hdCells (hs : List Hd) : List Value := hs.flatMap fun h => [.string h.n, .string h.v]
theorem hdCells_len (hs : List Hd) : (hdCells hs).length = hs.length * 2 := by
  unfold hdCells
  induction hs with
  | nil => rfl
  | cons h hs ih => simp only [List.flatMap_cons, List.length_append, List.length_cons, List.length_nil, ih]; omega
theorem hdCells_get (hs : List Hd) (i : Nat) (h : i < hs.length) : (hdCells hs)[i * 2]? = some (.string hs[i].n) ∧ (hdCells hs)[i * 2 + 1]? = some (.string hs[i].v) := by
  unfold hdCells
  induction hs generalizing i with
  | nil => simp at h
  | cons x hs ih =>
    cases i with
    | zero => exact ⟨rfl, rfl⟩
    | succ i =>
      have := ih i (by simpa using h)
      simp only [List.flatMap_cons, Nat.succ_mul, List.getElem_cons_succ]
      exact this
theorem hd_add (b off j : Nat) : (⟨b, off, none⟩ : Addr).add j = ⟨b, off + j, none⟩ := by
  simp only [Addr.add]
  split
  · rename_i h; subst h; rfl
  · rfl
theorem heads_news {w : World} {b off : Nat} {hs : List Hd} (h : HeadsAt w b off hs) : ∀ (j : Nat) (u : Value), (hdCells hs)[j]? = some u → w.cell? ((⟨b, off, none⟩ : Addr).add j) = some u := by
  intro j u hj
  have hl : j < hs.length * 2 := by
    rw [← hdCells_len]
    exact (List.getElem?_eq_some_iff.1 hj).1
  rw [hd_add]
  obtain ⟨i, rfl | rfl⟩ : ∃ i, j = i * 2 ∨ j = i * 2 + 1 := ⟨j / 2, by omega⟩
  · have hi : i < hs.length := by omega
    rw [(hdCells_get hs i hi).1] at hj
    cases hj
    exact (h i hi).1
  · have hi : i < hs.length := by omega
    rw [(hdCells_get hs i hi).2] at hj
    cases hj
    exact (h i hi).2
theorem oneCell_hd (hs : List Hd) : ∀ u ∈ hdCells hs, u.oneCell' = true := by
  intro u hu
  obtain ⟨h, _, h2⟩ := List.mem_flatMap.1 hu
  rcases List.mem_cons.1 h2 with rfl | h3
  · rfl
  · rw [List.mem_singleton.1 h3]; rfl
theorem own_heads {w : World} {base : Nat} {v : Value} {n : Nat} {hs : List Hd} (h : w.ownsRow base 37 2 v n (hdCells hs)) (h0 : 0 < n) :
    ∃ g cp, v = .slice (some ⟨g, 0, none⟩) n cp ∧ n ≤ cp ∧ base ≤ g ∧ g < w.heap.size ∧ HeadsAt w g 0 hs := by
  have hc := fun g hg => h.cells (g := g) hg
  have hlt := h.lt
  obtain ⟨h1, h2⟩ := h
  rcases h2 with ⟨h2, h3⟩ | ⟨g, cap, cur, h2, hg, _, hcap, _⟩
  · omega
  · subst h2
    refine ⟨g, cap, rfl, hcap, hg, (hlt g rfl).2, fun i hi => ?_⟩
    have e1 := hc g rfl (i * 2) _ (hdCells_get hs i hi).1
    have e2 := hc g rfl (i * 2 + 1) _ (hdCells_get hs i hi).2
    rw [hd_add] at e1 e2
    exact ⟨e1, e2⟩

theorem head_le {hs : List Hd} (k : Nat) (h : headsSum hs ≤ k) : ∀ x ∈ hs, x.n.size ≤ k ∧ x.v.size ≤ k := by
  intro x hx
  have : x.n.size + x.v.size ≤ headsSum hs := by
    unfold headsSum
    clear h
    induction hs with
    | nil => cases hx
    | cons y hs ih =>
      rcases List.mem_cons.1 hx with rfl | h2
      · simp
      · have := ih h2
        simp only [List.map_cons, List.sum_cons]
        omega
  omega
theorem HeadsAt.set {w : World} {b off : Nat} {hs : List Hd} (h : HeadsAt w b off hs) {a : Addr} (ha : b ≠ a.block) (u : Value) : HeadsAt (w.setCell a u) b off hs := fun i hi =>
  ⟨(World.cell?_of_block (w := w) (a := ⟨b, off + i * 2, none⟩) (Below.heap_setCell w a u b ha)).trans (h i hi).1, (World.cell?_of_block (w := w) (a := ⟨b, off + i * 2 + 1, none⟩) (Below.heap_setCell w a u b ha)).trans (h i hi).2⟩
/-- What lies there of the two requests: one in block B, one in block C. -/
structure Two (m p rb : ByteArray) (close : Bool) (v1 v2 : Value) (g b off B C : Nat) (hs : List Hd) (w : World) : Prop where
  q0 : w.cell? ⟨B, 0, none⟩ = some (.string m)
  q1 : w.cell? ⟨B, 1, none⟩ = some (.string p)
  q2 : w.cell? ⟨B, 2, none⟩ = some v1
  q3 : w.cell? ⟨B, 3, none⟩ = some (.string rb)
  q4 : w.cell? ⟨B, 4, none⟩ = some (.bool close)
  r0 : w.cell? ⟨C, 0, none⟩ = some (.string m)
  r1 : w.cell? ⟨C, 1, none⟩ = some (.string p)
  r2 : w.cell? ⟨C, 2, none⟩ = some v2
  r3 : w.cell? ⟨C, 3, none⟩ = some (.string rb)
  r4 : w.cell? ⟨C, 4, none⟩ = some (.bool close)
  hg : HeadsAt w g 0 hs
  hb : HeadsAt w b off hs
  env : Env w
theorem cell_below {w w' : World} {b o : Nat} {v : Value} (h : w.cell? ⟨b, o, none⟩ = some v) (hb : Below w.heap.size w w') : w'.cell? ⟨b, o, none⟩ = some v := (hb.cell (p := ⟨b, o, none⟩) (lt_of_cell h)).trans h
theorem Two.below {m p rb : ByteArray} {close : Bool} {v1 v2 : Value} {g b off B C : Nat} {hs : List Hd} {w w' : World} (h : Two m p rb close v1 v2 g b off B C hs w) (hb : Below w.heap.size w w') : Two m p rb close v1 v2 g b off B C hs w' :=
  ⟨cell_below h.q0 hb, cell_below h.q1 hb, cell_below h.q2 hb, cell_below h.q3 hb, cell_below h.q4 hb, cell_below h.r0 hb, cell_below h.r1 hb, cell_below h.r2 hb, cell_below h.r3 hb, cell_below h.r4 hb, h.hg.below hb, h.hb.below hb, h.env.below hb⟩

set_option maxRecDepth 100000 in
set_option maxHeartbeats 4000000 in
theorem law_some (m p rb body : ByteArray) (close last : Bool) (code : Int) (b off n cap : Nat) (hs : List Hd) (w : World) (he : Env w) (hn : n = hs.length) (hcap : n ≤ cap) (h0 : 0 < n)
    (hH : HeadsAt w b off hs) (sm : m.size ≤ 140737488355328) (sp : p.size ≤ 140737488355328) (srb : rb.size ≤ 140737488355328) (sh : ∀ h ∈ hs, h.n.size ≤ 140737488355328 ∧ h.v.size ≤ 140737488355328) (sb : body.size ≤ 140737488355328) :
    Calls Tryd.prog 3 #[.agg #[.string m, .string p, .slice (some ⟨b, off, none⟩) n cap, .string rb, .bool close], .int .i64 code, .string body, .bool last] w
      fun e w' => e = .returned (.bool true) ∧ Below w.heap.size w w' := by
  obtain ⟨i0, hi, hz0, hz1, hz2⟩ := info_parts info_head
  have Hn := Lib.hid hn; clear hn
  obtain ⟨lg, hlg⟩ : ∃ x, x = (decide (100 < n) || decide (20000 < m.size + p.size + rb.size + headsSum hs)) := ⟨_, rfl⟩
  have HLG := Lib.hid hlg; clear hlg
  go_enter Tryd.func3, Tryd.ntmps3
  go_wp2_with fail
  refine (lw_long m p rb close (some ⟨b, off, none⟩) b off n cap hs _ Hn.out (fun _ => rfl) (hH.below (bl_alloc (Below.refl _ _) _)) sm sp srb sh).mono ?_
  rw [← HLG.out]
  rintro e w1 ⟨rfl, hb1⟩
  refine Hid.out ?_
  have hbw1 := bl_trans (bl_alloc (Below.refl _ w) _) hb1
  cases lg with
  | true =>
    refine Lib.hid ?_
    go_wp2_with fail
    go_ret
    exact ⟨rfl, hbw1⟩
  | false =>
    by_cases c1 : 30000 < body.size ∧ body.size ≤ 1048576
    · obtain ⟨d1, d2⟩ := c1
      refine Lib.hid ?_
      go_wp2_with fail
      go_ret
      exact ⟨rfl, hbw1⟩
    · by_cases c2 : 1050000 < body.size
      · have d1 : 30000 < body.size := by omega
        have d2 : ¬ body.size ≤ 1048576 := by omega
        clear c1
        refine Lib.hid ?_
        go_wp2_with fail
        go_ret
        exact ⟨rfl, hbw1⟩
      · have r0 : w1.cell? ⟨w.heap.size, 0, none⟩ = some (.string m) := by
          rw [hb1.cell (p := ⟨w.heap.size, 0, none⟩) (by simp)]; simp
        have r1 : w1.cell? ⟨w.heap.size, 1, none⟩ = some (.string p) := by
          rw [hb1.cell (p := ⟨w.heap.size, 1, none⟩) (by simp)]; simp
        have r2 : w1.cell? ⟨w.heap.size, 2, none⟩ = some (.slice (some ⟨b, off, none⟩) n cap) := by
          rw [hb1.cell (p := ⟨w.heap.size, 2, none⟩) (by simp)]; simp
        have r3 : w1.cell? ⟨w.heap.size, 3, none⟩ = some (.string rb) := by
          rw [hb1.cell (p := ⟨w.heap.size, 3, none⟩) (by simp)]; simp
        have r4 : w1.cell? ⟨w.heap.size, 4, none⟩ = some (.bool close) := by
          rw [hb1.cell (p := ⟨w.heap.size, 4, none⟩) (by simp)]; simp
        have HBW := Lib.hid hbw1; clear hbw1 hb1
        have hlt1 := lt_of_cell r0
        obtain ⟨n100, n20⟩ := not_long HLG.out
        have hown1 := bl_alloc (Below.refl _ w1) (Obj.cells #[Value.string m, Value.string p, Value.slice none 0 0, Value.string rb, Value.bool close] 24)
        have hHw1 := (hH.below HBW.out).below hown1
        have hnews := heads_news hHw1
        have hlen := hdCells_len hs
        rw [← Hn.out] at hlen
        have HL2 := Lib.hid hlen; clear hlen
        refine Lib.hid ?_
        by_cases d1 : 30000 < body.size
        · have d2 : ¬ body.size ≤ 1048576 := by omega
          clear c1
          go_wp2_with (at_builtin; refine wpList_append_own _ rfl _ _ 22 rfl (w1.heap.size + 1) 37 i0 (.agg #[.string ⟨#[]⟩, .string ⟨#[]⟩]) 2 32 Tryd.underlying22 hi hz0 hz1 hz2 rfl (by decide) _ _ _ rfl (World.ownsRow_nil _ _ _ _) ⟨b, off, none⟩ n cap (hdCells hs) rfl HL2.out hnews (oneCell_hd hs) (by unfold maxLen; omega) (by omega) (by simp) ?_; intro v' w3 hown3 hg3 hnil; refine Hid.out ?_)
          have hown3' : w3.ownsRow (w1.heap.size + 1) 37 2 v' n (hdCells hs) := by simpa using hown3
          obtain ⟨g, cp, hv, hcp, hgb, hgl, hHg⟩ := own_heads hown3' h0
          subst hv
          have hb3 : Below (w1.heap.size + 1) (w1.alloc (Obj.cells #[Value.string m, Value.string p, Value.slice none 0 0, Value.string rb, Value.bool close] 24)) w3 := (Below.refl _ _).grown hg3 (by simp) (fun k hk => by cases hk)
          have hb13 : Below w1.heap.size w1 w3 := hown1.trans (hb3.mono (Nat.le_succ _))
          have q0 : w3.cell? ⟨w1.heap.size, 0, none⟩ = some (.string m) := by rw [hb3.cell (p := ⟨w1.heap.size, 0, none⟩) (by simp)]; simp
          have q1 : w3.cell? ⟨w1.heap.size, 1, none⟩ = some (.string p) := by rw [hb3.cell (p := ⟨w1.heap.size, 1, none⟩) (by simp)]; simp
          have q2 : w3.cell? ⟨w1.heap.size, 2, none⟩ = some (.slice none 0 0) := by rw [hb3.cell (p := ⟨w1.heap.size, 2, none⟩) (by simp)]; simp
          have q3 : w3.cell? ⟨w1.heap.size, 3, none⟩ = some (.string rb) := by rw [hb3.cell (p := ⟨w1.heap.size, 3, none⟩) (by simp)]; simp
          have q4 : w3.cell? ⟨w1.heap.size, 4, none⟩ = some (.bool close) := by rw [hb3.cell (p := ⟨w1.heap.size, 4, none⟩) (by simp)]; simp
          have fz : w3.frozen? ⟨w1.heap.size, 2, none⟩ = false := by rw [hb3.frozen (p := ⟨w1.heap.size, 2, none⟩) (by simp)]; simp
          have hb4 : Below w1.heap.size w1 (w3.setCell ⟨w1.heap.size, 2, none⟩ (.slice (some ⟨g, 0, none⟩) n cp)) := hb13.setCell (Nat.le_refl _) _
          have T4 : Two m p rb close (.slice (some ⟨g, 0, none⟩) n cp) (.slice (some ⟨b, off, none⟩) n cap) g b off w1.heap.size w.heap.size hs (w3.setCell ⟨w1.heap.size, 2, none⟩ (.slice (some ⟨g, 0, none⟩) n cp)) := by
            refine ⟨(World.cell?_setCell_other _ _ _ _ (by simp)).trans q0, (World.cell?_setCell_other _ _ _ _ (by simp)).trans q1, World.cell?_setCell_same _ _ _ q2, (World.cell?_setCell_other _ _ _ _ (by simp)).trans q3, (World.cell?_setCell_other _ _ _ _ (by simp)).trans q4, cell_below r0 hb4, cell_below r1 hb4, cell_below r2 hb4, cell_below r3 hb4, cell_below r4 hb4, hHg.set (by simp; omega) _, (hH.below HBW.out).below hb4, (he.below HBW.out).below hb4⟩
          have HT4 := Lib.hid T4; clear T4
          have HB4 := Lib.hid hb4; clear hb4
          clear hHg hown3 hown3' hg3 hb3 hb13 hnews hHw1 hown1 hnil
          refine Lib.hid ?_
          go_wp2_with fail
          refine (wr_Write m p rb close (some ⟨g, 0, none⟩) g 0 n cp hs _ HT4.out.env Hn.out hcp (by omega) (fun _ => rfl) HT4.out.hg (by omega) (by omega) (by omega) (fun x hx => by have := head_le 20000 (by omega) x hx; omega)).mono ?_
          rintro e w5 ⟨rfl, hb5⟩
          obtain ⟨q0', q1', q2', q3', q4', r0', r1', r2', r3', r4', hg5, hb5', env5⟩ := HT4.out.below hb5
          go_wp2_with fail
          refine (rf_Write m p rb close (some ⟨b, off, none⟩) b off n cap hs _ env5 Hn.out hcap (by omega) (fun _ => rfl) hb5' (by omega) (by omega) (by omega) (fun x hx => by have := head_le 20000 (by omega) x hx; omega)).mono ?_
          rintro e w6 ⟨rfl, hb6⟩
          have T6 := (HT4.out.below hb5).below hb6
          have HT6 := Lib.hid T6; clear T6 q0' q1' q2' q3' q4' r0' r1' r2' r3' r4' hg5 hb5' env5
          go_wp2_with fail
          refine (wr_Answer code body last _ HT6.out.env sb).mono ?_
          rintro e w7 ⟨rfl, hb7⟩
          go_wp2_with fail
          refine (rf_Answer code body last _ sb).mono ?_
          rintro e w8 ⟨rfl, hb8⟩
          go_wp2_with fail
          refine (wr_Reason code _).mono ?_
          rintro e w9 ⟨rfl, hb9⟩
          go_wp2_with fail
          refine (rf_Reason code _).mono ?_
          rintro e w10 ⟨rfl, rfl⟩
          have T9 := (((HT6.out.below hb7).below hb8).below hb9)
          obtain ⟨q0', q1', q2', q3', q4', r0', r1', r2', r3', r4', hg9, hb9', env9⟩ := T9
          go_wp2_with fail
          refine (rf_Same m p rb close (some ⟨g, 0, none⟩) (some ⟨b, off, none⟩) g 0 cp b off cap n hs _ Hn.out (fun _ => rfl) (fun _ => rfl) hg9 hb9' (by omega)).mono ?_
          rintro e w11 ⟨rfl, hb11⟩
          go_wp2_with fail
          go_ret
          exact ⟨rfl, bl_trans (bl_trans (bl_trans (bl_trans (bl_trans (bl_trans (bl_trans (bl_trans HBW.out HB4.out) hb5) hb6) hb7) hb8) hb9) (Below.refl _ _)) hb11⟩
        · go_wp2_with (at_builtin; refine wpList_append_own _ rfl _ _ 22 rfl (w1.heap.size + 1) 37 i0 (.agg #[.string ⟨#[]⟩, .string ⟨#[]⟩]) 2 32 Tryd.underlying22 hi hz0 hz1 hz2 rfl (by decide) _ _ _ rfl (World.ownsRow_nil _ _ _ _) ⟨b, off, none⟩ n cap (hdCells hs) rfl HL2.out hnews (oneCell_hd hs) (by unfold maxLen; omega) (by omega) (by simp) ?_; intro v' w3 hown3 hg3 hnil; refine Hid.out ?_)
          have hown3' : w3.ownsRow (w1.heap.size + 1) 37 2 v' n (hdCells hs) := by simpa using hown3
          obtain ⟨g, cp, hv, hcp, hgb, hgl, hHg⟩ := own_heads hown3' h0
          subst hv
          have hb3 : Below (w1.heap.size + 1) (w1.alloc (Obj.cells #[Value.string m, Value.string p, Value.slice none 0 0, Value.string rb, Value.bool close] 24)) w3 := (Below.refl _ _).grown hg3 (by simp) (fun k hk => by cases hk)
          have hb13 : Below w1.heap.size w1 w3 := hown1.trans (hb3.mono (Nat.le_succ _))
          have q0 : w3.cell? ⟨w1.heap.size, 0, none⟩ = some (.string m) := by rw [hb3.cell (p := ⟨w1.heap.size, 0, none⟩) (by simp)]; simp
          have q1 : w3.cell? ⟨w1.heap.size, 1, none⟩ = some (.string p) := by rw [hb3.cell (p := ⟨w1.heap.size, 1, none⟩) (by simp)]; simp
          have q2 : w3.cell? ⟨w1.heap.size, 2, none⟩ = some (.slice none 0 0) := by rw [hb3.cell (p := ⟨w1.heap.size, 2, none⟩) (by simp)]; simp
          have q3 : w3.cell? ⟨w1.heap.size, 3, none⟩ = some (.string rb) := by rw [hb3.cell (p := ⟨w1.heap.size, 3, none⟩) (by simp)]; simp
          have q4 : w3.cell? ⟨w1.heap.size, 4, none⟩ = some (.bool close) := by rw [hb3.cell (p := ⟨w1.heap.size, 4, none⟩) (by simp)]; simp
          have fz : w3.frozen? ⟨w1.heap.size, 2, none⟩ = false := by rw [hb3.frozen (p := ⟨w1.heap.size, 2, none⟩) (by simp)]; simp
          have hb4 : Below w1.heap.size w1 (w3.setCell ⟨w1.heap.size, 2, none⟩ (.slice (some ⟨g, 0, none⟩) n cp)) := hb13.setCell (Nat.le_refl _) _
          have T4 : Two m p rb close (.slice (some ⟨g, 0, none⟩) n cp) (.slice (some ⟨b, off, none⟩) n cap) g b off w1.heap.size w.heap.size hs (w3.setCell ⟨w1.heap.size, 2, none⟩ (.slice (some ⟨g, 0, none⟩) n cp)) := by
            refine ⟨(World.cell?_setCell_other _ _ _ _ (by simp)).trans q0, (World.cell?_setCell_other _ _ _ _ (by simp)).trans q1, World.cell?_setCell_same _ _ _ q2, (World.cell?_setCell_other _ _ _ _ (by simp)).trans q3, (World.cell?_setCell_other _ _ _ _ (by simp)).trans q4, cell_below r0 hb4, cell_below r1 hb4, cell_below r2 hb4, cell_below r3 hb4, cell_below r4 hb4, hHg.set (by simp; omega) _, (hH.below HBW.out).below hb4, (he.below HBW.out).below hb4⟩
          have HT4 := Lib.hid T4; clear T4
          have HB4 := Lib.hid hb4; clear hb4
          clear hHg hown3 hown3' hg3 hb3 hb13 hnews hHw1 hown1 hnil
          refine Lib.hid ?_
          go_wp2_with fail
          refine (wr_Write m p rb close (some ⟨g, 0, none⟩) g 0 n cp hs _ HT4.out.env Hn.out hcp (by omega) (fun _ => rfl) HT4.out.hg (by omega) (by omega) (by omega) (fun x hx => by have := head_le 20000 (by omega) x hx; omega)).mono ?_
          rintro e w5 ⟨rfl, hb5⟩
          obtain ⟨q0', q1', q2', q3', q4', r0', r1', r2', r3', r4', hg5, hb5', env5⟩ := HT4.out.below hb5
          go_wp2_with fail
          refine (rf_Write m p rb close (some ⟨b, off, none⟩) b off n cap hs _ env5 Hn.out hcap (by omega) (fun _ => rfl) hb5' (by omega) (by omega) (by omega) (fun x hx => by have := head_le 20000 (by omega) x hx; omega)).mono ?_
          rintro e w6 ⟨rfl, hb6⟩
          have T6 := (HT4.out.below hb5).below hb6
          have HT6 := Lib.hid T6; clear T6 q0' q1' q2' q3' q4' r0' r1' r2' r3' r4' hg5 hb5' env5
          go_wp2_with fail
          refine (wr_Answer code body last _ HT6.out.env sb).mono ?_
          rintro e w7 ⟨rfl, hb7⟩
          go_wp2_with fail
          refine (rf_Answer code body last _ sb).mono ?_
          rintro e w8 ⟨rfl, hb8⟩
          go_wp2_with fail
          refine (wr_Reason code _).mono ?_
          rintro e w9 ⟨rfl, hb9⟩
          go_wp2_with fail
          refine (rf_Reason code _).mono ?_
          rintro e w10 ⟨rfl, rfl⟩
          have T9 := (((HT6.out.below hb7).below hb8).below hb9)
          obtain ⟨q0', q1', q2', q3', q4', r0', r1', r2', r3', r4', hg9, hb9', env9⟩ := T9
          go_wp2_with fail
          refine (rf_Same m p rb close (some ⟨g, 0, none⟩) (some ⟨b, off, none⟩) g 0 cp b off cap n hs _ Hn.out (fun _ => rfl) (fun _ => rfl) hg9 hb9' (by omega)).mono ?_
          rintro e w11 ⟨rfl, hb11⟩
          go_wp2_with fail
          go_ret
          exact ⟨rfl, bl_trans (bl_trans (bl_trans (bl_trans (bl_trans (bl_trans (bl_trans (bl_trans HBW.out HB4.out) hb5) hb6) hb7) hb8) hb9) (Below.refl _ _)) hb11⟩
theorem append_none (a : Option Addr) (cap : Nat) (W : World) : (Builtin.append_ #[22, 22] 22 #[.slice none 0 0, .slice a 0 cap]).run Tryd.prog W = .ok (.slice none 0 0) W := by
  cases a <;> simp [Builtin.append_, run_underlying Tryd.underlying22, Builtin.lenOf, Builtin.firstCells, Tryd.sizeOf37, loadCells, loadCellsFrom]
set_option maxRecDepth 100000 in
set_option maxHeartbeats 4000000 in
theorem law_none (m p rb body : ByteArray) (close last : Bool) (code : Int) (a : Option Addr) (cap : Nat) (w : World) (he : Env w)
    (sm : m.size ≤ 140737488355328) (sp : p.size ≤ 140737488355328) (srb : rb.size ≤ 140737488355328) (sb : body.size ≤ 140737488355328) :
    Calls Tryd.prog 3 #[.agg #[.string m, .string p, .slice a 0 cap, .string rb, .bool close], .int .i64 code, .string body, .bool last] w
      fun e w' => e = .returned (.bool true) ∧ Below w.heap.size w w' := by
  obtain ⟨i0, hi, hz0, hz1, hz2⟩ := info_parts info_head
  obtain ⟨lg, hlg⟩ : ∃ x, x = (decide (100 < 0) || decide (20000 < m.size + p.size + rb.size + headsSum [])) := ⟨_, rfl⟩
  have HLG := Lib.hid hlg; clear hlg
  go_enter Tryd.func3, Tryd.ntmps3
  go_wp2_with fail
  refine (lw_long m p rb close a 0 0 0 cap [] _ rfl (fun h => by omega) (fun i h => by cases h) sm sp srb (fun h hh => by cases hh)).mono ?_
  rw [← HLG.out]
  rintro e w1 ⟨rfl, hb1⟩
  refine Hid.out ?_
  have hbw1 := bl_trans (bl_alloc (Below.refl _ w) _) hb1
  cases lg with
  | true =>
    refine Lib.hid ?_
    go_wp2_with fail
    go_ret
    exact ⟨rfl, hbw1⟩
  | false =>
    by_cases c1 : 30000 < body.size ∧ body.size ≤ 1048576
    · obtain ⟨d1, d2⟩ := c1
      refine Lib.hid ?_
      go_wp2_with fail
      go_ret
      exact ⟨rfl, hbw1⟩
    · by_cases c2 : 1050000 < body.size
      · have d1 : 30000 < body.size := by omega
        have d2 : ¬ body.size ≤ 1048576 := by omega
        clear c1
        refine Lib.hid ?_
        go_wp2_with fail
        go_ret
        exact ⟨rfl, hbw1⟩
      · have r0 : w1.cell? ⟨w.heap.size, 0, none⟩ = some (.string m) := by
          rw [hb1.cell (p := ⟨w.heap.size, 0, none⟩) (by simp)]; simp
        have r1 : w1.cell? ⟨w.heap.size, 1, none⟩ = some (.string p) := by
          rw [hb1.cell (p := ⟨w.heap.size, 1, none⟩) (by simp)]; simp
        have r2 : w1.cell? ⟨w.heap.size, 2, none⟩ = some (.slice a 0 cap) := by
          rw [hb1.cell (p := ⟨w.heap.size, 2, none⟩) (by simp)]; simp
        have r3 : w1.cell? ⟨w.heap.size, 3, none⟩ = some (.string rb) := by
          rw [hb1.cell (p := ⟨w.heap.size, 3, none⟩) (by simp)]; simp
        have r4 : w1.cell? ⟨w.heap.size, 4, none⟩ = some (.bool close) := by
          rw [hb1.cell (p := ⟨w.heap.size, 4, none⟩) (by simp)]; simp
        have HBW := Lib.hid hbw1; clear hbw1 hb1
        have hlt1 := lt_of_cell r0
        obtain ⟨n100, n20⟩ := not_long HLG.out
        have hown1 := bl_alloc (Below.refl _ w1) (Obj.cells #[Value.string m, Value.string p, Value.slice none 0 0, Value.string rb, Value.bool close] 24)
        refine Lib.hid ?_
        by_cases d1 : 30000 < body.size
        · have d2 : ¬ body.size ≤ 1048576 := by omega
          clear c1
          have hb4 := hown1
          have T4 : Two m p rb close (.slice none 0 0) (.slice a 0 cap) 0 0 0 w1.heap.size w.heap.size [] (w1.alloc (Obj.cells #[Value.string m, Value.string p, Value.slice none 0 0, Value.string rb, Value.bool close] 24)) :=
            ⟨by simp, by simp, by simp, by simp, by simp, cell_below r0 hb4, cell_below r1 hb4, cell_below r2 hb4, cell_below r3 hb4, cell_below r4 hb4, (fun i h => by cases h), (fun i h => by cases h), (he.below HBW.out).below hb4⟩
          have HT4 := Lib.hid T4; clear T4
          have HB4 := Lib.hid hb4; clear hb4 hown1
          cases a with
          | none =>
            go_wp2_with fail
            refine (wr_Write m p rb close none 0 0 0 0 [] _ HT4.out.env rfl (by omega) (by omega) (fun h => by omega) HT4.out.hg (by omega) (by omega) (by omega) (fun x hx => by cases hx)).mono ?_
            rintro e w5 ⟨rfl, hb5⟩
            obtain ⟨q0', q1', q2', q3', q4', r0', r1', r2', r3', r4', hg5, hb5', env5⟩ := HT4.out.below hb5
            go_wp2_with fail
            refine (rf_Write m p rb close none 0 0 0 cap [] _ env5 rfl (by omega) (by omega) (fun h => by omega) hb5' (by omega) (by omega) (by omega) (fun x hx => by cases hx)).mono ?_
            rintro e w6 ⟨rfl, hb6⟩
            have T6 := (HT4.out.below hb5).below hb6
            have HT6 := Lib.hid T6; clear T6 q0' q1' q2' q3' q4' r0' r1' r2' r3' r4' hg5 hb5' env5
            go_wp2_with fail
            refine (wr_Answer code body last _ HT6.out.env sb).mono ?_
            rintro e w7 ⟨rfl, hb7⟩
            go_wp2_with fail
            refine (rf_Answer code body last _ sb).mono ?_
            rintro e w8 ⟨rfl, hb8⟩
            go_wp2_with fail
            refine (wr_Reason code _).mono ?_
            rintro e w9 ⟨rfl, hb9⟩
            go_wp2_with fail
            refine (rf_Reason code _).mono ?_
            rintro e w10 ⟨rfl, rfl⟩
            have T9 := (((HT6.out.below hb7).below hb8).below hb9)
            obtain ⟨q0', q1', q2', q3', q4', r0', r1', r2', r3', r4', hg9, hb9', env9⟩ := T9
            go_wp2_with fail
            refine (rf_Same m p rb close none none 0 0 0 0 0 cap 0 [] _ rfl (fun h => by omega) (fun h => by omega) hg9 hb9' (by omega)).mono ?_
            rintro e w11 ⟨rfl, hb11⟩
            go_wp2_with fail
            go_ret
            exact ⟨rfl, bl_trans (bl_trans (bl_trans (bl_trans (bl_trans (bl_trans (bl_trans (bl_trans HBW.out HB4.out) hb5) hb6) hb7) hb8) hb9) (Below.refl _ _)) hb11⟩
          | some ad =>
            have hl0 : ∀ W, (loadCells ad 0).run Tryd.prog W = .ok #[] W := fun W => rfl
            go_wp2_with fail
            refine (wr_Write m p rb close none 0 0 0 0 [] _ HT4.out.env rfl (by omega) (by omega) (fun h => by omega) HT4.out.hg (by omega) (by omega) (by omega) (fun x hx => by cases hx)).mono ?_
            rintro e w5 ⟨rfl, hb5⟩
            obtain ⟨q0', q1', q2', q3', q4', r0', r1', r2', r3', r4', hg5, hb5', env5⟩ := HT4.out.below hb5
            go_wp2_with fail
            refine (rf_Write m p rb close (some ad) 0 0 0 cap [] _ env5 rfl (by omega) (by omega) (fun h => by omega) hb5' (by omega) (by omega) (by omega) (fun x hx => by cases hx)).mono ?_
            rintro e w6 ⟨rfl, hb6⟩
            have T6 := (HT4.out.below hb5).below hb6
            have HT6 := Lib.hid T6; clear T6 q0' q1' q2' q3' q4' r0' r1' r2' r3' r4' hg5 hb5' env5
            go_wp2_with fail
            refine (wr_Answer code body last _ HT6.out.env sb).mono ?_
            rintro e w7 ⟨rfl, hb7⟩
            go_wp2_with fail
            refine (rf_Answer code body last _ sb).mono ?_
            rintro e w8 ⟨rfl, hb8⟩
            go_wp2_with fail
            refine (wr_Reason code _).mono ?_
            rintro e w9 ⟨rfl, hb9⟩
            go_wp2_with fail
            refine (rf_Reason code _).mono ?_
            rintro e w10 ⟨rfl, rfl⟩
            have T9 := (((HT6.out.below hb7).below hb8).below hb9)
            obtain ⟨q0', q1', q2', q3', q4', r0', r1', r2', r3', r4', hg9, hb9', env9⟩ := T9
            go_wp2_with fail
            refine (rf_Same m p rb close none (some ad) 0 0 0 0 0 cap 0 [] _ rfl (fun h => by omega) (fun h => by omega) hg9 hb9' (by omega)).mono ?_
            rintro e w11 ⟨rfl, hb11⟩
            go_wp2_with fail
            go_ret
            exact ⟨rfl, bl_trans (bl_trans (bl_trans (bl_trans (bl_trans (bl_trans (bl_trans (bl_trans HBW.out HB4.out) hb5) hb6) hb7) hb8) hb9) (Below.refl _ _)) hb11⟩
        · have hb4 := hown1
          have T4 : Two m p rb close (.slice none 0 0) (.slice a 0 cap) 0 0 0 w1.heap.size w.heap.size [] (w1.alloc (Obj.cells #[Value.string m, Value.string p, Value.slice none 0 0, Value.string rb, Value.bool close] 24)) :=
            ⟨by simp, by simp, by simp, by simp, by simp, cell_below r0 hb4, cell_below r1 hb4, cell_below r2 hb4, cell_below r3 hb4, cell_below r4 hb4, (fun i h => by cases h), (fun i h => by cases h), (he.below HBW.out).below hb4⟩
          have HT4 := Lib.hid T4; clear T4
          have HB4 := Lib.hid hb4; clear hb4 hown1
          cases a with
          | none =>
            go_wp2_with fail
            refine (wr_Write m p rb close none 0 0 0 0 [] _ HT4.out.env rfl (by omega) (by omega) (fun h => by omega) HT4.out.hg (by omega) (by omega) (by omega) (fun x hx => by cases hx)).mono ?_
            rintro e w5 ⟨rfl, hb5⟩
            obtain ⟨q0', q1', q2', q3', q4', r0', r1', r2', r3', r4', hg5, hb5', env5⟩ := HT4.out.below hb5
            go_wp2_with fail
            refine (rf_Write m p rb close none 0 0 0 cap [] _ env5 rfl (by omega) (by omega) (fun h => by omega) hb5' (by omega) (by omega) (by omega) (fun x hx => by cases hx)).mono ?_
            rintro e w6 ⟨rfl, hb6⟩
            have T6 := (HT4.out.below hb5).below hb6
            have HT6 := Lib.hid T6; clear T6 q0' q1' q2' q3' q4' r0' r1' r2' r3' r4' hg5 hb5' env5
            go_wp2_with fail
            refine (wr_Answer code body last _ HT6.out.env sb).mono ?_
            rintro e w7 ⟨rfl, hb7⟩
            go_wp2_with fail
            refine (rf_Answer code body last _ sb).mono ?_
            rintro e w8 ⟨rfl, hb8⟩
            go_wp2_with fail
            refine (wr_Reason code _).mono ?_
            rintro e w9 ⟨rfl, hb9⟩
            go_wp2_with fail
            refine (rf_Reason code _).mono ?_
            rintro e w10 ⟨rfl, rfl⟩
            have T9 := (((HT6.out.below hb7).below hb8).below hb9)
            obtain ⟨q0', q1', q2', q3', q4', r0', r1', r2', r3', r4', hg9, hb9', env9⟩ := T9
            go_wp2_with fail
            refine (rf_Same m p rb close none none 0 0 0 0 0 cap 0 [] _ rfl (fun h => by omega) (fun h => by omega) hg9 hb9' (by omega)).mono ?_
            rintro e w11 ⟨rfl, hb11⟩
            go_wp2_with fail
            go_ret
            exact ⟨rfl, bl_trans (bl_trans (bl_trans (bl_trans (bl_trans (bl_trans (bl_trans (bl_trans HBW.out HB4.out) hb5) hb6) hb7) hb8) hb9) (Below.refl _ _)) hb11⟩
          | some ad =>
            have hl0 : ∀ W, (loadCells ad 0).run Tryd.prog W = .ok #[] W := fun W => rfl
            go_wp2_with fail
            refine (wr_Write m p rb close none 0 0 0 0 [] _ HT4.out.env rfl (by omega) (by omega) (fun h => by omega) HT4.out.hg (by omega) (by omega) (by omega) (fun x hx => by cases hx)).mono ?_
            rintro e w5 ⟨rfl, hb5⟩
            obtain ⟨q0', q1', q2', q3', q4', r0', r1', r2', r3', r4', hg5, hb5', env5⟩ := HT4.out.below hb5
            go_wp2_with fail
            refine (rf_Write m p rb close (some ad) 0 0 0 cap [] _ env5 rfl (by omega) (by omega) (fun h => by omega) hb5' (by omega) (by omega) (by omega) (fun x hx => by cases hx)).mono ?_
            rintro e w6 ⟨rfl, hb6⟩
            have T6 := (HT4.out.below hb5).below hb6
            have HT6 := Lib.hid T6; clear T6 q0' q1' q2' q3' q4' r0' r1' r2' r3' r4' hg5 hb5' env5
            go_wp2_with fail
            refine (wr_Answer code body last _ HT6.out.env sb).mono ?_
            rintro e w7 ⟨rfl, hb7⟩
            go_wp2_with fail
            refine (rf_Answer code body last _ sb).mono ?_
            rintro e w8 ⟨rfl, hb8⟩
            go_wp2_with fail
            refine (wr_Reason code _).mono ?_
            rintro e w9 ⟨rfl, hb9⟩
            go_wp2_with fail
            refine (rf_Reason code _).mono ?_
            rintro e w10 ⟨rfl, rfl⟩
            have T9 := (((HT6.out.below hb7).below hb8).below hb9)
            obtain ⟨q0', q1', q2', q3', q4', r0', r1', r2', r3', r4', hg9, hb9', env9⟩ := T9
            go_wp2_with fail
            refine (rf_Same m p rb close none (some ad) 0 0 0 0 0 cap 0 [] _ rfl (fun h => by omega) (fun h => by omega) hg9 hb9' (by omega)).mono ?_
            rintro e w11 ⟨rfl, hb11⟩
            go_wp2_with fail
            go_ret
            exact ⟨rfl, bl_trans (bl_trans (bl_trans (bl_trans (bl_trans (bl_trans (bl_trans (bl_trans HBW.out HB4.out) hb5) hb6) hb7) hb8) hb9) (Below.refl _ _)) hb11⟩

theorem law_all (m p rb body : ByteArray) (close last : Bool) (code : Int) (a : Option Addr) (b off n cap : Nat) (hs : List Hd) (w : World) (he : Env w) (hn : n = hs.length) (hcap : n ≤ cap) (ha : 0 < n → a = some ⟨b, off, none⟩)
    (hH : HeadsAt w b off hs) (sm : m.size ≤ 140737488355328) (sp : p.size ≤ 140737488355328) (srb : rb.size ≤ 140737488355328) (sh : ∀ h ∈ hs, h.n.size ≤ 140737488355328 ∧ h.v.size ≤ 140737488355328) (sb : body.size ≤ 140737488355328) :
    Calls Tryd.prog 3 #[.agg #[.string m, .string p, .slice a n cap, .string rb, .bool close], .int .i64 code, .string body, .bool last] w
      fun e w' => e = .returned (.bool true) ∧ Below w.heap.size w w' := by
  rcases Nat.eq_zero_or_pos n with h0 | h0
  · subst h0
    exact law_none m p rb body close last code a cap w he sm sp srb sb
  · obtain rfl := ha h0
    exact law_some m p rb body close last code b off n cap hs w he hn hcap h0 hH sm sp srb sh sb
end Go.Proofs.YtnicmdlicbnlgaaDoor
