/-
  Walks: docketlaw28's same.
-/
import Derived.Test.YtnicmdlicbnlgaaGreatDoorAm
import Derived.Test.YtnicmdlicbnlgaaGreatDoorSm
import Derived.Deep.RegionLaw
namespace Go.Proofs.YtnicmdlicbnlgaaGreatDoor
open Go.RowKit
set_option linter.unusedVariables false
set_option linter.unusedSimpArgs false

theorem headCells_get (hs : List Hd) : ∀ i (h : i < hs.length), (headCells hs)[i * 2]? = some (.string hs[i].n) ∧ (headCells hs)[i * 2 + 1]? = some (.string hs[i].v) := by
  induction hs with
  | nil => intro i h; simp at h
  | cons x t ih =>
    intro i h
    have e : headCells (x :: t) = [.string x.n, .string x.v] ++ headCells t := by simp [headCells]
    cases i with
    | zero => simp [e]
    | succ i =>
      have := ih i (by simpa using h)
      rw [e]
      refine ⟨?_, ?_⟩
      · rw [show (i + 1) * 2 = i * 2 + 2 by omega, List.getElem?_append_right (by simp)]
        simpa using this.1
      · rw [show (i + 1) * 2 + 1 = i * 2 + 1 + 2 by omega, List.getElem?_append_right (by simp)]
        simpa using this.2
theorem toldCells_get (ts : List (Rq × Value)) : ∀ i (h : i < ts.length), (toldCells ts)[i * 5]? = some (.string ts[i].1.m) ∧ (toldCells ts)[i * 5 + 1]? = some (.string ts[i].1.p) ∧ (toldCells ts)[i * 5 + 2]? = some ts[i].2 ∧ (toldCells ts)[i * 5 + 3]? = some (.string ts[i].1.body) ∧ (toldCells ts)[i * 5 + 4]? = some (.bool ts[i].1.close) := by
  induction ts with
  | nil => intro i h; simp at h
  | cons x t ih =>
    intro i h
    have e : toldCells (x :: t) = [.string x.1.m, .string x.1.p, x.2, .string x.1.body, .bool x.1.close] ++ toldCells t := by simp [toldCells]
    cases i with
    | zero => simp [e]
    | succ i =>
      have := ih i (by simpa using h)
      rw [e]
      have k : ∀ j, ([Value.string x.1.m, .string x.1.p, x.2, .string x.1.body, .bool x.1.close] ++ toldCells t)[(i + 1) * 5 + j]? = (toldCells t)[i * 5 + j]? := fun j => by
        rw [List.getElem?_append_right (by simp; omega)]
        congr 1
        simp
        omega
      exact ⟨(k 0).trans this.1, (k 1).trans this.2.1, (k 2).trans this.2.2.1, (k 3).trans this.2.2.2.1, (k 4).trans this.2.2.2.2⟩
/-- The heads of a request can be read. -/
def HsAt (w : World) (hv : Value) (hs : List Hd) : Prop := ∃ (A : Option Addr) (cap b off : Nat), hv = .slice A hs.length cap ∧ (0 < hs.length → A = some ⟨b, off, none⟩) ∧ HeadsAt w b off hs
theorem HsAt.of_own {w : World} {hv : Value} {hs : List Hd} (h : w.ownsRow 0 88 2 hv hs.length (headCells hs)) : HsAt w hv hs := by
  have hc := fun g hg => h.cells (g := g) hg
  rcases h.2 with ⟨rfl, h0⟩ | ⟨g, cap, cur, rfl, _⟩
  · have : hs = [] := List.eq_nil_of_length_eq_zero h0
    subst this
    exact ⟨none, 0, 0, 0, rfl, fun h => absurd h (by simp), fun i hi => absurd hi (by simp)⟩
  · refine ⟨_, cap, g, 0, rfl, fun _ => rfl, fun i hi => ?_⟩
    have h1 := headCells_get hs i hi
    refine ⟨?_, ?_⟩
    · have := hc g rfl _ _ h1.1
      rwa [Addr.add_lit] at this
    · have := hc g rfl _ _ h1.2
      rwa [Addr.add_lit, ← Nat.add_assoc] at this
theorem HsAt.below {w w' : World} {hv : Value} {hs : List Hd} (h : HsAt w hv hs) (hb : Below w.heap.size w w') : HsAt w' hv hs := by
  obtain ⟨A, cap, b, off, h1, h2, h3⟩ := h
  exact ⟨A, cap, b, off, h1, h2, h3.below hb⟩
/-- The requests can be read at a place. -/
def RqsAt (w : World) (g off : Nat) (ts : List (Rq × Value)) : Prop :=
  ∀ i (h : i < ts.length), w.cell? ⟨g, off + i * 5, none⟩ = some (.string ts[i].1.m) ∧ w.cell? ⟨g, off + i * 5 + 1, none⟩ = some (.string ts[i].1.p) ∧ w.cell? ⟨g, off + i * 5 + 2, none⟩ = some ts[i].2 ∧ w.cell? ⟨g, off + i * 5 + 3, none⟩ = some (.string ts[i].1.body) ∧ w.cell? ⟨g, off + i * 5 + 4, none⟩ = some (.bool ts[i].1.close) ∧ HsAt w ts[i].2 ts[i].1.hs
theorem RqsAt.below {w w' : World} {g off : Nat} {ts : List (Rq × Value)} (h : RqsAt w g off ts) (hb : Below w.heap.size w w') : RqsAt w' g off ts := fun i hi => by
  obtain ⟨h0, h1, h2, h3, h4, h5⟩ := h i hi
  have hlt := lt_of_cell h0
  have k : ∀ {o v}, w.cell? ⟨g, o, none⟩ = some v → w'.cell? ⟨g, o, none⟩ = some v := fun {o v} hc => (hb.cell (p := ⟨g, o, none⟩) (lt_of_cell hc)).trans hc
  exact ⟨k h0, k h1, k h2, k h3, k h4, h5.below hb⟩
theorem ToldAt.rqs {w : World} {g n c : Nat} {ts : List (Rq × Value)} (h : ToldAt w (.slice (some ⟨g, 0, none⟩) n c) ts) : RqsAt w g 0 ts := fun i hi => by
  have hc := h.1.cells (g := g) rfl
  have h1 := toldCells_get ts i hi
  have k : ∀ j u, (toldCells ts)[i * 5 + j]? = some u → w.cell? ⟨g, 0 + i * 5 + j, none⟩ = some u := fun j u hu => by
    have := hc _ _ hu
    rwa [Addr.add_lit, ← Nat.add_assoc] at this
  exact ⟨k 0 _ h1.1, k 1 _ h1.2.1, k 2 _ h1.2.2.1, k 3 _ h1.2.2.2.1, k 4 _ h1.2.2.2.2, HsAt.of_own (h.2 _ (List.getElem_mem _))⟩
theorem RqsAt.take {w : World} {g off : Nat} {ts : List (Rq × Value)} (h : RqsAt w g off ts) (k : Nat) : RqsAt w g off (ts.take k) := fun i hi => by
  have hi' : i < ts.length := by rw [List.length_take] at hi; omega
  have := h i hi'
  simpa using this
theorem RqsAt.drop {w : World} {g off : Nat} {ts : List (Rq × Value)} (h : RqsAt w g off ts) (k : Nat) : RqsAt w g (off + k * 5) (ts.drop k) := fun i hi => by
  have hi' : k + i < ts.length := by rw [List.length_drop] at hi; omega
  have := h (k + i) hi'
  have e : off + (k + i) * 5 = off + k * 5 + i * 5 := by omega
  rw [e] at this
  simpa using this
set_option maxRecDepth 100000 in
set_option maxHeartbeats 3200000 in
theorem lw_same (A1 A2 : Option Addr) (g1 o1 g2 o2 n c1 c2 : Nat) (t1 t2 : List (Rq × Value)) (w : World) (hn1 : t1.length = n) (hn2 : t2.length = n) (ha1 : 0 < n → A1 = some ⟨g1, o1, none⟩) (ha2 : 0 < n → A2 = some ⟨g2, o2, none⟩)
    (h1 : RqsAt w g1 o1 t1) (h2 : RqsAt w g2 o2 t2) (he : t1.map Prod.fst = t2.map Prod.fst) (hh : ∀ q ∈ t1.map Prod.fst, q.hs.length ≤ 32) (hm : n ≤ 1000000) :
    Calls Tryz.prog 19 #[.slice A1 n c1, .slice A2 n c2] w fun e w' => e = .returned (.bool true) ∧ Below w.heap.size w w' := by
  have Hn1 := Lib.hid hn1; clear hn1
  have Hn2 := Lib.hid hn2; clear hn2
  have HA1 := Lib.hid ha1; clear ha1
  have HA2 := Lib.hid ha2; clear ha2
  have HE := Lib.hid he; clear he
  have HH := Lib.hid hh; clear hh
  have H1 := Lib.hid h1; clear h1
  have H2 := Lib.hid h2; clear h2
  go_enter Tryz.func19, Tryz.ntmps19
  go_wp2_with fail
  go_loopw [5] (fun i wr => ∃ k : Nat, k ≤ n ∧ i = .int .i64 k ∧ Below w.heap.size w wr) (fun i wr => n - (intOf i).toNat)
  case atStart => exact ⟨0, Nat.zero_le _, rfl, Below.refl _ _⟩
  case round =>
    obtain ⟨k, hk, rfl, hb⟩ := hrel
    by_cases hlt : k < n
    · have e1 := HA1.out (by omega)
      have e2 := HA2.out (by omega)
      subst e1; subst e2
      have k1 : k < t1.length := by have := Hn1.out; omega
      have k2 : k < t2.length := by have := Hn2.out; omega
      obtain ⟨a0, a1, a2, a3, a4, x1, cx1, b1, of1, hx1, hx2, hx3⟩ := (H1.out.below hb) k k1
      obtain ⟨d0, d1, d2, d3, d4, y1, cy1, b2, of2, hy1, hy2, hy3⟩ := (H2.out.below hb) k k2
      have hq : t1[k].1 = t2[k].1 := by
        have := congrArg (fun l => l[k]?) HE.out
        simpa [k1, k2] using this
      have hq32 : t1[k].1.hs.length ≤ 32 := HH.out _ (List.mem_map.2 ⟨t1[k], List.getElem_mem _, rfl⟩)
      rw [← hq] at d0 d1 d3 d4 hy1 hy2 hy3
      rw [hx1] at a2
      rw [hy1] at d2
      generalize t1[k].1 = q at *
      have HQ := Lib.hid (rf_Same q.m q.p q.body q.close x1 y1 b1 of1 cx1 b2 of2 cy1 q.hs.length q.hs)
      have HX2 := Lib.hid hx2
      have HY2 := Lib.hid hy2
      have HX3 := Lib.hid hx3
      have HY3 := Lib.hid hy3
      clear hx1 hx2 hx3 hy1 hy2 hy3 hq
      have HBW := Lib.hid hb; clear hb
      go_wp2_with fail
      go_region_law (first | (go_simp; go_at_call 17; refine (HQ.out _ (by first | rfl | trivial) HX2.out HY2.out (HX3.out.below (by first | exact Below.refl _ _ | exact (Below.refl _ _).drew)) (HY3.out.below (by first | exact Below.refl _ _ | exact (Below.refl _ _).drew)) (by omega)).mono ?_; rintro e w' ⟨rfl, hb⟩))
      all_goals
        have HB3 : Hid (Below w.heap.size w w') := HBW.out.drew.trans (hb.mono HBW.out.size)
        clear hb
        go_wp2_with fail
        go_roundw
        case rel => exact ⟨k + 1, by omega, by go_num, HB3.out⟩
        case measure => simp [intOf]; omega
    · obtain rfl : k = n := by omega
      have HBW := Lib.hid hb; clear hb
      go_wp2_with fail
      go_ret
      exact ⟨rfl, HBW.out⟩
end Go.Proofs.YtnicmdlicbnlgaaGreatDoor
