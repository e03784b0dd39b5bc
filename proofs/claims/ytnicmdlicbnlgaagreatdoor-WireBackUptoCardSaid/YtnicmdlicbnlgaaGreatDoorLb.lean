/-
  Walk: the law that a request that is written is read back, alone.
-/
import Derived.Test.YtnicmdlicbnlgaaGreatDoorLm
import Derived.Test.YtnicmdlicbnlgaaGreatDoorBk
import Derived.Test.YtnicmdlicbnlgaaGreatDoorWw
import Derived.Lib.QuietBelow
namespace Go.Proofs.YtnicmdlicbnlgaaGreatDoor
open Go.RowKit
set_option linter.unusedVariables false
set_option linter.unusedSimpArgs false
open Go.Sort

theorem flat_len (L : List (List UInt8)) : (L.flatMap fun l => [13, 10] ++ l).length = L.flatten.length + 2 * L.length := by
  induction L with
  | nil => rfl
  | cons x t ih => simp only [List.flatMap_cons, List.length_append, ih, List.flatten_cons, List.length_cons, List.length_nil]; omega
theorem writeP_size {m p : List UInt8} {hs : List Hd} {body : List UInt8} {close : Bool} (h : (writeP m p hs body close).2 = 0) : (writeP m p hs body close).1.length ≤ 10000 := by
  unfold writeP at h ⊢
  split at h
  · cases h
  rename_i h1
  rw [if_neg h1]
  split at h
  · cases h
  rename_i h2
  rw [if_neg h2]
  split at h
  · cases h
  rename_i h3
  rw [if_neg h3]
  split at h
  · cases h
  rename_i h4
  rw [if_neg h4]
  simp only [Bool.or_eq_true, decide_eq_true_eq, not_or] at h4
  obtain ⟨⟨h5, h6⟩, h7⟩ := h4
  simp only [List.length_append, flat_len, List.length_cons, List.length_nil]
  omega
theorem writeP_bad0 {m p : List UInt8} {hs : List Hd} {body : List UInt8} {close : Bool} (h : ¬ (writeP m p hs body close).2 = 0) : (writeP m p hs body close).1 = [] := by
  unfold writeP at h ⊢
  split at h
  · rename_i h1; rw [if_pos h1]
  rename_i h1
  rw [if_neg h1]
  split at h
  · rename_i h2; rw [if_pos h2]
  rename_i h2
  rw [if_neg h2]
  split at h
  · rename_i h3; rw [if_pos h3]
  rename_i h3
  rw [if_neg h3]
  split at h
  · rename_i h4; rw [if_pos h4]
  · exact absurd rfl h
/-- What the law compares. -/
theorem back_all (m p : ByteArray) (hs : List Hd) (body : ByteArray) (close : Bool) (c : List UInt8) (h : (writeP m.data.toList p.data.toList hs body.data.toList close).2 = 0) :
    allP ((writeP m.data.toList p.data.toList hs body.data.toList close).1 ++ c) = (⟨m, p, hs, body, close⟩ :: (allP c).1, (allP c).2) := all_done (write_back m p hs body close c h)
theorem headsSum_mem {hs : List Hd} {h : Hd} (hh : h ∈ hs) : h.n.size + h.v.size ≤ headsSum hs := by
  unfold headsSum
  induction hs with
  | nil => cases hh
  | cons x t ih =>
    rw [List.map_cons, List.sum_cons]
    rcases List.mem_cons.1 hh with rfl | hh
    · omega
    · have := ih hh
      omega
/-- What reading all bytes leaves, in letters. -/
def AllAt (w : World) (l : List Rq) (k e : Int) (en : Ending) (w' : World) : Prop :=
  ∃ (v : Value) (ts : List (Rq × Value)), en = .returned (.tuple #[v, .int .i64 k, .int .i64 e]) ∧ ToldAt w' v ts ∧ ts.map Prod.fst = l ∧ Below w.heap.size w w'
theorem all_at {W : World} {b : List UInt8} {l : List Rq} {k e : Int} {en : Ending} {w' : World} (h : AllPost W b en w') (h1 : (allP b).1 = l) (h2 : (b.length : Int) - (allP b).2.1.length = k) (h3 : (allP b).2.2 = e) : AllAt W l k e en w' := by
  subst h1 h2 h3; exact h
set_option maxRecDepth 100000 in
set_option maxHeartbeats 6400000 in
theorem lw_back (m p body : ByteArray) (close : Bool) (a : Option Addr) (b off n cap : Nat) (hs : List Hd) (more : ByteArray) (w : World) (he : EnvZ w) (hn : n = hs.length) (hcap : n ≤ cap) (ha : 0 < n → a = some ⟨b, off, none⟩) (hH : HeadsAt w b off hs)
    (sm : m.size ≤ 2000000) (sp : p.size ≤ 2000000) (sb : body.size ≤ 2000000) (sh : ∀ h ∈ hs, h.n.size + h.v.size ≤ 2000000) (smr : more.size ≤ 2000000) :
    Calls Tryz.prog 8 #[.agg #[.string m, .string p, .slice a n cap, .string body, .bool close], .string more] w fun e w' => e = .returned (.bool true) ∧ Below w.heap.size w w' := by
  have HE := Lib.hid he; clear he
  obtain ⟨Q, hQ⟩ : ∃ Q : Ending → World → Prop, Q = fun e w' => e = .returned (.bool true) ∧ Below w.heap.size w w' := ⟨_, rfl⟩
  rw [← hQ]
  have HF : Hid (∀ W, Below w.heap.size w W → Q (.returned (.bool true)) W) := fun W hW => by rw [hQ]; exact ⟨rfl, hW⟩
  clear hQ
  have HH : Hid (∀ W, Below w.heap.size w W → HeadsAt W b off hs) := fun W hW => hH.below hW
  have HN := Lib.hid hn; clear hn
  have HA := Lib.hid ha; clear ha
  have HSH := Lib.hid sh; clear sh hH
  obtain ⟨w0, hw0⟩ : ∃ w0, w0 = w.alloc (.cells #[.string m, .string p, .slice a n cap, .string body, .bool close] 33) := ⟨_, rfl⟩
  have hB0 : Below w.heap.size w w0 := by rw [hw0]; exact bl_alloc (Below.refl _ _) _
  have hz0 : w0.heap.size = w.heap.size + 1 := by rw [hw0]; simp
  have hRB : Blk w0 w.heap.size 33 #[.string m, .string p, .slice a n cap, .string body, .bool close] := by rw [hw0]; exact Blk.new _ _ _
  have HCL : Hid (∀ W, Below w0.heap.size w0 W → W.cell? ⟨w.heap.size, 0, none⟩ = some (.string m) ∧ W.cell? ⟨w.heap.size, 1, none⟩ = some (.string p) ∧ W.cell? ⟨w.heap.size, 2, none⟩ = some (.slice a n cap) ∧ W.cell? ⟨w.heap.size, 3, none⟩ = some (.string body) ∧ W.cell? ⟨w.heap.size, 4, none⟩ = some (.bool close)) := fun W hW => by
    have h1 : Blk W w.heap.size 33 #[.string m, .string p, .slice a n cap, .string body, .bool close] := (hW.block _ (by omega)).trans hRB
    exact ⟨h1.cell 0, h1.cell 1, h1.cell 2, h1.cell 3, h1.cell 4⟩
  have HAL := Lib.hid (lw_alive w0 (HE.out.below hB0))
  have HLG : Hid (∀ W, Below w.heap.size w W → Calls Tryz.prog 24 #[.agg #[.string m, .string p, .slice a n cap, .string body, .bool close]] W fun e w' => e = .returned (.bool (decide (100 < n) || decide (20000 < m.size + p.size + body.size + headsSum hs))) ∧ Below W.heap.size W w') := fun W hW =>
    lw_long m p body close a b off n cap hs W HN.out HA.out (HH.out W hW) (by omega) (by omega) (by omega) (fun h hh => by have := HSH.out h hh; omega)
  have HB0 := Lib.hid hB0; clear hB0 hRB
  have HZ0 := Lib.hid hz0; clear hz0
  obtain ⟨R, hR⟩ : ∃ R, R = w.heap.size := ⟨_, rfl⟩
  rw [← hR] at HCL
  go_enter Tryz.func8, Tryz.ntmps8
  go_wp2_with fail
  rw [← hw0, ← hR]
  have HR := Lib.hid hR; clear hR hw0
  refine HAL.out.mono ?_
  rintro en w1 ⟨rfl, hb1⟩
  have HB1 : Hid (Below w0.heap.size w0 w1) := hb1
  have HB1' : Hid (Below w.heap.size w w1) := bl_trans HB0.out hb1
  clear hb1
  obtain ⟨c0, c1, c2, c3, c4⟩ := HCL.out w1 HB1.out
  have HL1 := Lib.hid (HLG.out w1 HB1'.out)
  clear HLG
  by_cases hlong : 100 < n ∨ 20000 < m.size + p.size + body.size + headsSum hs
  · rw [show (decide (100 < n) || decide (20000 < m.size + p.size + body.size + headsSum hs)) = true by simpa using hlong] at HL1
    clear hlong
    go_wp2_with fail
    refine HL1.out.mono ?_
    rintro en w2 ⟨rfl, hb2⟩
    have HB2 : Hid (Below w.heap.size w w2) := bl_trans HB1'.out hb2
    clear hb2
    go_wp2_with fail
    exact HF.out _ HB2.out
  · rw [show (decide (100 < n) || decide (20000 < m.size + p.size + body.size + headsSum hs)) = false by simpa using hlong] at HL1
    have hn100 : n ≤ 100 := by omega
    have HSUM : Hid (m.size + p.size + body.size + headsSum hs ≤ 20000) := by show _ ≤ _; omega
    clear hlong
    by_cases hmr : 5000 < more.size
    · go_wp2_with fail
      refine HL1.out.mono ?_
      rintro en w2 ⟨rfl, hb2⟩
      have HB2 : Hid (Below w.heap.size w w2) := bl_trans HB1'.out hb2
      clear hb2
      go_wp2_with fail
      exact HF.out _ HB2.out
    · go_wp2_with fail
      refine HL1.out.mono ?_
      rintro en w2 ⟨rfl, hb2⟩
      have HB2 : Hid (Below w0.heap.size w0 w2) := bl_trans HB1.out hb2
      have HB2' : Hid (Below w.heap.size w w2) := bl_trans HB1'.out hb2
      clear hb2 c0 c1 c2 c3 c4
      obtain ⟨c0, c1, c2, c3, c4⟩ := HCL.out w2 HB2.out
      have HW := Lib.hid (wr_Write m p body close a b off n cap hs w2 (HE.out.below HB2'.out).1 HN.out hcap (by omega) HA.out (HH.out w2 HB2'.out) (by have := HSUM.out; omega) (by have := HSUM.out; omega) (by have := HSUM.out; omega) (fun h hh => by have := HSUM.out; have := headsSum_mem hh; omega))
      by_cases he0 : (writeP m.data.toList p.data.toList hs body.data.toList close).2 = 0
      · have hsz := writeP_size he0
        have hb0 := fun c => back_all m p hs body close c he0
        obtain ⟨s, hs'⟩ : ∃ s : ByteArray, (⟨(writeP m.data.toList p.data.toList hs body.data.toList close).1.toArray⟩ : ByteArray) = s := ⟨_, rfl⟩
        have hsd : s.data.toList = (writeP m.data.toList p.data.toList hs body.data.toList close).1 := by rw [← hs']
        rw [he0, hs'] at HW
        rw [← hsd] at hsz hb0
        clear hs' hsd he0
        have hss : s.size ≤ 10000 := by simpa using hsz
        have hsl : s.data.toList.length = s.size := by simp
        have hml : more.data.toList.length = more.size := by simp
        have hq1 := hb0 []
        rw [List.append_nil, all_none] at hq1
        have hq2 := hb0 more.data.toList
        have hl3 := all_len more.data.toList
        have hh3 := all_heads more.data.toList
        have hhs : hs.length ≤ 32 := all_heads _ (⟨m, p, hs, body, close⟩ : Rq) (by rw [hq1]; exact List.mem_singleton.2 rfl)
        obtain ⟨l3, hl3'⟩ : ∃ l3, (allP more.data.toList).1 = l3 := ⟨_, rfl⟩
        obtain ⟨k3, hk3⟩ : ∃ k3, (more.data.toList.length : Int) - (allP more.data.toList).2.1.length = k3 := ⟨_, rfl⟩
        obtain ⟨e3, he3⟩ : ∃ e3, (allP more.data.toList).2.2 = e3 := ⟨_, rfl⟩
        have HA1 : Hid (∀ W, EnvZ W → Calls Tryz.prog 18 #[.string s] W (AllAt W [⟨m, p, hs, body, close⟩] s.size 0)) := fun W hW => (rk_all s W hW (by omega)).mono fun _ _ h => all_at h (by rw [hq1]) (by rw [hq1]; simp) (by rw [hq1])
        have HA2 : Hid (∀ W, EnvZ W → Calls Tryz.prog 18 #[.string (s ++ more)] W (AllAt W (⟨m, p, hs, body, close⟩ :: l3) ((s.size : Int) + k3) e3)) := fun W hW => by
          have := rk_all (s ++ more) W hW (by rw [ByteArray.size_append]; omega)
          rw [show (s ++ more).data.toList = s.data.toList ++ more.data.toList by simp [ByteArray.data_append]] at this
          refine this.mono fun _ _ h => all_at h (by rw [hq2, hl3']) ?_ (by rw [hq2]; exact he3)
          rw [hq2, List.length_append, ← hk3, hsl]
          simp only
          omega
        have HA3 : Hid (∀ W, EnvZ W → Calls Tryz.prog 18 #[.string more] W (AllAt W l3 k3 e3)) := fun W hW => (rk_all more W hW (by omega)).mono fun _ _ h => all_at h hl3' hk3 he3
        have hk31 : 0 ≤ k3 := by omega
        have hk32 : k3 ≤ 5000 := by omega
        have HL3 : Hid (l3.length ≤ 5000) := by show _ ≤ _; rw [← hl3']; omega
        rw [hl3'] at hh3
        have HH3 := Lib.hid hh3
        have HHS := Lib.hid hhs
        clear hsz hb0 hsl hml hq1 hq2 hl3 hh3 hl3' hk3 he3 hhs
        unfold AllAt at HA1 HA2 HA3
        go_wp2_with fail
        refine HW.out.mono ?_
        rintro en w3 ⟨rfl, hb3⟩
        have HB3 : Hid (Below w0.heap.size w0 w3) := bl_trans HB2.out hb3
        have HB3' : Hid (Below w.heap.size w w3) := bl_trans HB2'.out hb3
        clear hb3 c0 c1 c2 c3 c4 HW HL1
        go_wp2_with fail
        refine (HA1.out _ (HE.out.below HB3'.out)).mono ?_
        rintro en w4 ⟨v1, t1, rfl, ht1, hm1, hb4⟩
        have HB4 : Hid (Below w0.heap.size w0 w4) := bl_trans HB3.out hb4
        have HB4' : Hid (Below w.heap.size w w4) := bl_trans HB3'.out hb4
        clear hb4
        obtain ⟨c0, c1, c2, c3, c4⟩ := HCL.out w4 HB4.out
        have hl1 : t1.length = 1 := by have := congrArg List.length hm1; simpa using this
        rcases told_form ht1 with ⟨_, h0⟩ | ⟨g1, cp1, rfl, hcp1⟩
        · rw [h0] at hl1; simp at hl1
        · have hr := ht1.rqs 0 (by omega)
          have hq : t1[0].1 = ⟨m, p, hs, body, close⟩ := by
            have := congrArg (fun l => l[0]?) hm1
            simpa [hl1] using this
          rw [hq] at hr
          obtain ⟨d0, d1, d2, d3, d4, y1, cy1, b2, of2, hy1, hy2, hy3⟩ := hr
          rw [hy1] at d2
          simp only [Nat.zero_add, Nat.zero_mul] at d0 d1 d2 d3 d4
          rw [hl1]
          have hnh : n = hs.length := HN.out
          rw [← hnh] at hy1 hy2 d2
          have cS : ∀ d os, Calls Tryz.prog 17 #[.agg #[.string m, .string p, .slice y1 n cy1, .string body, .bool close], .agg #[.string m, .string p, .slice a n cap, .string body, .bool close]] (grow (redrawn w4 d) os) fun e w'' => e = .returned (.bool true) ∧ ∃ r : Regrown, w'' = grow (redrawn w4 r.d) r.os := fun d os =>
            Calls.regrown_of (rf_Same m p body close y1 a b2 of2 cy1 b off cap n hs (grow (redrawn w4 d) os) hnh hy2 HA.out (hy3.below (below_regrown w4 d os)) ((HH.out w4 HB4'.out).below (below_regrown w4 d os)) (by omega))
          have CS := Lib.hid cS
          have k0 := cell_regrown c0
          have k1 := cell_regrown c1
          have k2 := cell_regrown c2
          have k3' := cell_regrown c3
          have k4 := cell_regrown c4
          have e0 := cell_regrown d0
          have e1 := cell_regrown d1
          have e2 := cell_regrown d2
          have e3' := cell_regrown d3
          have e4 := cell_regrown d4
          clear cS hnh hy1 hy2 hy3 hq ht1 hm1 hl1 c0 c1 c2 c3 c4 d0 d1 d2 d3 d4
          go_wp2_with fail
          refine wp_region_quiet_below (by kernel_rfl) (by kernel_rfl) ?_
          iterate 18 (quiet_step (fail))
          iterate 3 (quiet_step (exact CS.out _ _))
          simp only [wpQuiet]
          intro _ hw'
          obtain ⟨⟨dq, osq⟩, hw''⟩ := hw'
          subst hw''
          have hb5 : Below w4.heap.size w4 (grow (redrawn w4 dq) osq) := below_regrown w4 dq osq
          generalize grow (redrawn w4 dq) osq = w5 at hb5 ⊢
          have HB5 : Hid (Below w0.heap.size w0 w5) := bl_trans HB4.out hb5
          have HB5' : Hid (Below w.heap.size w w5) := bl_trans HB4'.out hb5
          clear hb5 k0 k1 k2 k3' k4 e0 e1 e2 e3' e4 CS
          go_wp2_with fail
          refine (HA2.out _ (HE.out.below HB5'.out)).mono ?_
          rintro en w6 ⟨v2, t2, rfl, ht2, hm2, hb6⟩
          have HB6 : Hid (Below w0.heap.size w0 w6) := bl_trans HB5.out hb6
          have HB6' : Hid (Below w.heap.size w w6) := bl_trans HB5'.out hb6
          clear hb6
          go_wp2_with fail
          refine (HA3.out _ (HE.out.below HB6'.out)).mono ?_
          rintro en w7 ⟨v3, t3, rfl, ht3, hm3, hb7⟩
          have HB7 : Hid (Below w0.heap.size w0 w7) := bl_trans HB6.out hb7
          have HB7' : Hid (Below w.heap.size w w7) := bl_trans HB6'.out hb7
          replace ht2 := ht2.below hb7
          clear hb7
          have hl3 : t3.length = l3.length := by rw [← hm3]; simp
          have hl2 : t2.length = t3.length + 1 := by rw [hl3]; have := congrArg List.length hm2; simpa using this
          obtain ⟨X3, cp3, g3, rfl, hc3, hn3, hx3, hr3⟩ := told_any ht3
          rcases told_form ht2 with ⟨_, h0⟩ | ⟨g2, cp2, rfl, hcp2⟩
          · rw [h0] at hl2; simp at hl2
          · have hr2 := ht2.rqs
            have hr := hr2 0 (by omega)
            have hq : t2[0].1 = ⟨m, p, hs, body, close⟩ := by
              have := congrArg (fun l => l[0]?) hm2
              simpa [show 0 < t2.length by omega] using this
            rw [hq] at hr
            obtain ⟨d0, d1, d2, d3, d4, y1, cy1, b2, of2, hy1, hy2, hy3⟩ := hr
            rw [hy1] at d2
            simp only [Nat.zero_add, Nat.zero_mul] at d0 d1 d2 d3 d4
            rw [hl2]
            have hnh : n = hs.length := HN.out
            rw [← hnh] at hy1 hy2 d2
            obtain ⟨c0, c1, c2, c3, c4⟩ := HCL.out w7 HB7.out
            have hn35 : t3.length ≤ 5000 := by rw [hl3]; exact HL3.out
            have hdm : (t2.drop 1).map Prod.fst = t3.map Prod.fst := by rw [List.map_drop, hm2, hm3]; rfl
            have hdl : (t2.drop 1).length = t3.length := by rw [List.length_drop]; omega
            have hrd := hr2.drop 1
            simp only [Nat.zero_add, Nat.one_mul] at hrd
            have cS : ∀ d os, Calls Tryz.prog 17 #[.agg #[.string m, .string p, .slice y1 n cy1, .string body, .bool close], .agg #[.string m, .string p, .slice a n cap, .string body, .bool close]] (grow (redrawn w7 d) os) fun e w'' => e = .returned (.bool true) ∧ ∃ r : Regrown, w'' = grow (redrawn w7 r.d) r.os := fun d os =>
              Calls.regrown_of (rf_Same m p body close y1 a b2 of2 cy1 b off cap n hs (grow (redrawn w7 d) os) hnh hy2 HA.out (hy3.below (below_regrown w7 d os)) ((HH.out w7 HB7'.out).below (below_regrown w7 d os)) (by omega))
            have CS := Lib.hid cS
            have cT : ∀ A1, (0 < t3.length → A1 = some ⟨g2, 5, none⟩) → ∀ d os, Calls Tryz.prog 19 #[.slice A1 t3.length (cp2 - 1), .slice X3 t3.length cp3] (grow (redrawn w7 d) os) fun e w'' => e = .returned (.bool true) ∧ ∃ r : Regrown, w'' = grow (redrawn w7 r.d) r.os := fun A1 hA1 d os =>
              Calls.regrown_of (lw_same A1 X3 g2 5 g3 0 t3.length (cp2 - 1) cp3 (t2.drop 1) t3 (grow (redrawn w7 d) os) hdl rfl hA1 hx3 (hrd.below (below_regrown w7 d os)) (hr3.below (below_regrown w7 d os)) hdm (by rw [hdm, hm3]; exact HH3.out) (by omega))
            have k0 := cell_regrown c0
            have k1 := cell_regrown c1
            have k2 := cell_regrown c2
            have k3' := cell_regrown c3
            have k4 := cell_regrown c4
            have e0 := cell_regrown d0
            have e1 := cell_regrown d1
            have e2 := cell_regrown d2
            have e3' := cell_regrown d3
            have e4 := cell_regrown d4
            rw [hl2] at hcp2
            have HLL2 := Lib.hid hl2
            have HLL3 := Lib.hid hl3
            clear cS hnh hy1 hy2 hy3 hq c0 c1 c2 c3 c4 d0 d1 d2 d3 d4 hl2 hl3 hx3 hr3 hr2 ht2 ht3 hm2 hm3 hdm hdl hrd hn3
            obtain ⟨n3, hn3⟩ : ∃ n3, n3 = t3.length := ⟨_, rfl⟩
            rw [← hn3] at cT hcp2 hc3 hn35 ⊢
            clear hn3
            by_cases hcp : cp2 = 1
            · obtain rfl : n3 = 0 := by omega
              subst hcp
              simp only [Nat.sub_self] at cT
              have CT := Lib.hid (cT (some ⟨g2, 0, none⟩) (fun h => absurd h (by omega)))
              clear cT
              go_wp2_with fail
              have f1 : IntKind.i64.wrap ((s.size : Int) + k3) = (s.size : Int) + k3 := IntWalk.i64_in _ (by omega)
              refine wp_region_quiet_below (by kernel_rfl) (by kernel_rfl) ?_
              iterate 24 (quiet_step (fail))
              iterate 9 (quiet_step (first | exact CS.out _ _ | exact CT.out _ _))
              simp only [wpQuiet]
              intro _ hw'
              obtain ⟨⟨dq, osq⟩, hw''⟩ := hw'
              subst hw''
              have HB8 : Hid (Below w.heap.size w (grow (redrawn w7 dq) osq)) := bl_trans HB7'.out (below_regrown w7 dq osq)
              go_wp2_with fail
              exact HF.out _ HB8.out
            · have CT := Lib.hid (cT (some ⟨g2, 5, none⟩) (fun _ => rfl))
              clear cT
              go_wp2_with fail
              have f1 : IntKind.i64.wrap ((s.size : Int) + k3) = (s.size : Int) + k3 := IntWalk.i64_in _ (by omega)
              have f2 : IntKind.i64.wrap ((n3 : Int) + 1) = (n3 : Int) + 1 := IntWalk.i64_in _ (by omega)
              have f3 : (1 : Int) ≤ (n3 : Int) + 1 := by omega
              refine wp_region_quiet_below (by kernel_rfl) (by kernel_rfl) ?_
              iterate 24 (quiet_step (fail))
              iterate 9 (quiet_step (first | exact CS.out _ _ | exact CT.out _ _))
              simp only [wpQuiet]
              intro _ hw'
              obtain ⟨⟨dq, osq⟩, hw''⟩ := hw'
              subst hw''
              have HB8 : Hid (Below w.heap.size w (grow (redrawn w7 dq) osq)) := bl_trans HB7'.out (below_regrown w7 dq osq)
              go_wp2_with fail
              exact HF.out _ HB8.out
      · have hbad := writeP_bad0 he0
        rw [hbad] at HW
        generalize (writeP m.data.toList p.data.toList hs body.data.toList close).2 = e at HW he0
        clear hbad
        go_wp2_with fail
        refine HW.out.mono ?_
        rintro en w3 ⟨rfl, hb3⟩
        have HB3 : Hid (Below w.heap.size w w3) := bl_trans HB2'.out hb3
        clear hb3
        go_wp2_with fail
        exact HF.out _ HB3.out
end Go.Proofs.YtnicmdlicbnlgaaGreatDoor
