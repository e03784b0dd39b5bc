/-
  Walk: the law that a reader tells, as bytes come in pieces, what the document says.
-/
import Derived.Test.YtnicmdlicbnlgaaGreatDoorRp
import Derived.Test.YtnicmdlicbnlgaaGreatDoorTl
import Derived.Test.YtnicmdlicbnlgaaGreatDoorPi
import Derived.Lib.QuietBelow
namespace Go.Proofs.YtnicmdlicbnlgaaGreatDoor
open Go.RowKit
set_option linter.unusedVariables false
set_option linter.unusedSimpArgs false
open Go.Sort

def sizesTo (l : List ByteArray) (k : Nat) : Nat := ((l.take k).map (·.size)).sum
theorem sizesTo_succ (l : List ByteArray) (k : Nat) (h : k < l.length) : sizesTo l (k + 1) = sizesTo l k + l[k].size := by
  unfold sizesTo
  rw [List.take_succ_eq_append_getElem h, List.map_append, List.sum_append]
  simp
theorem sizesTo_le (l : List ByteArray) (k : Nat) : sizesTo l k ≤ (l.map (·.size)).sum := by
  unfold sizesTo
  have : (l.map (·.size)).sum = ((l.take k).map (·.size)).sum + ((l.drop k).map (·.size)).sum := by
    rw [← List.sum_append, ← List.map_append, List.take_append_drop]
  omega
theorem sizesTo_all (l : List ByteArray) : sizesTo l l.length = (l.map (·.size)).sum := by unfold sizesTo; rw [List.take_length]
/-- Between two pieces. -/
def FeedRel (w : World) (R : Nat) (l : List ByteArray) (n : Nat) (al tl i : Value) (wr : World) : Prop :=
  ∃ (k : Nat) (s : ByteArray) (told : List Rq), i = .int .i64 k ∧ k ≤ n ∧ al = .string s ∧ tl = .int .i64 told.length ∧ s.size ≤ sizesTo l k ∧ told.length ≤ 30000 ∧ Hid (TellAt (fun k => w.heap.size ≤ k) wr R s.data.toList told) ∧ Hid (Below w.heap.size w wr)
theorem tl_feed_long (fp : Nat → Prop) (w : World) (R : Nat) (F : List UInt8) (told : List Rq) (x : ByteArray) (h : TellAt fp w R F told) (hx : 16384 < x.size) :
    Calls Tryz.prog 14 #[.pointer (some ⟨R, 0, none⟩), .string x] w fun e w' => e = .returned (.int .i64 3) ∧ w' = w := by
  obtain ⟨s, b, bv, hv, yv, wrong, used, taken, h1, h2, h3, h4, h5, h6⟩ := h
  exact rk_feed_long w.heap.size (foot R bv hv yv) R true s b bv hv yv wrong used taken x w h1 hx
set_option maxRecDepth 100000 in
set_option maxHeartbeats 6400000 in
theorem lw_feeds (A : Option Addr) (g off n cap : Nat) (l : List ByteArray) (A2 : Option Addr) (g2 off2 n2 cap2 : Nat) (bs : List Bool) (w : World) (he : EnvZ w) (hn : l.length = n) (hA : 0 < n → A = some ⟨g, off, none⟩) (hc : ∀ i (h : i < l.length), w.cell? ⟨g, off + i, none⟩ = some (.string l[i]))
    (hn2 : bs.length = n2) (hA2 : 0 < n2 → A2 = some ⟨g2, off2, none⟩) (hc2 : ∀ i (h : i < bs.length), w.cell? ⟨g2, off2 + i, none⟩ = some (.bool bs[i])) (hsum : (l.map (·.size)).sum ≤ 1048576) (hnn : n ≤ 140737488355328) (hnn2 : n2 ≤ 140737488355328) :
    Calls Tryz.prog 3 #[.slice A n cap, .slice A2 n2 cap2] w fun e w' => e = .returned (.bool true) ∧ Below w.heap.size w w' := by
  have HE := Lib.hid (EnvAt.start he); clear he
  have Hn := Lib.hid hn; clear hn
  have HA := Lib.hid hA; clear hA
  have HC := Lib.hid hc; clear hc
  have Hn2 := Lib.hid hn2; clear hn2
  have HA2 := Lib.hid hA2; clear hA2
  have HC2 := Lib.hid hc2; clear hc2
  have HSUM := Lib.hid hsum; clear hsum
  obtain ⟨Q, hQ⟩ : ∃ Q : Ending → World → Prop, Q = fun e w' => e = .returned (.bool true) ∧ Below w.heap.size w w' := ⟨_, rfl⟩
  rw [← hQ]
  have HF : Hid (∀ W, Below w.heap.size w W → Q (.returned (.bool true)) W) := fun W hW => by rw [hQ]; exact ⟨rfl, hW⟩
  clear hQ
  go_enter Tryz.func3, Tryz.ntmps3
  go_wp2_with fail
  go_loop [5, 6] (fun s i => ∃ k : Nat, k ≤ n ∧ i = .int .i64 k ∧ s = .int .i64 (sizesTo l k)) (fun _ i => n - (intOf i).toNat)
  case atStart => exact ⟨0, Nat.zero_le _, rfl, rfl⟩
  case round =>
    obtain ⟨k, hk, rfl, rfl⟩ := hrel
    have hs1 : sizesTo l k ≤ 1048576 := Nat.le_trans (sizesTo_le l k) HSUM.out
    by_cases hlt : k < n
    · have hkl : k < l.length := by have := Hn.out; omega
      have eA := HA.out (by omega)
      subst eA
      have hcell := HC.out k hkl
      have hsz := sizesTo_succ l k hkl
      have hs2 : sizesTo l k + l[k].size ≤ 1048576 := by have := Nat.le_trans (sizesTo_le l (k + 1)) HSUM.out; omega
      have HSZ := Lib.hid hsz; clear hsz
      generalize l[k] = x at hcell hs2 HSZ
      have HREL : Hid (∃ k' : Nat, k' ≤ n ∧ Value.int .i64 ((k : Int) + 1) = .int .i64 k' ∧ Value.int .i64 ((sizesTo l k : Int) + x.size) = .int .i64 (sizesTo l k')) := ⟨k + 1, by omega, by simp, by rw [HSZ.out]; simp⟩
      go_wp2_with fail
      go_round
      case rel => exact HREL.out
      case measure => simp [intOf]; omega
    · obtain rfl : k = n := by omega
      have hall : sizesTo l k = (l.map (·.size)).sum := by have := Hn.out; rw [← this]; exact sizesTo_all l
      have HALL := Lib.hid hall; clear hall
      by_cases hbig : 30000 < sizesTo l k
      · generalize sizesTo l k = sz at hs1 hbig
        go_wp2_with fail
        exact HF.out _ (Below.refl _ _)
      · by_cases hmany : 300 < k
        · generalize sizesTo l k = sz at hs1 hbig
          go_wp2_with fail
          exact HF.out _ (Below.refl _ _)
        · have HBIG : Hid ((l.map (·.size)).sum ≤ 30000) := by show _ ≤ _; rw [← HALL.out]; omega
          have HNEW := Lib.hid (rk_new w)
          generalize sizesTo l k = sz at hs1 hbig
          go_wp2_with fail
          refine HNEW.out.mono ?_
          rintro en w2 ⟨rfl, hw2⟩
          have hAg : TellAt (fun k => w.heap.size ≤ k) w2 w.heap.size [] [] := by rw [hw2]; exact (TellAt.new w).mono fun k hk h => by omega
          have hB2 : Below w.heap.size w w2 := by rw [hw2]; exact bl_alloc (Below.refl _ _) _
          have HST : Hid (FeedRel w w.heap.size l k (.string ⟨#[]⟩) (.int .i64 0) (.int .i64 0) w2) := ⟨0, ⟨#[]⟩, [], rfl, Nat.zero_le _, rfl, rfl, Nat.zero_le _, Nat.zero_le _, hAg, hB2⟩
          clear hAg hB2 hw2 HNEW
          obtain ⟨R, hR⟩ : ∃ R, R = w.heap.size := ⟨_, rfl⟩
          rw [← hR] at HST ⊢
          clear hR
          go_wp2_with fail
          clear hs1 hbig hmany HALL
          have Hnl : Hid (l.length ≤ k) := by show l.length ≤ k; have := Hn.out; omega
          go_loopw [8, 9, 10] (fun al tl i wr => FeedRel w R l k al tl i wr) (fun _ _ i _ => k - (intOf i).toNat)
          case atStart => exact HST.out
          case round =>
            obtain ⟨j, s, told, rfl, hj, rfl, rfl, hss, htl, HT, HB⟩ := hrel
            by_cases hjk : j < k
            · have hjl : j < l.length := by have := Hn.out; omega
              have eA := HA.out (by omega)
              subst eA
              have hcell : wr.cell? ⟨g, off + j, none⟩ = some (.string l[j]) := (HB.out.cell (p := ⟨g, off + j, none⟩) (lt_of_cell (HC.out j hjl))).trans (HC.out j hjl)
              have hsz := sizesTo_succ l j hjl
              have hle := Nat.le_trans (sizesTo_le l (j + 1)) HBIG.out
              obtain ⟨x, hx⟩ : ∃ x, x = l[j] := ⟨_, rfl⟩
              have hs3 : s.size + x.size ≤ sizesTo l (j + 1) := by rw [hx]; omega
              have hs4 : s.size + x.size ≤ 30000 := by omega
              rw [← hx] at hcell
              have HCE : Hid (∀ W, Below w.heap.size w W → W.cell? ⟨g, off + j, none⟩ = some (.string x)) := fun W hW => by rw [hx]; exact (hW.cell (p := ⟨g, off + j, none⟩) (lt_of_cell (HC.out j hjl))).trans (HC.out j hjl)
              have HS3 := Lib.hid hs3
              clear hsz hle hss hx hs3
              by_cases hxl : 16384 < x.size
              · have HFD := Lib.hid (tl_feed_long _ wr R _ told x HT.out hxl)
                have HN : Hid (FeedRel w R l k (.string s) (.int .i64 told.length) (.int .i64 ((j : Int) + 1)) wr) := ⟨j + 1, s, told, by simp, hjk, rfl, rfl, by have := HS3.out; omega, htl, HT, HB⟩
                go_wp2_with fail
                refine HFD.out.mono ?_
                rintro en w2 ⟨rfl, rfl⟩
                go_wp2_with fail
                go_roundw
                case rel => exact HN.out
                case measure => simp [intOf]; omega
              · have HFD := Lib.hid (tl_feed _ wr R _ told x HT.out (by omega) (by simp; omega))
                go_wp2_with fail
                refine HFD.out.mono ?_
                rintro en w2 ⟨rfl, hT2, hA2⟩
                have hB2 : Below w.heap.size w w2 := HB.out.trans (hT2.to_below HB.out.size fun _ hk => hk)
                have hA3 : TellAt (fun k => w.heap.size ≤ k) w2 R (s ++ x).data.toList told := by
                  rw [show (s ++ x).data.toList = s.data.toList ++ x.data.toList by simp [ByteArray.data_append]]
                  exact hA2.mono fun k _ hk => hk.elim id fun h => Nat.le_trans HB.out.size h
                have hcell2 := HCE.out w2 hB2
                have hsx : (s ++ x).size = s.size + x.size := ByteArray.size_append
                have HN : Hid (∀ W told', Below w.heap.size w W → told'.length ≤ 30000 → TellAt (fun k => w.heap.size ≤ k) W R (s ++ x).data.toList told' → FeedRel w R l k (.string (s ++ x)) (.int .i64 told'.length) (.int .i64 ((j : Int) + 1)) W) := fun W told' hW hl hA => ⟨j + 1, s ++ x, told', by simp, hjk, rfl, rfl, by rw [hsx]; exact HS3.out, hl, hA, hW⟩
                have HA3 := Lib.hid hA3; clear hA3
                have HB2 := Lib.hid hB2; clear hB2
                clear hT2 hA2 HFD hcell
                by_cases hj2 : j < n2
                · have hj2l : j < bs.length := by have := Hn2.out; omega
                  have eA2 := HA2.out (by omega)
                  subst eA2
                  have hask : w2.cell? ⟨g2, off2 + j, none⟩ = some (.bool bs[j]) := (HB2.out.cell (p := ⟨g2, off2 + j, none⟩) (lt_of_cell (HC2.out j hj2l))).trans (HC2.out j hj2l)
                  cases hb : bs[j] with
                  | false =>
                    rw [hb] at hask
                    clear hb
                    go_wp2_with fail
                    go_roundw
                    case rel => exact HN.out _ _ HB2.out htl HA3.out
                    case measure => simp [intOf]; omega
                  | true =>
                    rw [hb] at hask
                    clear hb
                    go_wp2_with fail
                    have hfl : (s ++ x).data.toList.length ≤ 30000 := by simp; omega
                    have hs5 : (s ++ x).size ≤ 1000000 := by omega
                    generalize s ++ x = y at HA3 hfl hs5 HN ⊢
                    clear hsx HS3 hs4 hcell2 HCE hxl
                    refine (rf_AllB y _ hs5).mono ?_
                    rintro en w3 ⟨v2, t2, rfl, ht2, hm2, hb3, hv3, hx3⟩
                    have hall := (all_len y.data.toList).2
                    have hB3 : Below w.heap.size w w3 := bl_trans HB2.out hb3
                    have hA4 : TellAt (fun k => k < w2.heap.size ∧ w.heap.size ≤ k) w3 R y.data.toList told := (HA3.out.mono fun k hk h => ⟨hk, h⟩).below hb3
                    have HNX := Lib.hid (tl_next _ w3 R _ told w.heap.size (HE.out.below hB3 (Nat.le_refl _)) hB3.size (fun k hk => hk.2) hA4 (by omega))
                    obtain ⟨X2, c2, gg, rfl, hcc, hnn3, hxx, hrr⟩ := told_any ht2
                    have hkeep : ∀ W, Turned w3.heap.size (fun k => k < w2.heap.size ∧ w.heap.size ≤ k) w3 W → ToldAt W (.slice X2 t2.length c2) t2 := fun W hT => ht2.keep fun g' t' cs hg ht hw => hT.block g' (Array.getElem?_eq_some_iff.1 hg).1 fun hf => by
                      rcases hw with hw | ⟨z, hz, hw⟩
                      · have := hv3 g' hw; omega
                      · have := hx3 z hz g' hw; omega
                    have HKEEP := Lib.hid hkeep
                    have HM2 := Lib.hid hm2
                    have hl2 : t2.length = (allP y.data.toList).1.length := by rw [← hm2]; simp
                    have HL2 := Lib.hid hl2
                    have HB3 := Lib.hid hB3
                    have HSZ3 : Hid (w2.heap.size ≤ w3.heap.size) := hb3.size
                    have HALEN : Hid ((allP y.data.toList).1.length ≤ 30000) := by show _ ≤ _; omega
                    have hcc2 : t2.length ≤ 30000 := by omega
                    clear hkeep hm2 hl2 hB3 hb3 hA4 ht2 hv3 hx3 hnn3 hrr hall hxx HA3
                    generalize (y.data.toList.length : Int) - (allP y.data.toList).2.1.length = n1
                    obtain ⟨e1, he1⟩ : ∃ e1, (allP y.data.toList).2.2 = e1 := ⟨_, rfl⟩
                    rw [he1]
                    have HE1 := Lib.hid he1; clear he1
                    go_wp2_with fail
                    refine HNX.out.mono ?_
                    rintro en w4 ⟨hT4, hor⟩
                    have hB4 : Below w.heap.size w w4 := HB3.out.trans (hT4.to_below HB3.out.size fun k hk => hk.2)
                    have hTo := HKEEP.out w4 hT4
                    rcases hor with ⟨e, rfl, hA5, ha1, ha2⟩ | ⟨q, hq, rfl, hA5, hown, hqb, lr, hal⟩
                    · obtain rfl : e1 = e := by rw [← HE1.out, ← ha2]
                      have hlen : t2.length = told.length := by rw [HL2.out, ha1]
                      rw [hlen] at hcc hcc2 ⊢
                      have HNN : Hid (∀ W, Below w4.heap.size w4 W → FeedRel w R l k (.string y) (.int .i64 told.length) (.int .i64 ((j : Int) + 1)) W) := fun W hW => HN.out W told (bl_trans hB4 hW) htl ((hA5.mono fun k hk h => h.elim (fun h => h.2) fun h => Nat.le_trans HB3.out.size h).below hW)
                      clear hT4 hA5 ha1 ha2 hTo hlen HL2 HM2 HKEEP HE1 HNX HN hB4
                      unfold zeroReq
                      go_wp2_with fail
                      refine (rf_Same ⟨#[]⟩ ⟨#[]⟩ ⟨#[]⟩ false none none 0 0 0 0 0 0 0 [] _ rfl (fun h => absurd h (by decide)) (fun h => absurd h (by decide)) (fun i h => absurd h (by simp)) (fun i h => absurd h (by simp)) (by decide)).mono ?_
                      rintro en w5 ⟨rfl, hb5⟩
                      have HB5 : Hid (Below w4.heap.size w4 w5) := bl_trans (bl_alloc (Below.refl _ _) _) hb5
                      clear hb5
                      go_wp2_with fail
                      go_roundw
                      case rel => exact HNN.out _ HB5.out
                      case measure => simp [intOf]; omega
                    · obtain ⟨Hq, cq, rfl⟩ := own_slice hown
                      have hlen : t2.length = told.length + 1 + lr.length := by rw [HL2.out, hal]; simp; omega
                      have hlt2 : told.length < t2.length := by omega
                      have htold : told.length + 1 ≤ 30000 := by omega
                      rcases told_form hTo with ⟨e, h0⟩ | ⟨g3, c3, e, hc3⟩
                      · rw [h0] at hlt2; simp at hlt2
                      · injection e with e1' e2' e3'
                        subst e1'; subst e3'
                        have hr := hTo.rqs told.length hlt2
                        have hq1 : t2[told.length].1 = q := by
                          have := congrArg (fun l => l[told.length]?) HM2.out
                          rw [hal] at this
                          simpa [hlt2] using this
                        rw [hq1] at hr
                        obtain ⟨d0, d1, d2, d3, d4, y1, cy1, b2, of2, hy1, hy2, hy3⟩ := hr
                        rw [hy1] at d2
                        simp only [Nat.zero_add] at d0 d1 d2 d3 d4
                        obtain ⟨x1, cx1, b1, of1, hx1, hx2, hx3⟩ := HsAt.of_own hown
                        have hqh : q.hs.length ≤ 32 := all_heads y.data.toList q (by rw [hal]; simp)
                        injection hx1 with hx1a _ hx1c
                        subst hx1a; subst hx1c
                        have HQ := Lib.hid (rf_Same q.m q.p q.body q.close Hq y1 b1 of1 cq b2 of2 cy1 q.hs.length q.hs)
                        have HX2 := Lib.hid hx2
                        have HY2 := Lib.hid hy2
                        have HX3 := Lib.hid hx3
                        have HY3 := Lib.hid hy3
                        have HNN : Hid (∀ W, Below w4.heap.size w4 W → FeedRel w R l k (.string y) (.int .i64 ((told.length : Int) + 1)) (.int .i64 ((j : Int) + 1)) W) := fun W hW => by
                          have := HN.out W (told ++ [q]) (bl_trans hB4 hW) (by simp; omega) ((hA5.mono fun k hk h => h.1.elim (fun h => h.2) fun h => Nat.le_trans HB3.out.size h).below hW)
                          rwa [List.length_append, List.length_singleton, Int.natCast_add] at this
                        have hglt : g3 < w4.heap.size := lt_of_cell d0
                        clear hT4 hA5 hal hTo HL2 HM2 HKEEP HE1 HNX HN hB4 hq1 hown hqb hx2 hx3 hy1 hy2 hy3
                        have HLEN := Lib.hid hlen; clear hlen
                        obtain ⟨W5, hW5⟩ : ∃ W5, W5 = w4.alloc (Obj.cells #[.string q.m, .string q.p, .slice Hq q.hs.length cq, .string q.body, .bool q.close] 33) := ⟨_, rfl⟩
                        have hB5 : Below w4.heap.size w4 W5 := by rw [hW5]; exact bl_alloc (Below.refl _ _) _
                        have hq5 : Blk W5 w4.heap.size 33 #[.string q.m, .string q.p, .slice Hq q.hs.length cq, .string q.body, .bool q.close] := by rw [hW5]; exact Blk.new _ _ _
                        have k0 := cell_regrown (hq5.cell 0)
                        have k1 := cell_regrown (hq5.cell 1)
                        have k2 := cell_regrown (hq5.cell 2)
                        have k3 := cell_regrown (hq5.cell 3)
                        have k4 := cell_regrown (hq5.cell 4)
                        have e0 := cell_regrown ((hB5.cell (lt_of_cell d0)).trans d0)
                        have e1 := cell_regrown ((hB5.cell (lt_of_cell d1)).trans d1)
                        have e2 := cell_regrown ((hB5.cell (lt_of_cell d2)).trans d2)
                        have e3 := cell_regrown ((hB5.cell (lt_of_cell d3)).trans d3)
                        have e4 := cell_regrown ((hB5.cell (lt_of_cell d4)).trans d4)
                        have cS : ∀ d os, Calls Tryz.prog 17 #[.agg #[.string q.m, .string q.p, .slice Hq q.hs.length cq, .string q.body, .bool q.close], .agg #[.string q.m, .string q.p, .slice y1 q.hs.length cy1, .string q.body, .bool q.close]] (grow (redrawn W5 d) os) fun e w'' => e = .returned (.bool true) ∧ ∃ r : Regrown, w'' = grow (redrawn W5 r.d) r.os := fun d os =>
                          Calls.regrown_of (HQ.out _ rfl HX2.out HY2.out (HX3.out.below (hB5.trans ((below_regrown W5 d os).mono hB5.size))) (HY3.out.below (hB5.trans ((below_regrown W5 d os).mono hB5.size))) (by omega))
                        have CS := Lib.hid cS
                        obtain ⟨RQ, hRQ⟩ : ∃ RQ, RQ = w4.heap.size := ⟨_, rfl⟩
                        rw [← hRQ] at k0 k1 k2 k3 k4
                        have HB5 := Lib.hid hB5
                        clear cS hB5 hq5 d0 d1 d2 d3 d4 HQ HX2 HX3 HY2 HY3
                        unfold rqVal
                        go_wp2_with fail
                        rw [← hW5, ← hRQ]
                        clear hW5 hRQ
                        have f1 : (told.length : Int) < (told.length : Int) + 1 + lr.length := by omega
                        refine wp_region_quiet_below (by kernel_rfl) (by kernel_rfl) ?_
                        iterate 12 (quiet_step (fail))
                        iterate 3 (quiet_step (exact CS.out _ _))
                        simp only [wpQuiet]
                        intro _ hw'
                        obtain ⟨⟨dq, osq⟩, hw''⟩ := hw'
                        subst hw''
                        have HB6 : Hid (Below w4.heap.size w4 (grow (redrawn W5 dq) osq)) := HB5.out.trans ((below_regrown W5 dq osq).mono HB5.out.size)
                        go_wp2_with fail
                        go_roundw
                        case rel => exact HNN.out _ HB6.out
                        case measure => simp [intOf]; omega
                · go_wp2_with fail
                  go_roundw
                  case rel => exact HN.out _ _ HB2.out htl HA3.out
                  case measure => simp [intOf]; omega
            · go_wp2_with fail
              exact HF.out _ HB.out
end Go.Proofs.YtnicmdlicbnlgaaGreatDoor
