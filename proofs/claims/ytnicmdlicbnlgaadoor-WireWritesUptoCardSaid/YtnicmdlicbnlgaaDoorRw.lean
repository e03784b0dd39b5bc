/-
  Walk: docketref28.Write.
-/
import Derived.Test.YtnicmdlicbnlgaaDoorHd
import Derived.Test.YtnicmdlicbnlgaaDoorRf1
import Derived.Test.YtnicmdlicbnlgaaDoorRf2
import Derived.WalkKit
import Derived.WalkSpells
import Derived.WalkLawsBesides
import Derived.BigQuiet
import Derived.Deep.QuietTactic
import Derived.Lib.Hide
import Derived.Lib.QuietBelow
namespace Go.Proofs.YtnicmdlicbnlgaaDoor
open Go.RowKit
set_option linter.unusedVariables false
set_option linter.unusedSimpArgs false

theorem info_strR : (Tryd.prog.info? 9).map (fun i => (i.zero, i.size, i.bytes)) = some (some (.string ⟨#[]⟩), 1, 16) := by kernel_rfl
theorem to_below {f : FuncId} {args : Array Value} {w : World} {v : Value} (h : Calls Tryd.prog f args w fun e w' => e = .returned v ∧ w = w') : Calls Tryd.prog f args w fun e w' => e = .returned v ∧ Below w.heap.size w w' :=
  h.mono fun e w' ⟨h1, h2⟩ => ⟨h1, h2 ▸ Below.refl _ _⟩

set_option maxRecDepth 100000 in
set_option maxHeartbeats 8000000 in
theorem rf_Write (m p body : ByteArray) (close : Bool) (a : Option Addr) (b off n cap : Nat) (hs : List Hd) (w : World) (he : Env w) (hn : n = hs.length) (hcap : n ≤ cap) (hmax : n ≤ 1000)
    (ha : 0 < n → a = some ⟨b, off, none⟩) (hH : HeadsAt w b off hs) (sm : m.size ≤ 1000000) (sp : p.size ≤ 1000000) (sb : body.size ≤ 1000000) (sh : ∀ h ∈ hs, h.n.size ≤ 1000000 ∧ h.v.size ≤ 1000000) :
    Calls Tryd.prog 6 #[.agg #[.string m, .string p, .slice a n cap, .string body, .bool close]] w
      fun e w' => e = .returned (.tuple #[.string ⟨(writeP m.data.toList p.data.toList hs body.data.toList close).1.toArray⟩, .int .i64 (writeP m.data.toList p.data.toList hs body.data.toList close).2]) ∧ Below w.heap.size w w' := by
  obtain ⟨i0, hi, hz0, hz1, hz2⟩ := info_parts info_strR
  have Hn := Lib.hid hn; clear hn
  have HA := Lib.hid ha; clear ha
  cases hm : methodB m.data.toList with
  | false =>
    have HM := Lib.hid hm; clear hm
    go_enter Tryd.func6, Tryd.ntmps6
    go_wp2_with fail
    refine (to_below (rf_method m _ (by unfold maxLen; omega))).mono ?_
    rw [HM.out]
    rintro e w1 ⟨rfl, hb⟩
    go_wp2_with fail
    go_ret2
    exact ⟨ret_two (by rw [writeP, HM.out]; rfl), bl_trans (bl_alloc (Below.refl _ _) _) hb⟩
  | true =>
    have HM := Lib.hid hm; clear hm
    cases hp : pathB p.data.toList with
    | false =>
      have HP := Lib.hid hp; clear hp
      go_enter Tryd.func6, Tryd.ntmps6
      go_wp2_with fail
      refine (to_below (rf_method m _ (by unfold maxLen; omega))).mono ?_
      rw [HM.out]
      rintro e w1 ⟨rfl, hb⟩
      have h1 : w1.cell? ⟨w.heap.size, 1, none⟩ = some (.string p) := by
        rw [hb.cell (p := ⟨w.heap.size, 1, none⟩) (by simp)]; simp
      go_wp2_with fail
      refine (to_below (rf_path p _ (by unfold maxLen; omega))).mono ?_
      rw [HP.out]
      rintro e w2 ⟨rfl, hb2⟩
      go_wp2_with fail
      go_ret2
      exact ⟨ret_two (by rw [writeP, HM.out, HP.out]; rfl), bl_trans (bl_trans (bl_alloc (Below.refl _ _) _) hb) hb2⟩
    | true =>
      have HP := Lib.hid hp; clear hp
      go_enter Tryd.func6, Tryd.ntmps6
      go_wp2_with fail
      refine (to_below (rf_method m _ (by unfold maxLen; omega))).mono ?_
      rw [HM.out]
      rintro e w1 ⟨rfl, hb⟩
      have h1 : w1.cell? ⟨w.heap.size, 1, none⟩ = some (.string p) := by
        rw [hb.cell (p := ⟨w.heap.size, 1, none⟩) (by simp)]; simp
      go_wp2_with fail
      refine (to_below (rf_path p _ (by unfold maxLen; omega))).mono ?_
      rw [HP.out]
      rintro e w2 ⟨rfl, hb2⟩
      have hbB := bl_trans hb hb2
      have g0 : w2.cell? ⟨w.heap.size, 0, none⟩ = some (.string m) := by
        rw [hbB.cell (p := ⟨w.heap.size, 0, none⟩) (by simp)]; simp
      have g1 : w2.cell? ⟨w.heap.size, 1, none⟩ = some (.string p) := by
        rw [hbB.cell (p := ⟨w.heap.size, 1, none⟩) (by simp)]; simp
      have g2 : w2.cell? ⟨w.heap.size, 2, none⟩ = some (.slice a n cap) := by
        rw [hbB.cell (p := ⟨w.heap.size, 2, none⟩) (by simp)]; simp
      have g3 : w2.cell? ⟨w.heap.size, 3, none⟩ = some (.string body) := by
        rw [hbB.cell (p := ⟨w.heap.size, 3, none⟩) (by simp)]; simp
      have g4 : w2.cell? ⟨w.heap.size, 4, none⟩ = some (.bool close) := by
        rw [hbB.cell (p := ⟨w.heap.size, 4, none⟩) (by simp)]; simp
      have hbelow : Below w.heap.size w w2 := bl_trans (bl_alloc (Below.refl _ _) _) hbB
      have HBL := Lib.hid hbelow; clear hbelow hbB hb hb2 h1
      have he2 := he.below HBL.out
      have hH2 := hH.below HBL.out
      have HH2 := Lib.hid hH2; clear hH2
      go_wp2_with fail
      go_loopw [4, 5] (fun v i wr => ∃ k : Nat, k ≤ n ∧ i = .int .i64 k ∧ wr.ownsRow w2.heap.size 9 1 v k ((hs.take k).map fun h => .string ⟨(headLine h).toArray⟩) ∧ Below w2.heap.size w2 wr ∧ Hid ((hs.take k).all headOk = true)) (fun _ i _ => n - (intOf i).toNat)
      case atStart => exact ⟨0, Nat.zero_le _, rfl, World.ownsRow_nil _ _ _ _, Below.refl _ _, rfl⟩
      case round =>
        obtain ⟨k, hk, rfl, hown, hb, HK⟩ := hrel
        by_cases hlt : k < n
        · have hlt' : k < hs.length := by rw [← Hn.out]; exact hlt
          have hA := HA.out (by omega)
          obtain ⟨c0, c1⟩ := (HH2.out.below hb) k hlt'
          obtain ⟨nm, hnm⟩ : ∃ x, x = hs[k].n := ⟨_, rfl⟩
          obtain ⟨vl, hvl⟩ : ∃ x, x = hs[k].v := ⟨_, rfl⟩
          rw [← hnm] at c0
          rw [← hvl] at c1
          obtain ⟨sn, sv⟩ := sh hs[k] (List.getElem_mem _)
          rw [← hnm] at sn
          rw [← hvl] at sv
          have he3 := he2.below hb
          have HE3 := Lib.hid he3; clear he3
          have HNM := Lib.hid hnm; clear hnm
          have HVL := Lib.hid hvl; clear hvl
          obtain ⟨tb, htb⟩ : ∃ x, x = tokenB nm.data.toList := ⟨_, rfl⟩
          obtain ⟨lw, hlw⟩ : ∃ x : ByteArray, x = ⟨(smallB nm.data.toList).toArray⟩ := ⟨_, rfl⟩
          obtain ⟨vb, hvb⟩ : ∃ x, x = valueB vl.data.toList := ⟨_, rfl⟩
          obtain ⟨tv, htv⟩ : ∃ x : ByteArray, x = ⟨(Lib.trimS vl.data.toList [32, 9]).toArray⟩ := ⟨_, rfl⟩
          have HVB := Lib.hid hvb; clear hvb
          have HTV := Lib.hid htv; clear htv
          have HTB := Lib.hid htb; clear htb
          have HLW := Lib.hid hlw; clear hlw
          have cT : ∀ (W : World) d os, Calls Tryd.prog 22 #[.string nm] (Sort.grow (redrawn W d) os) fun e w'' => e = .returned (.bool tb) ∧ ∃ q : Regrown, w'' = Sort.grow (redrawn W q.d) q.os :=
              fun W d os => Calls.regrown_of (by rw [HTB.out]; exact to_below (rf_Token nm (Sort.grow (redrawn W d) os) (by unfold maxLen; omega)))
          have CT := Lib.hid cT; clear cT
          have cL : ∀ (W : World) d os, Calls Tryd.prog 23 #[.string nm] (Sort.grow (redrawn W d) os) fun e w'' => e = .returned (.string lw) ∧ ∃ q : Regrown, w'' = Sort.grow (redrawn W q.d) q.os :=
              fun W d os => Calls.regrown_of (by rw [HLW.out]; exact rf_Small nm (Sort.grow (redrawn W d) os) (by omega))
          have CL := Lib.hid cL; clear cL
          have cV : ∀ (W : World) d os, Calls Tryd.prog 24 #[.string vl] (Sort.grow (redrawn W d) os) fun e w'' => e = .returned (.bool vb) ∧ ∃ q : Regrown, w'' = Sort.grow (redrawn W q.d) q.os :=
              fun W d os => Calls.regrown_of (by rw [HVB.out]; exact to_below (rf_value vl (Sort.grow (redrawn W d) os) (by unfold maxLen; omega)))
          have CV := Lib.hid cV; clear cV
          have cR : ∀ (W : World) d os, Calls Tryd.prog 25 #[.string vl] (Sort.grow (redrawn W d) os) fun e w'' => e = .returned (.string tv) ∧ ∃ q : Regrown, w'' = Sort.grow (redrawn W q.d) q.os :=
              fun W d os => Calls.regrown_of (by rw [HTV.out]; exact to_below (rf_bare vl (Sort.grow (redrawn W d) os) (by unfold maxLen; omega)))
          have CR := Lib.hid cR; clear cR
          have g2r := (hb.cell (p := ⟨w.heap.size, 2, none⟩) (lt_of_cell g2)).trans g2
          go_wp2_with fail
          have k0 := cell_regrown (show (wr.alloc (Obj.cells #[Value.string nm, Value.string vl] 37)).cell? ⟨wr.heap.size, 0, none⟩ = some (.string nm) by simp)
          have k1 := cell_regrown (show (wr.alloc (Obj.cells #[Value.string nm, Value.string vl] 37)).cell? ⟨wr.heap.size, 1, none⟩ = some (.string vl) by simp)
          refine wp_region_quiet_below (by kernel_rfl) (by kernel_rfl) ?_
          iterate 5 (quiet_step (exact CT.out _ _ _))
          cases tb with
          | false =>
            iterate 36 (quiet_step (fail))
            simp only [wpQuiet]
            intro _ hw'
            obtain ⟨⟨dq, osq⟩, hw''⟩ := hw'
            subst hw''
            go_wp2
            go_ret2
            exact ⟨ret_two (writeP_bad HM.out HP.out hlt' (bad_tok HNM.out HTB.out)), bl_trans HBL.out (bl_trans (bl_alloc hb _) (below_regrown _ dq osq))⟩
          | true =>
            iterate 6 (quiet_step (exact CL.out _ _ _))
            generalize hc : (lw.toList == nm.toList) = cb
            have HClow := Lib.hid hc; clear hc
            rcases (show cb = false ∨ cb = true from by cases cb <;> simp) with rfl | rfl
            · iterate 30 (quiet_step (fail))
              simp only [wpQuiet]
              intro _ hw'
              obtain ⟨⟨dq, osq⟩, hw''⟩ := hw'
              subst hw''
              go_wp2
              go_ret2
              exact ⟨ret_two (writeP_bad HM.out HP.out hlt' (bad_small HNM.out HLW.out HClow.out)), bl_trans HBL.out (bl_trans (bl_alloc hb _) (below_regrown _ dq osq))⟩
            · skip
              iterate 5 (quiet_step (fail))
              generalize hc : (nm.toList == [99, 111, 110, 116, 101, 110, 116, 45, 108, 101, 110, 103, 116, 104]) = cb
              have HClen := Lib.hid hc; clear hc
              rcases (show cb = true ∨ cb = false from by cases cb <;> simp) with rfl | rfl
              · iterate 25 (quiet_step (fail))
                simp only [wpQuiet]
                intro _ hw'
                obtain ⟨⟨dq, osq⟩, hw''⟩ := hw'
                subst hw''
                go_wp2
                go_ret2
                exact ⟨ret_two (writeP_bad HM.out HP.out hlt' (bad_len HNM.out HClen.out)), bl_trans HBL.out (bl_trans (bl_alloc hb _) (below_regrown _ dq osq))⟩
              · skip
                iterate 5 (quiet_step (fail))
                generalize hc : (nm.toList == [116, 114, 97, 110, 115, 102, 101, 114, 45, 101, 110, 99, 111, 100, 105, 110, 103]) = cb
                have HCenc := Lib.hid hc; clear hc
                rcases (show cb = true ∨ cb = false from by cases cb <;> simp) with rfl | rfl
                · iterate 20 (quiet_step (fail))
                  simp only [wpQuiet]
                  intro _ hw'
                  obtain ⟨⟨dq, osq⟩, hw''⟩ := hw'
                  subst hw''
                  go_wp2
                  go_ret2
                  exact ⟨ret_two (writeP_bad HM.out HP.out hlt' (bad_enc HNM.out HCenc.out)), bl_trans HBL.out (bl_trans (bl_alloc hb _) (below_regrown _ dq osq))⟩
                · skip
                  iterate 5 (quiet_step (fail))
                  generalize hc : (nm.toList == [99, 111, 110, 110, 101, 99, 116, 105, 111, 110]) = cb
                  have HCcon := Lib.hid hc; clear hc
                  rcases (show cb = true ∨ cb = false from by cases cb <;> simp) with rfl | rfl
                  · iterate 15 (quiet_step (fail))
                    simp only [wpQuiet]
                    intro _ hw'
                    obtain ⟨⟨dq, osq⟩, hw''⟩ := hw'
                    subst hw''
                    go_wp2
                    go_ret2
                    exact ⟨ret_two (writeP_bad HM.out HP.out hlt' (bad_con HNM.out HCcon.out)), bl_trans HBL.out (bl_trans (bl_alloc hb _) (below_regrown _ dq osq))⟩
                  · skip
                    iterate 5 (quiet_step (exact CV.out _ _ _))
                    rcases (show vb = false ∨ vb = true from by cases vb <;> simp) with rfl | rfl
                    · iterate 10 (quiet_step (fail))
                      simp only [wpQuiet]
                      intro _ hw'
                      obtain ⟨⟨dq, osq⟩, hw''⟩ := hw'
                      subst hw''
                      go_wp2
                      go_ret2
                      exact ⟨ret_two (writeP_bad HM.out HP.out hlt' (bad_val HVL.out HVB.out)), bl_trans HBL.out (bl_trans (bl_alloc hb _) (below_regrown _ dq osq))⟩
                    · skip
                      iterate 9 (quiet_step (exact CR.out _ _ _))
                      generalize hc : (tv.toList == vl.toList) = cb
                      have HCtrim := Lib.hid hc; clear hc
                      rcases (show cb = false ∨ cb = true from by cases cb <;> simp) with rfl | rfl
                      · iterate 1 (quiet_step (fail))
                        simp only [wpQuiet]
                        intro _ hw'
                        obtain ⟨⟨dq, osq⟩, hw''⟩ := hw'
                        subst hw''
                        go_wp2
                        go_ret2
                        exact ⟨ret_two (writeP_bad HM.out HP.out hlt' (bad_trim HVL.out HTV.out HCtrim.out)), bl_trans HBL.out (bl_trans (bl_alloc hb _) (below_regrown _ dq osq))⟩
                      · skip
                        iterate 1 (quiet_step (fail))
                        simp only [wpQuiet]
                        intro _ hw'
                        obtain ⟨⟨dq, osq⟩, hw''⟩ := hw'
                        subst hw''
                        have hbq := below_regrown (wr.alloc (Obj.cells #[Value.string nm, Value.string vl] 37)) dq osq
                        have hb5 := bl_trans (bl_alloc hb _) hbq
                        have hown5 := own_below hown (bl_trans (bl_alloc (Below.refl _ _) _) hbq)
                        have hsz5 : w2.heap.size ≤ (Sort.grow (redrawn (wr.alloc (Obj.cells #[Value.string nm, Value.string vl] 37)) dq) osq).heap.size + 1 := Nat.le_succ_of_le hb5.size
                        have q0 := k0 dq osq
                        have q1 := k1 dq osq
                        clear k0 k1 hown hbq
                        generalize Sort.grow (redrawn (wr.alloc (Obj.cells #[Value.string nm, Value.string vl] 37)) dq) osq = w5 at *
                        go_wp2_with (at_builtin; refine wpList_append_own _ rfl _ _ 39 rfl w2.heap.size 9 i0 (.string ⟨#[]⟩) 1 16 Tryd.underlying39 hi hz0 hz1 hz2 rfl (by decide) _ _ _ rfl (hown5.alloc _) ⟨w5.heap.size, 0, none⟩ 1 1 _ rfl rfl (cell_one_new _ _ _) (oneCell_str _) (by unfold maxLen; omega) (by omega) (by simpa using hsz5) ?_; intro v' w6 hown6 hg _)
                        have hb6 : Below w2.heap.size w2 w6 := (bl_alloc hb5 _).grown hg (by simpa using hsz5) (fun b hbk => (hown5.lt b hbk).1)
                        have hown7 := lines_step hown6 hlt' HNM.out HVL.out
                        have hall := all_step hlt' HK.out (head_ok2 HNM.out HVL.out HTB.out HLW.out HClow.out HClen.out HCenc.out HCcon.out HVB.out HTV.out HCtrim.out)
                        have HALL := Lib.hid hall; clear hall hown6 hg hown5 hb5
                        go_wp2
                        rw [← hA]
                        clear hA
                        go_roundw
                        case rel => exact ⟨k + 1, by omega, by go_num, hown7, hb6, HALL.out⟩
                        case measure => simp [intOf]; omega
        · obtain rfl : k = n := by omega
          have e1 : hs.take k = hs := List.take_of_length_le (by rw [Hn.out]; exact Nat.le_refl _)
          rw [e1] at hown HK
          clear e1
          have g2' := (hb.cell (p := ⟨w.heap.size, 2, none⟩) (lt_of_cell g2)).trans g2
          have g3' := (hb.cell (p := ⟨w.heap.size, 3, none⟩) (lt_of_cell g3)).trans g3
          by_cases hbig : 8192 < body.size
          · go_wp2_with fail
            go_ret2
            exact ⟨ret_two (writeP_long HM.out HP.out HK.out hbig), bl_trans HBL.out hb⟩
          · have g0' := (hb.cell (p := ⟨w.heap.size, 0, none⟩) (lt_of_cell g0)).trans g0
            have g1' := (hb.cell (p := ⟨w.heap.size, 1, none⟩) (lt_of_cell g1)).trans g1
            have g4' := (hb.cell (p := ⟨w.heap.size, 4, none⟩) (lt_of_cell g4)).trans g4
            by_cases hbody : 0 < body.size
            · obtain ⟨hn1, hn2⟩ := nonempty_two body hbody
              go_wp2_with fail
              refine (to_below (rf_digits_all 100000000 _ _ (by omega) (by omega) (by omega))).mono ?_
              rintro e wi ⟨rfl, hbi⟩
              have owni := own_below hown hbi
              have hbi2 := bl_trans hb hbi
              have g3i := (hbi2.cell (p := ⟨w.heap.size, 3, none⟩) (lt_of_cell g3)).trans g3
              have l1 := itoa_len (body.size : Int) (by omega)
              have hsz_w8 : w2.heap.size ≤ wi.heap.size + 1 := Nat.le_succ_of_le hbi2.size
              go_wp2_with (at_builtin; refine wpList_append_own _ rfl _ _ 39 rfl w2.heap.size 9 i0 (.string ⟨#[]⟩) 1 16 Tryd.underlying39 hi hz0 hz1 hz2 rfl (by decide) _ _ _ rfl (owni.alloc _) ⟨wi.heap.size, 0, none⟩ 1 1 _ rfl rfl (cell_one_new _ _ _) (oneCell_str _) (by unfold maxLen; omega) (by omega) (by simpa using hsz_w8) ?_; intro v1 w8 hown_w8 hg_w8 _; refine Hid.out ?_)
              have hb_w8 : Below w2.heap.size w2 w8 := (bl_alloc hbi2 _).grown hg_w8 (by simpa using hsz_w8) (fun b hbk => (owni.lt b hbk).1)
              clear hg_w8
              have g0_w8 := (hb_w8.cell (p := ⟨w.heap.size, 0, none⟩) (lt_of_cell g0)).trans g0
              have g1_w8 := (hb_w8.cell (p := ⟨w.heap.size, 1, none⟩) (lt_of_cell g1)).trans g1
              have g3_w8 := (hb_w8.cell (p := ⟨w.heap.size, 3, none⟩) (lt_of_cell g3)).trans g3
              have g4_w8 := (hb_w8.cell (p := ⟨w.heap.size, 4, none⟩) (lt_of_cell g4)).trans g4
              refine Lib.hid ?_
              cases close with
              | false =>
                obtain ⟨L, hL⟩ : ∃ L, L = linesP hs body.data.toList false := ⟨_, rfl⟩
                have hownL := lines_bo hown_w8 hbody Hn.out hL
                refine Hid.out ?_
                obtain ⟨hown_s, hL2⟩ := hownL
                obtain ⟨ao, cp, hv⟩ := own_shape hown_s
                subst hv
                have HLL := Lib.hid hL; clear hL
                refine Lib.hid ?_
                by_cases c1 : 512 < m.size + 1 + p.size + 9
                · go_wp2_with fail
                  go_ret2
                  exact ⟨ret_two (writeP_first HM.out HP.out HK.out hbig HLL.out c1), bl_trans HBL.out hb_w8⟩
                · by_cases c2 : 32 < L.length
                  · go_wp2_with fail
                    go_ret2
                    exact ⟨ret_two (writeP_many HM.out HP.out HK.out hbig HLL.out c2), bl_trans HBL.out hb_w8⟩
                  · obtain ⟨g, hg0, hgc⟩ := own_get hown_s rfl
                    have HGC := Lib.hid hgc; clear hgc
                    by_cases hL0 : 0 < L.length
                    · refine Hid.out ?_
                      obtain rfl := hg0 hL0
                      clear hg0
                      refine Lib.hid ?_
                      go_wp2_with fail
                      go_loop [7, 8, 9] (fun t s i => ∃ j : Nat, j ≤ L.length ∧ i = .int .i64 j ∧ s = .int .i64 (flatTo L j) ∧ t = .string ⟨(textTo m p L j).toArray⟩) (fun _ _ i => L.length - (intOf i).toNat)
                      case atStart => exact ⟨0, Nat.zero_le _, rfl, rfl, by rw [textTo_zero m p L]⟩
                      case round =>
                        obtain ⟨j, hj, rfl, rfl, rfl⟩ := hrel
                        obtain ⟨f0, f1⟩ := flatTo_small HLL.out sb sh c2 j
                        have t1 := textTo_small HLL.out sm sp sb sh c2 (m := m) (p := p) j
                        by_cases hlt : j < L.length
                        · have hcj := HGC.out j hlt
                          have lj := lines_small HLL.out sb sh _ (List.getElem_mem hlt)
                          have ts := textTo_succ m p L j hlt
                          have fs := flatTo_succ L j hlt
                          obtain ⟨X, hX⟩ : ∃ X, X = L[j] := ⟨_, rfl⟩
                          rw [← hX] at hcj lj ts fs
                          have TS := Lib.hid ts; clear ts
                          have FS := Lib.hid fs; clear fs
                          have HX := Lib.hid hX; clear hX
                          go_wp2
                          go_round
                          case rel => exact ⟨j + 1, by omega, by go_num, by rw [← FS.out], by rw [← TS.out]⟩
                          case measure => simp [intOf]; omega
                        · obtain rfl : j = L.length := by omega
                          by_cases c3 : 1024 < flatTo L L.length
                          · go_wp2_with fail
                            go_ret2
                            exact ⟨ret_two (writeP_flat2 HM.out HP.out HK.out hbig HLL.out c3), bl_trans HBL.out hb_w8⟩
                          · go_wp2_with fail
                            go_ret2
                            exact ⟨ret_two (writeP_done2 HM.out HP.out HK.out hbig HLL.out c1 c2 (by omega)), bl_trans HBL.out hb_w8⟩
                    · obtain rfl : L = [] := List.eq_nil_of_length_eq_zero (by omega)
                      have hz := textTo_zero m p []
                      have HZ := Lib.hid hz; clear hz
                      have t1 := textTo_small HLL.out sm sp sb sh c2 (m := m) (p := p) 0
                      go_wp2_with fail
                      rw [HZ.out]
                      refine wp_loop_rounds 1 ?_
                      rw [rounds_succ]
                      go_wp2
                      go_ret2
                      exact ⟨ret_two (writeP_done2 HM.out HP.out HK.out hbig HLL.out c1 c2 (by decide)), bl_trans HBL.out hb_w8⟩
              | true =>
                have hsz_w9 : w2.heap.size ≤ w8.heap.size + 1 := Nat.le_succ_of_le hb_w8.size
                go_wp2_with (at_builtin; refine wpList_append_own _ rfl _ _ 39 rfl w2.heap.size 9 i0 (.string ⟨#[]⟩) 1 16 Tryd.underlying39 hi hz0 hz1 hz2 rfl (by decide) _ _ _ rfl (hown_w8.alloc _) ⟨w8.heap.size, 0, none⟩ 1 1 _ rfl rfl (cell_one_new _ _ _) (oneCell_str _) (by unfold maxLen; omega) (by omega) (by simpa using hsz_w9) ?_; intro v3 w9 hown_w9 hg_w9 _; refine Hid.out ?_)
                have hb_w9 : Below w2.heap.size w2 w9 := (bl_alloc hb_w8 _).grown hg_w9 (by simpa using hsz_w9) (fun b hbk => (hown_w8.lt b hbk).1)
                clear hg_w9
                have g0_w9 := (hb_w9.cell (p := ⟨w.heap.size, 0, none⟩) (lt_of_cell g0)).trans g0
                have g1_w9 := (hb_w9.cell (p := ⟨w.heap.size, 1, none⟩) (lt_of_cell g1)).trans g1
                have g3_w9 := (hb_w9.cell (p := ⟨w.heap.size, 3, none⟩) (lt_of_cell g3)).trans g3
                have g4_w9 := (hb_w9.cell (p := ⟨w.heap.size, 4, none⟩) (lt_of_cell g4)).trans g4
                refine Lib.hid ?_
                obtain ⟨L, hL⟩ : ∃ L, L = linesP hs body.data.toList true := ⟨_, rfl⟩
                have hownL := lines_bc hown_w9 hbody Hn.out hL
                refine Hid.out ?_
                obtain ⟨hown_s, hL2⟩ := hownL
                obtain ⟨ao, cp, hv⟩ := own_shape hown_s
                subst hv
                have HLL := Lib.hid hL; clear hL
                refine Lib.hid ?_
                by_cases c1 : 512 < m.size + 1 + p.size + 9
                · go_wp2_with fail
                  go_ret2
                  exact ⟨ret_two (writeP_first HM.out HP.out HK.out hbig HLL.out c1), bl_trans HBL.out hb_w9⟩
                · by_cases c2 : 32 < L.length
                  · go_wp2_with fail
                    go_ret2
                    exact ⟨ret_two (writeP_many HM.out HP.out HK.out hbig HLL.out c2), bl_trans HBL.out hb_w9⟩
                  · obtain ⟨g, hg0, hgc⟩ := own_get hown_s rfl
                    have HGC := Lib.hid hgc; clear hgc
                    by_cases hL0 : 0 < L.length
                    · refine Hid.out ?_
                      obtain rfl := hg0 hL0
                      clear hg0
                      refine Lib.hid ?_
                      go_wp2_with fail
                      go_loop [7, 8, 9] (fun t s i => ∃ j : Nat, j ≤ L.length ∧ i = .int .i64 j ∧ s = .int .i64 (flatTo L j) ∧ t = .string ⟨(textTo m p L j).toArray⟩) (fun _ _ i => L.length - (intOf i).toNat)
                      case atStart => exact ⟨0, Nat.zero_le _, rfl, rfl, by rw [textTo_zero m p L]⟩
                      case round =>
                        obtain ⟨j, hj, rfl, rfl, rfl⟩ := hrel
                        obtain ⟨f0, f1⟩ := flatTo_small HLL.out sb sh c2 j
                        have t1 := textTo_small HLL.out sm sp sb sh c2 (m := m) (p := p) j
                        by_cases hlt : j < L.length
                        · have hcj := HGC.out j hlt
                          have lj := lines_small HLL.out sb sh _ (List.getElem_mem hlt)
                          have ts := textTo_succ m p L j hlt
                          have fs := flatTo_succ L j hlt
                          obtain ⟨X, hX⟩ : ∃ X, X = L[j] := ⟨_, rfl⟩
                          rw [← hX] at hcj lj ts fs
                          have TS := Lib.hid ts; clear ts
                          have FS := Lib.hid fs; clear fs
                          have HX := Lib.hid hX; clear hX
                          go_wp2
                          go_round
                          case rel => exact ⟨j + 1, by omega, by go_num, by rw [← FS.out], by rw [← TS.out]⟩
                          case measure => simp [intOf]; omega
                        · obtain rfl : j = L.length := by omega
                          by_cases c3 : 1024 < flatTo L L.length
                          · go_wp2_with fail
                            go_ret2
                            exact ⟨ret_two (writeP_flat2 HM.out HP.out HK.out hbig HLL.out c3), bl_trans HBL.out hb_w9⟩
                          · go_wp2_with fail
                            go_ret2
                            exact ⟨ret_two (writeP_done2 HM.out HP.out HK.out hbig HLL.out c1 c2 (by omega)), bl_trans HBL.out hb_w9⟩
                    · obtain rfl : L = [] := List.eq_nil_of_length_eq_zero (by omega)
                      have hz := textTo_zero m p []
                      have HZ := Lib.hid hz; clear hz
                      have t1 := textTo_small HLL.out sm sp sb sh c2 (m := m) (p := p) 0
                      go_wp2_with fail
                      rw [HZ.out]
                      refine wp_loop_rounds 1 ?_
                      rw [rounds_succ]
                      go_wp2
                      go_ret2
                      exact ⟨ret_two (writeP_done2 HM.out HP.out HK.out hbig HLL.out c1 c2 (by decide)), bl_trans HBL.out hb_w9⟩
            · obtain ⟨hn1, hn3⟩ := empty_of body hbody
              have hn2 : (!body.toList.isEmpty) = false := by simp [hn1]
              have HN3 := Lib.hid hn3; clear hn3
              cases close with
              | false =>
                obtain ⟨L, hL⟩ : ∃ L, L = linesP hs body.data.toList false := ⟨_, rfl⟩
                have hownL := lines_no hown HN3.out Hn.out hL
                refine Hid.out ?_
                obtain ⟨hown_s, hL2⟩ := hownL
                obtain ⟨ao, cp, hv⟩ := own_shape hown_s
                subst hv
                have HLL := Lib.hid hL; clear hL
                refine Lib.hid ?_
                by_cases c1 : 512 < m.size + 1 + p.size + 9
                · go_wp2_with fail
                  go_ret2
                  exact ⟨ret_two (writeP_first HM.out HP.out HK.out hbig HLL.out c1), bl_trans HBL.out hb⟩
                · by_cases c2 : 32 < L.length
                  · go_wp2_with fail
                    go_ret2
                    exact ⟨ret_two (writeP_many HM.out HP.out HK.out hbig HLL.out c2), bl_trans HBL.out hb⟩
                  · obtain ⟨g, hg0, hgc⟩ := own_get hown_s rfl
                    have HGC := Lib.hid hgc; clear hgc
                    by_cases hL0 : 0 < L.length
                    · refine Hid.out ?_
                      obtain rfl := hg0 hL0
                      clear hg0
                      refine Lib.hid ?_
                      go_wp2_with fail
                      go_loop [7, 8, 9] (fun t s i => ∃ j : Nat, j ≤ L.length ∧ i = .int .i64 j ∧ s = .int .i64 (flatTo L j) ∧ t = .string ⟨(textTo m p L j).toArray⟩) (fun _ _ i => L.length - (intOf i).toNat)
                      case atStart => exact ⟨0, Nat.zero_le _, rfl, rfl, by rw [textTo_zero m p L]⟩
                      case round =>
                        obtain ⟨j, hj, rfl, rfl, rfl⟩ := hrel
                        obtain ⟨f0, f1⟩ := flatTo_small HLL.out sb sh c2 j
                        have t1 := textTo_small HLL.out sm sp sb sh c2 (m := m) (p := p) j
                        by_cases hlt : j < L.length
                        · have hcj := HGC.out j hlt
                          have lj := lines_small HLL.out sb sh _ (List.getElem_mem hlt)
                          have ts := textTo_succ m p L j hlt
                          have fs := flatTo_succ L j hlt
                          obtain ⟨X, hX⟩ : ∃ X, X = L[j] := ⟨_, rfl⟩
                          rw [← hX] at hcj lj ts fs
                          have TS := Lib.hid ts; clear ts
                          have FS := Lib.hid fs; clear fs
                          have HX := Lib.hid hX; clear hX
                          go_wp2
                          go_round
                          case rel => exact ⟨j + 1, by omega, by go_num, by rw [← FS.out], by rw [← TS.out]⟩
                          case measure => simp [intOf]; omega
                        · obtain rfl : j = L.length := by omega
                          by_cases c3 : 1024 < flatTo L L.length
                          · go_wp2_with fail
                            go_ret2
                            exact ⟨ret_two (writeP_flat2 HM.out HP.out HK.out hbig HLL.out c3), bl_trans HBL.out hb⟩
                          · go_wp2_with fail
                            go_ret2
                            exact ⟨ret_two (writeP_done2 HM.out HP.out HK.out hbig HLL.out c1 c2 (by omega)), bl_trans HBL.out hb⟩
                    · obtain rfl : L = [] := List.eq_nil_of_length_eq_zero (by omega)
                      have hz := textTo_zero m p []
                      have HZ := Lib.hid hz; clear hz
                      have t1 := textTo_small HLL.out sm sp sb sh c2 (m := m) (p := p) 0
                      go_wp2_with fail
                      rw [HZ.out]
                      refine wp_loop_rounds 1 ?_
                      rw [rounds_succ]
                      go_wp2
                      go_ret2
                      exact ⟨ret_two (writeP_done2 HM.out HP.out HK.out hbig HLL.out c1 c2 (by decide)), bl_trans HBL.out hb⟩
              | true =>
                have hsz_w9 : w2.heap.size ≤ wr.heap.size + 1 := Nat.le_succ_of_le hb.size
                go_wp2_with (at_builtin; refine wpList_append_own _ rfl _ _ 39 rfl w2.heap.size 9 i0 (.string ⟨#[]⟩) 1 16 Tryd.underlying39 hi hz0 hz1 hz2 rfl (by decide) _ _ _ rfl (hown.alloc _) ⟨wr.heap.size, 0, none⟩ 1 1 _ rfl rfl (cell_one_new _ _ _) (oneCell_str _) (by unfold maxLen; omega) (by omega) (by simpa using hsz_w9) ?_; intro v3 w9 hown_w9 hg_w9 _; refine Hid.out ?_)
                have hb_w9 : Below w2.heap.size w2 w9 := (bl_alloc hb _).grown hg_w9 (by simpa using hsz_w9) (fun b hbk => (hown.lt b hbk).1)
                clear hg_w9
                have g0_w9 := (hb_w9.cell (p := ⟨w.heap.size, 0, none⟩) (lt_of_cell g0)).trans g0
                have g1_w9 := (hb_w9.cell (p := ⟨w.heap.size, 1, none⟩) (lt_of_cell g1)).trans g1
                have g3_w9 := (hb_w9.cell (p := ⟨w.heap.size, 3, none⟩) (lt_of_cell g3)).trans g3
                have g4_w9 := (hb_w9.cell (p := ⟨w.heap.size, 4, none⟩) (lt_of_cell g4)).trans g4
                refine Lib.hid ?_
                obtain ⟨L, hL⟩ : ∃ L, L = linesP hs body.data.toList true := ⟨_, rfl⟩
                have hownL := lines_nc hown_w9 HN3.out Hn.out hL
                refine Hid.out ?_
                obtain ⟨hown_s, hL2⟩ := hownL
                obtain ⟨ao, cp, hv⟩ := own_shape hown_s
                subst hv
                have HLL := Lib.hid hL; clear hL
                refine Lib.hid ?_
                by_cases c1 : 512 < m.size + 1 + p.size + 9
                · go_wp2_with fail
                  go_ret2
                  exact ⟨ret_two (writeP_first HM.out HP.out HK.out hbig HLL.out c1), bl_trans HBL.out hb_w9⟩
                · by_cases c2 : 32 < L.length
                  · go_wp2_with fail
                    go_ret2
                    exact ⟨ret_two (writeP_many HM.out HP.out HK.out hbig HLL.out c2), bl_trans HBL.out hb_w9⟩
                  · obtain ⟨g, hg0, hgc⟩ := own_get hown_s rfl
                    have HGC := Lib.hid hgc; clear hgc
                    by_cases hL0 : 0 < L.length
                    · refine Hid.out ?_
                      obtain rfl := hg0 hL0
                      clear hg0
                      refine Lib.hid ?_
                      go_wp2_with fail
                      go_loop [7, 8, 9] (fun t s i => ∃ j : Nat, j ≤ L.length ∧ i = .int .i64 j ∧ s = .int .i64 (flatTo L j) ∧ t = .string ⟨(textTo m p L j).toArray⟩) (fun _ _ i => L.length - (intOf i).toNat)
                      case atStart => exact ⟨0, Nat.zero_le _, rfl, rfl, by rw [textTo_zero m p L]⟩
                      case round =>
                        obtain ⟨j, hj, rfl, rfl, rfl⟩ := hrel
                        obtain ⟨f0, f1⟩ := flatTo_small HLL.out sb sh c2 j
                        have t1 := textTo_small HLL.out sm sp sb sh c2 (m := m) (p := p) j
                        by_cases hlt : j < L.length
                        · have hcj := HGC.out j hlt
                          have lj := lines_small HLL.out sb sh _ (List.getElem_mem hlt)
                          have ts := textTo_succ m p L j hlt
                          have fs := flatTo_succ L j hlt
                          obtain ⟨X, hX⟩ : ∃ X, X = L[j] := ⟨_, rfl⟩
                          rw [← hX] at hcj lj ts fs
                          have TS := Lib.hid ts; clear ts
                          have FS := Lib.hid fs; clear fs
                          have HX := Lib.hid hX; clear hX
                          go_wp2
                          go_round
                          case rel => exact ⟨j + 1, by omega, by go_num, by rw [← FS.out], by rw [← TS.out]⟩
                          case measure => simp [intOf]; omega
                        · obtain rfl : j = L.length := by omega
                          by_cases c3 : 1024 < flatTo L L.length
                          · go_wp2_with fail
                            go_ret2
                            exact ⟨ret_two (writeP_flat2 HM.out HP.out HK.out hbig HLL.out c3), bl_trans HBL.out hb_w9⟩
                          · go_wp2_with fail
                            go_ret2
                            exact ⟨ret_two (writeP_done2 HM.out HP.out HK.out hbig HLL.out c1 c2 (by omega)), bl_trans HBL.out hb_w9⟩
                    · obtain rfl : L = [] := List.eq_nil_of_length_eq_zero (by omega)
                      have hz := textTo_zero m p []
                      have HZ := Lib.hid hz; clear hz
                      have t1 := textTo_small HLL.out sm sp sb sh c2 (m := m) (p := p) 0
                      go_wp2_with fail
                      rw [HZ.out]
                      refine wp_loop_rounds 1 ?_
                      rw [rounds_succ]
                      go_wp2
                      go_ret2
                      exact ⟨ret_two (writeP_done2 HM.out HP.out HK.out hbig HLL.out c1 c2 (by decide)), bl_trans HBL.out hb_w9⟩
end Go.Proofs.YtnicmdlicbnlgaaDoor
