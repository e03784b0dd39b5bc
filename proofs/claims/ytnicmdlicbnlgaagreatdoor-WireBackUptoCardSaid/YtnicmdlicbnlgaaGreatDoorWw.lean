/-
  Walk: wire.Write.
-/
import Derived.Test.YtnicmdlicbnlgaaGreatDoorHd
import Derived.Test.YtnicmdlicbnlgaaGreatDoorWs
import Derived.WalkKit
import Derived.WalkSpells
import Derived.WalkLawsBesides
import Derived.BigQuiet
import Derived.Deep.QuietTactic
import Derived.Deep.RegionHeld3
import Derived.Deep.DrawnRows
import Derived.Lib.Hide
import Derived.Lib.QuietBelow
namespace Go.Proofs.YtnicmdlicbnlgaaGreatDoor
open Go.RowKit
set_option linter.unusedVariables false
set_option linter.unusedSimpArgs false
attribute [local go_sem ↓] Go.wp_at_zero Go.wp_at_succ

theorem add_run2 (a b : ByteArray) (h : a.size + b.size ≤ 1000000000) (W : World) : (Op.stringOp .add a b).run Tryz.prog W = .ok (.string (a ++ b)) W := run_string_add_sum W a b (by omega)
theorem add_run (a b : Array UInt8) (h : a.size + b.size ≤ 1000000000) (W : World) : (Op.stringOp .add (⟨a⟩ : ByteArray) (⟨b⟩ : ByteArray)).run Tryz.prog W = .ok (.string ((⟨a⟩ : ByteArray) ++ (⟨b⟩ : ByteArray))) W := run_string_add_sum W ⟨a⟩ ⟨b⟩ (by
  show a.size + b.size ≤ _
  omega)
theorem itoa_any (n : Int) (w : World) (h0 : 0 ≤ n) (h1 : n ≤ 1000000000) (he : Env w) :
    Calls Tryz.prog 53 #[.int .i64 n] w fun e w' => e = .returned (.string ⟨(Lib.itoa n).toArray⟩) ∧ Below w.heap.size w w' :=
  (Tryz.strconv_Itoa n (by omega) (by omega) w he.pow).mono fun e w' ⟨h, k, os, hw⟩ => ⟨h, by
    subst hw
    exact ⟨rfl, rfl, rfl, by simp [Sort.grow], fun j hj => by simp [Sort.grow, Array.getElem?_append, hj]⟩⟩
theorem join_own {w : World} {base : Nat} {v : Value} {xs : List (List UInt8)} (sep : ByteArray) (h : w.ownsRow base 9 1 v xs.length (xs.map fun l => Value.string ⟨l.toArray⟩)) (hl : (Lib.join xs sep.data.toList).length ≤ 140737488355328) (hn : xs.length ≤ 140737488355328) :
    Calls Tryz.prog 54 #[v, .string sep] w fun e w' => e = .returned (.string ⟨(Lib.join xs sep.data.toList).toArray⟩) ∧ Below w.heap.size w w' := by
  have hc := fun g hg => h.cells (g := g) hg
  have hlt := h.lt
  obtain ⟨h1, h2⟩ := h
  rcases h2 with ⟨rfl, h0⟩ | ⟨g, cap, cur, rfl, _, _, hcap, _, _, _⟩
  · obtain rfl : xs = [] := List.eq_nil_of_length_eq_zero h0
    exact (Tryz.strings_Join_none none 0 sep w).mono (fun e w' ⟨h, hw⟩ => ⟨h, hw ▸ Below.refl _ _⟩)
  · have e1 : (xs.map fun l => (⟨l.toArray⟩ : ByteArray)).map (·.data.toList) = xs := by simp [List.map_map, Function.comp_def]
    have := Tryz.strings_Join g 0 cap (xs.map fun l => (⟨l.toArray⟩ : ByteArray)) sep w (by
      intro j x hx
      have h5 := hc g rfl j (.string x) (by
        rw [List.getElem?_map] at hx ⊢
        cases hj : xs[j]? with
        | none => rw [hj] at hx; cases hx
        | some l => rw [hj] at hx; simp at hx ⊢; exact hx)
      rw [← h5]
      simp only [Addr.add]
      split
      · rename_i h6; subst h6; rfl
      · rfl) (hlt g rfl).2 (by simpa using hn) (by simpa using hcap) (by rw [e1]; exact hl)
    rw [e1, List.length_map] at this
    exact this
theorem wpQuiet_skip {P : Program} {ops : Array Oper} {C : World → Prop} {Q : Act → Prop} {a : Act} {o : Oper} {rest : List Oper} (h : Region.wanted o (yielded ops a.tmps) = false) (k : wpQuiet P ops C Q rest (a.put o.dst undef)) : wpQuiet P ops C Q (o :: rest) a := by
  unfold wpQuiet
  rw [h]
  exact k
theorem info_str : (Tryz.prog.info? 9).map (fun i => (i.zero, i.size, i.bytes)) = some (some (.string ⟨#[]⟩), 1, 16) := by kernel_rfl

set_option maxRecDepth 100000 in
set_option maxHeartbeats 8000000 in
theorem wr_Write (m p body : ByteArray) (close : Bool) (a : Option Addr) (b off n cap : Nat) (hs : List Hd) (w : World) (he : Env w) (hn : n = hs.length) (hcap : n ≤ cap) (hmax : n ≤ 1000)
    (ha : 0 < n → a = some ⟨b, off, none⟩) (hH : HeadsAt w b off hs) (sm : m.size ≤ 1000000) (sp : p.size ≤ 1000000) (sb : body.size ≤ 1000000) (sh : ∀ h ∈ hs, h.n.size ≤ 1000000 ∧ h.v.size ≤ 1000000) :
    Calls Tryz.prog 25 #[.agg #[.string m, .string p, .slice a n cap, .string body, .bool close]] w
      fun e w' => e = .returned (.tuple #[.string ⟨(writeP m.data.toList p.data.toList hs body.data.toList close).1.toArray⟩, .int .i64 (writeP m.data.toList p.data.toList hs body.data.toList close).2]) ∧ Below w.heap.size w w' := by
  obtain ⟨i0, hi, hz0, hz1, hz2⟩ := info_parts info_str
  have Hn := Lib.hid hn; clear hn
  have HA := Lib.hid ha; clear ha
  cases hm : methodB m.data.toList with
  | false =>
    have HM := Lib.hid hm; clear hm
    go_enter Tryz.func25, Tryz.ntmps25
    go_wp2_with fail
    refine (wr_method m _ (by unfold maxLen; omega)).mono ?_
    rw [HM.out]
    rintro e w1 ⟨rfl, hb⟩
    go_wp2_with fail
    go_ret2
    exact ⟨ret_two (by rw [writeP, HM.out]; rfl), bl_trans (bl_alloc (Below.refl _ _) _) hb⟩
  | true =>
    have HM := Lib.hid hm; clear hm
    cases hp : pathB p.data.toList with
    | false =>
      have HP := Lib.hid hp; clear hp
      go_enter Tryz.func25, Tryz.ntmps25
      go_wp2_with fail
      refine (wr_method m _ (by unfold maxLen; omega)).mono ?_
      rw [HM.out]
      rintro e w1 ⟨rfl, hb⟩
      have h1 : w1.cell? ⟨w.heap.size, 1, none⟩ = some (.string p) := by
        rw [hb.cell (p := ⟨w.heap.size, 1, none⟩) (by simp)]; simp
      go_wp2_with fail
      refine (wr_path p _).mono ?_
      rw [HP.out]
      rintro e w2 ⟨rfl, hb2⟩
      go_wp2_with fail
      go_ret2
      exact ⟨ret_two (by rw [writeP, HM.out, HP.out]; rfl), bl_trans (bl_trans (bl_alloc (Below.refl _ _) _) hb) hb2⟩
    | true =>
      have HP := Lib.hid hp; clear hp
      go_enter Tryz.func25, Tryz.ntmps25
      go_wp2_with fail
      refine (wr_method m _ (by unfold maxLen; omega)).mono ?_
      rw [HM.out]
      rintro e w1 ⟨rfl, hb⟩
      have h1 : w1.cell? ⟨w.heap.size, 1, none⟩ = some (.string p) := by
        rw [hb.cell (p := ⟨w.heap.size, 1, none⟩) (by simp)]; simp
      go_wp2_with fail
      refine (wr_path p _).mono ?_
      rw [HP.out]
      rintro e w2 ⟨rfl, hb2⟩
      have hbB := bl_trans hb hb2
      have g0 : w2.cell? ⟨w.heap.size, 0, none⟩ = some (.string m) := by
        rw [hbB.cell (p := ⟨w.heap.size, 0, none⟩) (by simp)]; simp
      have g1 : w2.cell? ⟨w.heap.size, 1, none⟩ = some (.string p) := by
        rw [hbB.cell (p := ⟨w.heap.size, 1, none⟩) (by simp)]; simp
      have g2 : w2.cell? ⟨w.heap.size, 2, none⟩ = some (.slice a n cap) := by
        rw [hbB.cell (p := ⟨w.heap.size, 2, none⟩) (by simp)]; simp
      have g3 : w2.cell? ⟨w.heap.size, 3, none⟩ = some (.string body) := by
        rw [hbB.cell (p := ⟨w.heap.size, 3, none⟩) (by simp)]; simp
      have g4 : w2.cell? ⟨w.heap.size, 4, none⟩ = some (.bool close) := by
        rw [hbB.cell (p := ⟨w.heap.size, 4, none⟩) (by simp)]; simp
      have hbelow : Below w.heap.size w w2 := bl_trans (bl_alloc (Below.refl _ _) _) hbB
      have HBL := Lib.hid hbelow; clear hbelow hbB hb hb2 h1
      have he2 := he.below HBL.out
      have hH2 := hH.below HBL.out
      have HH2 := Lib.hid hH2; clear hH2
      go_wp2_with fail
      go_loopw [4, 21] (fun v i wr => ∃ k : Nat, k ≤ n ∧ i = .int .i64 k ∧ wr.ownsRow w2.heap.size 9 1 v k ((hs.take k).map fun h => .string ⟨(headLine h).toArray⟩) ∧ Below w2.heap.size w2 wr ∧ Hid ((hs.take k).all headOk = true)) (fun _ i _ => n - (intOf i).toNat)
      case atStart => exact ⟨0, Nat.zero_le _, rfl, World.ownsRow_nil _ _ _ _, Below.refl _ _, rfl⟩
      case round =>
        obtain ⟨k, hk, rfl, hown, hb, HK⟩ := hrel
        by_cases hlt : k < n
        · have hlt' : k < hs.length := by rw [← Hn.out]; exact hlt
          have hA := HA.out (by omega)
          obtain ⟨c0, c1⟩ := (HH2.out.below hb) k hlt'
          obtain ⟨nm, hnm⟩ : ∃ x, x = hs[k].n := ⟨_, rfl⟩
          obtain ⟨vl, hvl⟩ : ∃ x, x = hs[k].v := ⟨_, rfl⟩
          rw [← hnm] at c0
          rw [← hvl] at c1
          obtain ⟨sn, sv⟩ := sh hs[k] (List.getElem_mem _)
          rw [← hnm] at sn
          rw [← hvl] at sv
          have he3 := he2.below hb
          have HE3 := Lib.hid he3; clear he3
          have HNM := Lib.hid hnm; clear hnm
          have HVL := Lib.hid hvl; clear hvl
          obtain ⟨tb, htb⟩ : ∃ x, x = tokenB nm.data.toList := ⟨_, rfl⟩
          obtain ⟨lw, hlw⟩ : ∃ x : ByteArray, x = ⟨(Lib.toLowerD nm.data.toList).toArray⟩ := ⟨_, rfl⟩
          obtain ⟨vb, hvb⟩ : ∃ x, x = valueB vl.data.toList := ⟨_, rfl⟩
          obtain ⟨tv, htv⟩ : ∃ x : ByteArray, x = ⟨(Lib.trimS vl.data.toList [32, 9]).toArray⟩ := ⟨_, rfl⟩
          have HVB := Lib.hid hvb; clear hvb
          have HTV := Lib.hid htv; clear htv
          have HTB := Lib.hid htb; clear htb
          have HLW := Lib.hid hlw; clear hlw
          have cT : ∀ (W : World) d os, (he : Env W) → Calls Tryz.prog 49 #[.string nm] (Sort.grow (redrawn W d) os) fun e w'' => e = .returned (.bool tb) ∧ ∃ q : Regrown, w'' = Sort.grow (redrawn W q.d) q.os :=
              fun W d os he => Calls.regrown_of (by rw [HTB.out]; exact wr_token nm (Sort.grow (redrawn W d) os) (by omega) (he.below (below_regrown W d os)))
          have CT := Lib.hid cT; clear cT
          have cL : ∀ (W : World) d os, (he : Env W) → Calls Tryz.prog 50 #[.string nm] (Sort.grow (redrawn W d) os) fun e w'' => e = .returned (.string lw) ∧ ∃ q : Regrown, w'' = Sort.grow (redrawn W q.d) q.os :=
              fun W d os he => Calls.regrown_of (by rw [HLW.out]; have h := he.below (below_regrown W d os); exact Tryz.strings_ToLower_any nm (Sort.grow (redrawn W d) os) (by omega) h.cases h.utf)
          have CL := Lib.hid cL; clear cL
          have cV : ∀ (W : World) d os, Calls Tryz.prog 51 #[.string vl] (Sort.grow (redrawn W d) os) fun e w'' => e = .returned (.bool vb) ∧ ∃ q : Regrown, w'' = Sort.grow (redrawn W q.d) q.os :=
              fun W d os => Calls.regrown_of (by rw [HVB.out]; exact wr_value vl (Sort.grow (redrawn W d) os))
          have CV := Lib.hid cV; clear cV
          have cR : ∀ (W : World) d os, Calls Tryz.prog 52 #[.string vl, .string ⟨#[32, 9]⟩] (Sort.grow (redrawn W d) os) fun e w'' => e = .returned (.string tv) ∧ ∃ q : Regrown, w'' = Sort.grow (redrawn W q.d) q.os :=
              fun W d os => Calls.regrown_of (by rw [HTV.out]; exact Tryz.strings_Trim_laid vl ⟨#[32, 9]⟩ (Sort.grow (redrawn W d) os) (by omega) (by decide) (ascii_of_all (by decide)))
          have CR := Lib.hid cR; clear cR
          go_wp2_with fail
          have k0 := cell_regrown (show (wr.alloc (Obj.cells #[Value.string nm, Value.string vl] 88)).cell? ⟨wr.heap.size, 0, none⟩ = some (.string nm) by simp)
          have k1 := cell_regrown (show (wr.alloc (Obj.cells #[Value.string nm, Value.string vl] 88)).cell? ⟨wr.heap.size, 1, none⟩ = some (.string vl) by simp)
          refine wp_region_quiet_below (by kernel_rfl) (by kernel_rfl) ?_
          iterate 5 (quiet_step (exact CT.out _ _ _ (HE3.out.below (bl_alloc (Below.refl _ _) _))))
          cases tb with
          | false =>
            iterate 36 (quiet_step (fail))
            simp only [wpQuiet]
            intro _ hw'
            obtain ⟨⟨dq, osq⟩, hw''⟩ := hw'
            subst hw''
            go_wp2
            go_ret2
            exact ⟨ret_two (writeP_bad HM.out HP.out hlt' (bad_tok HNM.out HTB.out)), bl_trans HBL.out (bl_trans (bl_alloc hb _) (below_regrown _ dq osq))⟩
          | true =>
            iterate 6 (quiet_step (exact CL.out _ _ _ (HE3.out.below (bl_alloc (Below.refl _ _) _))))
            generalize hc : (lw.toList == nm.toList) = cb
            have HClow := Lib.hid hc; clear hc
            rcases (show cb = false ∨ cb = true from by cases cb <;> simp) with rfl | rfl
            · iterate 30 (quiet_step (fail))
              simp only [wpQuiet]
              intro _ hw'
              obtain ⟨⟨dq, osq⟩, hw''⟩ := hw'
              subst hw''
              go_wp2
              go_ret2
              exact ⟨ret_two (writeP_bad HM.out HP.out hlt' (bad_low HNM.out HTB.out HLW.out HClow.out)), bl_trans HBL.out (bl_trans (bl_alloc hb _) (below_regrown _ dq osq))⟩
            · skip
              iterate 5 (quiet_step (fail))
              generalize hc : (nm.toList == [99, 111, 110, 116, 101, 110, 116, 45, 108, 101, 110, 103, 116, 104]) = cb
              have HClen := Lib.hid hc; clear hc
              rcases (show cb = true ∨ cb = false from by cases cb <;> simp) with rfl | rfl
              · iterate 25 (quiet_step (fail))
                simp only [wpQuiet]
                intro _ hw'
                obtain ⟨⟨dq, osq⟩, hw''⟩ := hw'
                subst hw''
                go_wp2
                go_ret2
                exact ⟨ret_two (writeP_bad HM.out HP.out hlt' (bad_len HNM.out HClen.out)), bl_trans HBL.out (bl_trans (bl_alloc hb _) (below_regrown _ dq osq))⟩
              · skip
                iterate 5 (quiet_step (fail))
                generalize hc : (nm.toList == [116, 114, 97, 110, 115, 102, 101, 114, 45, 101, 110, 99, 111, 100, 105, 110, 103]) = cb
                have HCenc := Lib.hid hc; clear hc
                rcases (show cb = true ∨ cb = false from by cases cb <;> simp) with rfl | rfl
                · iterate 20 (quiet_step (fail))
                  simp only [wpQuiet]
                  intro _ hw'
                  obtain ⟨⟨dq, osq⟩, hw''⟩ := hw'
                  subst hw''
                  go_wp2
                  go_ret2
                  exact ⟨ret_two (writeP_bad HM.out HP.out hlt' (bad_enc HNM.out HCenc.out)), bl_trans HBL.out (bl_trans (bl_alloc hb _) (below_regrown _ dq osq))⟩
                · skip
                  iterate 5 (quiet_step (fail))
                  generalize hc : (nm.toList == [99, 111, 110, 110, 101, 99, 116, 105, 111, 110]) = cb
                  have HCcon := Lib.hid hc; clear hc
                  rcases (show cb = true ∨ cb = false from by cases cb <;> simp) with rfl | rfl
                  · iterate 15 (quiet_step (fail))
                    simp only [wpQuiet]
                    intro _ hw'
                    obtain ⟨⟨dq, osq⟩, hw''⟩ := hw'
                    subst hw''
                    go_wp2
                    go_ret2
                    exact ⟨ret_two (writeP_bad HM.out HP.out hlt' (bad_con HNM.out HCcon.out)), bl_trans HBL.out (bl_trans (bl_alloc hb _) (below_regrown _ dq osq))⟩
                  · skip
                    iterate 5 (quiet_step (exact CV.out _ _ _))
                    rcases (show vb = false ∨ vb = true from by cases vb <;> simp) with rfl | rfl
                    · iterate 10 (quiet_step (fail))
                      simp only [wpQuiet]
                      intro _ hw'
                      obtain ⟨⟨dq, osq⟩, hw''⟩ := hw'
                      subst hw''
                      go_wp2
                      go_ret2
                      exact ⟨ret_two (writeP_bad HM.out HP.out hlt' (bad_val HVL.out HVB.out)), bl_trans HBL.out (bl_trans (bl_alloc hb _) (below_regrown _ dq osq))⟩
                    · skip
                      iterate 9 (quiet_step (exact CR.out _ _ _))
                      generalize hc : (tv.toList == vl.toList) = cb
                      have HCtrim := Lib.hid hc; clear hc
                      rcases (show cb = false ∨ cb = true from by cases cb <;> simp) with rfl | rfl
                      · iterate 1 (quiet_step (fail))
                        simp only [wpQuiet]
                        intro _ hw'
                        obtain ⟨⟨dq, osq⟩, hw''⟩ := hw'
                        subst hw''
                        go_wp2
                        go_ret2
                        exact ⟨ret_two (writeP_bad HM.out HP.out hlt' (bad_trim HVL.out HTV.out HCtrim.out)), bl_trans HBL.out (bl_trans (bl_alloc hb _) (below_regrown _ dq osq))⟩
                      · skip
                        iterate 1 (quiet_step (fail))
                        simp only [wpQuiet]
                        intro _ hw'
                        obtain ⟨⟨dq, osq⟩, hw''⟩ := hw'
                        subst hw''
                        have hbq := below_regrown (wr.alloc (Obj.cells #[Value.string nm, Value.string vl] 88)) dq osq
                        have hb5 := bl_trans (bl_alloc hb _) hbq
                        have hown5 := own_below hown (bl_trans (bl_alloc (Below.refl _ _) _) hbq)
                        have hsz5 : w2.heap.size ≤ (Sort.grow (redrawn (wr.alloc (Obj.cells #[Value.string nm, Value.string vl] 88)) dq) osq).heap.size + 1 := Nat.le_succ_of_le hb5.size
                        have q0 := k0 dq osq
                        have q1 := k1 dq osq
                        clear k0 k1 hown hbq
                        generalize Sort.grow (redrawn (wr.alloc (Obj.cells #[Value.string nm, Value.string vl] 88)) dq) osq = w5 at *
                        go_wp2_with (at_builtin; refine wpList_append_own _ rfl _ _ 22 rfl w2.heap.size 9 i0 (.string ⟨#[]⟩) 1 16 Tryz.underlying22 hi hz0 hz1 hz2 rfl (by decide) _ _ _ rfl (hown5.alloc _) ⟨w5.heap.size, 0, none⟩ 1 1 _ rfl rfl (cell_one_new _ _ _) (oneCell_str _) (by unfold maxLen; omega) (by omega) (by simpa using hsz5) ?_; intro v' w6 hown6 hg _)
                        have hb6 : Below w2.heap.size w2 w6 := (bl_alloc hb5 _).grown hg (by simpa using hsz5) (fun b hbk => (hown5.lt b hbk).1)
                        have hown7 := lines_step hown6 hlt' HNM.out HVL.out
                        have hall := all_step hlt' HK.out (head_ok HNM.out HVL.out HTB.out HLW.out HClow.out HClen.out HCenc.out HCcon.out HVB.out HTV.out HCtrim.out)
                        have HALL := Lib.hid hall; clear hall hown6 hg hown5 hb5
                        go_wp2
                        rw [← hA]
                        clear hA
                        go_roundw
                        case rel => exact ⟨k + 1, by omega, by go_num, hown7, hb6, HALL.out⟩
                        case measure => simp [intOf]; omega
        · obtain rfl : k = n := by omega
          have e1 : hs.take k = hs := List.take_of_length_le (by rw [Hn.out]; exact Nat.le_refl _)
          rw [e1] at hown HK
          clear e1
          have g3' := (hb.cell (p := ⟨w.heap.size, 3, none⟩) (lt_of_cell g3)).trans g3
          by_cases hbig : 8192 < body.size
          · go_wp2_with fail
            go_ret2
            exact ⟨ret_two (writeP_long HM.out HP.out HK.out hbig), bl_trans HBL.out hb⟩
          · have g0' := (hb.cell (p := ⟨w.heap.size, 0, none⟩) (lt_of_cell g0)).trans g0
            have g1' := (hb.cell (p := ⟨w.heap.size, 1, none⟩) (lt_of_cell g1)).trans g1
            have g4' := (hb.cell (p := ⟨w.heap.size, 4, none⟩) (lt_of_cell g4)).trans g4
            by_cases hbody : 0 < body.size
            · obtain ⟨hn1, hn2⟩ := nonempty_two body hbody
              go_wp2_with fail
              refine (itoa_any _ _ (by omega) (by omega) (he2.below hb)).mono ?_
              rintro e wi ⟨rfl, hbi⟩
              have owni := own_below hown hbi
              have hbi2 := bl_trans hb hbi
              have g3i := (hbi2.cell (p := ⟨w.heap.size, 3, none⟩) (lt_of_cell g3)).trans g3
              have l1 := itoa_len (body.size : Int) (by omega)
              have hsz_w8 : w2.heap.size ≤ wi.heap.size + 1 := Nat.le_succ_of_le hbi2.size
              go_wp2_with (at_builtin; refine wpList_append_own _ rfl _ _ 22 rfl w2.heap.size 9 i0 (.string ⟨#[]⟩) 1 16 Tryz.underlying22 hi hz0 hz1 hz2 rfl (by decide) _ _ _ rfl (owni.alloc _) ⟨wi.heap.size, 0, none⟩ 1 1 _ rfl rfl (cell_one_new _ _ _) (oneCell_str _) (by unfold maxLen; omega) (by omega) (by simpa using hsz_w8) ?_; intro v1 w8 hown_w8 hg_w8 _; refine Hid.out ?_)
              have hb_w8 : Below w2.heap.size w2 w8 := (bl_alloc hbi2 _).grown hg_w8 (by simpa using hsz_w8) (fun b hbk => (owni.lt b hbk).1)
              clear hg_w8
              have g0_w8 := (hb_w8.cell (p := ⟨w.heap.size, 0, none⟩) (lt_of_cell g0)).trans g0
              have g1_w8 := (hb_w8.cell (p := ⟨w.heap.size, 1, none⟩) (lt_of_cell g1)).trans g1
              have g3_w8 := (hb_w8.cell (p := ⟨w.heap.size, 3, none⟩) (lt_of_cell g3)).trans g3
              have g4_w8 := (hb_w8.cell (p := ⟨w.heap.size, 4, none⟩) (lt_of_cell g4)).trans g4
              refine Lib.hid ?_
              cases close with
              | false =>
                obtain ⟨L, hL⟩ : ∃ L, L = linesP hs body.data.toList false := ⟨_, rfl⟩
                have hownL := lines_bo hown_w8 hbody Hn.out hL
                refine Hid.out ?_
                obtain ⟨hown_s, hL2⟩ := hownL
                obtain ⟨ao, cp, hv⟩ := own_shape hown_s
                subst hv
                have HLL := Lib.hid hL; clear hL
                refine Lib.hid ?_
                by_cases c1 : 512 < m.size + 1 + p.size + 9
                · go_wp2_with fail
                  go_ret2
                  exact ⟨ret_two (writeP_first HM.out HP.out HK.out hbig HLL.out c1), bl_trans HBL.out hb_w8⟩
                · by_cases c2 : 32 < L.length
                  · go_wp2_with fail
                    go_ret2
                    exact ⟨ret_two (writeP_many HM.out HP.out HK.out hbig HLL.out c2), bl_trans HBL.out hb_w8⟩
                  · have hJ0 := join_small HLL.out sb sh c2
                    rw [show (⟨#[]⟩ : ByteArray).data.toList = [] from rfl, join_nil] at hJ0
                    obtain ⟨J, hJ⟩ : ∃ J, J = L.flatten := ⟨_, rfl⟩
                    have hjoin := join_own (w := w8) ⟨#[]⟩ hown_s (by rw [show (⟨#[]⟩ : ByteArray).data.toList = [] from rfl, join_nil]; exact hJ0) (by omega)
                    rw [show (⟨#[]⟩ : ByteArray).data.toList = [] from rfl, join_nil, ← hJ] at hjoin
                    have HJ := Lib.hid hJ; clear hJ hJ0
                    have HJOIN := Lib.hid hjoin; clear hjoin
                    obtain ⟨F, hF⟩ : ∃ F, F = m ++ ⟨#[32]⟩ ++ p ++ ⟨#[32, 72, 84, 84, 80, 47, 49, 46, 49]⟩ := ⟨_, rfl⟩
                    have HF := Lib.hid hF; clear hF
                    by_cases c3 : 1024 < J.length
                    · go_wp2_with fail
                      refine HJOIN.out.mono ?_
                      rintro e wj ⟨rfl, hbj⟩
                      go_wp2_with fail
                      go_ret2
                      exact ⟨ret_two (writeP_flat HM.out HP.out HK.out hbig HLL.out (by rw [← HJ.out]; exact c3)), bl_trans HBL.out (bl_trans hb_w8 hbj)⟩
                    · go_wp2_with fail
                      refine HJOIN.out.mono ?_
                      rintro e wj ⟨rfl, hbj⟩
                      have own_j := own_below hown_s hbj
                      have g3_j := (hbj.cell (p := ⟨w.heap.size, 3, none⟩) (lt_of_cell g3_w8)).trans g3_w8
                      have hb_j := bl_trans hb_w8 hbj
                      have lt_3 : w.heap.size < wj.heap.size := lt_of_cell g3_j
                      have g3_k : ((wj.alloc (Obj.cells #[Value.string F] 9)).drew).cell? ⟨w.heap.size, 3, none⟩ = some (.string body) := (cell_old wj _ ⟨w.heap.size, 3, none⟩ lt_3).trans g3_j
                      have ne_k : some w.heap.size ≠ (Value.slice (some ⟨wj.heap.size, 0, none⟩) 1 1).ownBlock := by
                        show some _ ≠ some _
                        simp
                        omega
                      have sz_j := hb_j.size
                      obtain ⟨J2, hJ2⟩ : ∃ J, J = Lib.join (F.data.toList :: L) [13, 10] := ⟨_, rfl⟩
                      have lj2 := join2_small HLL.out HF.out sm sp sb sh c2 hJ2
                      have HJ2 := Lib.hid hJ2; clear hJ2
                      have n5 := fun W => add_run J2.toArray #[13, 10, 13, 10] (by simp; omega) W
                      have n8 := fun W => add_run2 (⟨J2.toArray⟩ ++ ⟨#[13, 10, 13, 10]⟩) body (by rw [ByteArray.size_append]; show J2.toArray.size + 4 + body.size ≤ _; simp; omega) W
                      go_wp2_with fail
                      rw [← HF.out]
                      by_cases hL0 : 0 < L.length
                      · obtain ⟨g, hgeq, hglt, hgc⟩ := own_some own_j hL0
                        subst hgeq
                        have cells_j := hgc (Obj.cells #[Value.string F] 9)
                        go_region_held3 (fun w' => w'.cell? ⟨w.heap.size, 3, none⟩ = some (.string body)) (first | go_keep | (exact hgrow10.cell g3_k ne_k) | (exact (hb11.cell (p := ⟨w.heap.size, 3, none⟩) (lt_of_cell (v := .string body) (by assumption))).trans (by assumption))) (first | (refine step_append_lies _ (by rfl) _ _ _ (by rfl) wj.heap.size 9 i0 (.string ⟨#[]⟩) 1 16 Tryz.underlying22 hi hz0 hz1 hz2 rfl (by decide) _ 1 [.string F] (by rfl) (own_one wj F) ⟨g, 0, none⟩ L.length cp (strs L) (by rfl) (strs_len L) cells_j (oneCell_strs L) hL0 (by unfold maxLen; omega) (by omega) (by simp) (wj.heap.size + 1) (by simp) ?_; intro g2 cap2 w10 hown10 hgrow10 hat10 hlt10) | (go_at_call 54; refine (join_first hown10 HJ2.out lj2 c2 join_own).mono ?_; rintro e w11 ⟨rfl, hb11⟩))
                        have hb_10 : Below wj.heap.size wj w10 := ((bl_alloc (Below.refl _ wj) _).drew).grown hgrow10 (by simp) (fun k hk => by cases hk; exact Nat.le_refl _)
                        go_wp2_with fail
                        go_ret2
                        exact ⟨ret_two (writeP_done HM.out HP.out HK.out hbig HLL.out HF.out HJ2.out c1 c2 (by rw [← HJ.out]; exact c3)), bl_trans (bl_trans (bl_trans HBL.out hb_j) hb_10) hb11⟩
                      · obtain rfl : L = [] := List.eq_nil_of_length_eq_zero (by omega)
                        have hown10 : ((wj.alloc (Obj.cells #[Value.string F] 9)).drew).ownsRow wj.heap.size 9 1 (.slice (some ⟨wj.heap.size, 0, none⟩) 1 1) (1 + ([] : List (List UInt8)).length) ([.string F] ++ strs []) := own_one wj F
                        have HO10 := Lib.hid hown10; clear hown10
                        cases ao with
                        | none =>
                          go_region_held3 (fun w' => w'.cell? ⟨w.heap.size, 3, none⟩ = some (.string body)) (first | go_keep | (exact g3_k) | (exact (hb11.cell (p := ⟨w.heap.size, 3, none⟩) (lt_of_cell (v := .string body) (by assumption))).trans (by assumption))) (first | (go_at_call 54; refine (join_first HO10.out HJ2.out lj2 c2 join_own).mono ?_; rintro e w11 ⟨rfl, hb11⟩))
                          go_wp2_with fail
                          go_ret2
                          exact ⟨ret_two (writeP_done HM.out HP.out HK.out hbig HLL.out HF.out HJ2.out c1 c2 (by rw [← HJ.out]; exact c3)), bl_trans (bl_trans (bl_trans HBL.out hb_j) ((bl_alloc (Below.refl _ wj) _).drew)) hb11⟩
                        | some ad =>
                          go_region_held3 (fun w' => w'.cell? ⟨w.heap.size, 3, none⟩ = some (.string body)) (first | go_keep | (exact g3_k) | (exact (hb11.cell (p := ⟨w.heap.size, 3, none⟩) (lt_of_cell (v := .string body) (by assumption))).trans (by assumption))) (first | (go_at_call 54; refine (join_first HO10.out HJ2.out lj2 c2 join_own).mono ?_; rintro e w11 ⟨rfl, hb11⟩))
                          go_wp2_with fail
                          go_ret2
                          exact ⟨ret_two (writeP_done HM.out HP.out HK.out hbig HLL.out HF.out HJ2.out c1 c2 (by rw [← HJ.out]; exact c3)), bl_trans (bl_trans (bl_trans HBL.out hb_j) ((bl_alloc (Below.refl _ wj) _).drew)) hb11⟩
              | true =>
                have hsz_w9 : w2.heap.size ≤ w8.heap.size + 1 := Nat.le_succ_of_le hb_w8.size
                go_wp2_with (at_builtin; refine wpList_append_own _ rfl _ _ 22 rfl w2.heap.size 9 i0 (.string ⟨#[]⟩) 1 16 Tryz.underlying22 hi hz0 hz1 hz2 rfl (by decide) _ _ _ rfl (hown_w8.alloc _) ⟨w8.heap.size, 0, none⟩ 1 1 _ rfl rfl (cell_one_new _ _ _) (oneCell_str _) (by unfold maxLen; omega) (by omega) (by simpa using hsz_w9) ?_; intro v3 w9 hown_w9 hg_w9 _; refine Hid.out ?_)
                have hb_w9 : Below w2.heap.size w2 w9 := (bl_alloc hb_w8 _).grown hg_w9 (by simpa using hsz_w9) (fun b hbk => (hown_w8.lt b hbk).1)
                clear hg_w9
                have g0_w9 := (hb_w9.cell (p := ⟨w.heap.size, 0, none⟩) (lt_of_cell g0)).trans g0
                have g1_w9 := (hb_w9.cell (p := ⟨w.heap.size, 1, none⟩) (lt_of_cell g1)).trans g1
                have g3_w9 := (hb_w9.cell (p := ⟨w.heap.size, 3, none⟩) (lt_of_cell g3)).trans g3
                have g4_w9 := (hb_w9.cell (p := ⟨w.heap.size, 4, none⟩) (lt_of_cell g4)).trans g4
                refine Lib.hid ?_
                obtain ⟨L, hL⟩ : ∃ L, L = linesP hs body.data.toList true := ⟨_, rfl⟩
                have hownL := lines_bc hown_w9 hbody Hn.out hL
                refine Hid.out ?_
                obtain ⟨hown_s, hL2⟩ := hownL
                obtain ⟨ao, cp, hv⟩ := own_shape hown_s
                subst hv
                have HLL := Lib.hid hL; clear hL
                refine Lib.hid ?_
                by_cases c1 : 512 < m.size + 1 + p.size + 9
                · go_wp2_with fail
                  go_ret2
                  exact ⟨ret_two (writeP_first HM.out HP.out HK.out hbig HLL.out c1), bl_trans HBL.out hb_w9⟩
                · by_cases c2 : 32 < L.length
                  · go_wp2_with fail
                    go_ret2
                    exact ⟨ret_two (writeP_many HM.out HP.out HK.out hbig HLL.out c2), bl_trans HBL.out hb_w9⟩
                  · have hJ0 := join_small HLL.out sb sh c2
                    rw [show (⟨#[]⟩ : ByteArray).data.toList = [] from rfl, join_nil] at hJ0
                    obtain ⟨J, hJ⟩ : ∃ J, J = L.flatten := ⟨_, rfl⟩
                    have hjoin := join_own (w := w9) ⟨#[]⟩ hown_s (by rw [show (⟨#[]⟩ : ByteArray).data.toList = [] from rfl, join_nil]; exact hJ0) (by omega)
                    rw [show (⟨#[]⟩ : ByteArray).data.toList = [] from rfl, join_nil, ← hJ] at hjoin
                    have HJ := Lib.hid hJ; clear hJ hJ0
                    have HJOIN := Lib.hid hjoin; clear hjoin
                    obtain ⟨F, hF⟩ : ∃ F, F = m ++ ⟨#[32]⟩ ++ p ++ ⟨#[32, 72, 84, 84, 80, 47, 49, 46, 49]⟩ := ⟨_, rfl⟩
                    have HF := Lib.hid hF; clear hF
                    by_cases c3 : 1024 < J.length
                    · go_wp2_with fail
                      refine HJOIN.out.mono ?_
                      rintro e wj ⟨rfl, hbj⟩
                      go_wp2_with fail
                      go_ret2
                      exact ⟨ret_two (writeP_flat HM.out HP.out HK.out hbig HLL.out (by rw [← HJ.out]; exact c3)), bl_trans HBL.out (bl_trans hb_w9 hbj)⟩
                    · go_wp2_with fail
                      refine HJOIN.out.mono ?_
                      rintro e wj ⟨rfl, hbj⟩
                      have own_j := own_below hown_s hbj
                      have g3_j := (hbj.cell (p := ⟨w.heap.size, 3, none⟩) (lt_of_cell g3_w9)).trans g3_w9
                      have hb_j := bl_trans hb_w9 hbj
                      have lt_3 : w.heap.size < wj.heap.size := lt_of_cell g3_j
                      have g3_k : ((wj.alloc (Obj.cells #[Value.string F] 9)).drew).cell? ⟨w.heap.size, 3, none⟩ = some (.string body) := (cell_old wj _ ⟨w.heap.size, 3, none⟩ lt_3).trans g3_j
                      have ne_k : some w.heap.size ≠ (Value.slice (some ⟨wj.heap.size, 0, none⟩) 1 1).ownBlock := by
                        show some _ ≠ some _
                        simp
                        omega
                      have sz_j := hb_j.size
                      obtain ⟨J2, hJ2⟩ : ∃ J, J = Lib.join (F.data.toList :: L) [13, 10] := ⟨_, rfl⟩
                      have lj2 := join2_small HLL.out HF.out sm sp sb sh c2 hJ2
                      have HJ2 := Lib.hid hJ2; clear hJ2
                      have n5 := fun W => add_run J2.toArray #[13, 10, 13, 10] (by simp; omega) W
                      have n8 := fun W => add_run2 (⟨J2.toArray⟩ ++ ⟨#[13, 10, 13, 10]⟩) body (by rw [ByteArray.size_append]; show J2.toArray.size + 4 + body.size ≤ _; simp; omega) W
                      go_wp2_with fail
                      rw [← HF.out]
                      by_cases hL0 : 0 < L.length
                      · obtain ⟨g, hgeq, hglt, hgc⟩ := own_some own_j hL0
                        subst hgeq
                        have cells_j := hgc (Obj.cells #[Value.string F] 9)
                        go_region_held3 (fun w' => w'.cell? ⟨w.heap.size, 3, none⟩ = some (.string body)) (first | go_keep | (exact hgrow10.cell g3_k ne_k) | (exact (hb11.cell (p := ⟨w.heap.size, 3, none⟩) (lt_of_cell (v := .string body) (by assumption))).trans (by assumption))) (first | (refine step_append_lies _ (by rfl) _ _ _ (by rfl) wj.heap.size 9 i0 (.string ⟨#[]⟩) 1 16 Tryz.underlying22 hi hz0 hz1 hz2 rfl (by decide) _ 1 [.string F] (by rfl) (own_one wj F) ⟨g, 0, none⟩ L.length cp (strs L) (by rfl) (strs_len L) cells_j (oneCell_strs L) hL0 (by unfold maxLen; omega) (by omega) (by simp) (wj.heap.size + 1) (by simp) ?_; intro g2 cap2 w10 hown10 hgrow10 hat10 hlt10) | (go_at_call 54; refine (join_first hown10 HJ2.out lj2 c2 join_own).mono ?_; rintro e w11 ⟨rfl, hb11⟩))
                        have hb_10 : Below wj.heap.size wj w10 := ((bl_alloc (Below.refl _ wj) _).drew).grown hgrow10 (by simp) (fun k hk => by cases hk; exact Nat.le_refl _)
                        go_wp2_with fail
                        go_ret2
                        exact ⟨ret_two (writeP_done HM.out HP.out HK.out hbig HLL.out HF.out HJ2.out c1 c2 (by rw [← HJ.out]; exact c3)), bl_trans (bl_trans (bl_trans HBL.out hb_j) hb_10) hb11⟩
                      · obtain rfl : L = [] := List.eq_nil_of_length_eq_zero (by omega)
                        have hown10 : ((wj.alloc (Obj.cells #[Value.string F] 9)).drew).ownsRow wj.heap.size 9 1 (.slice (some ⟨wj.heap.size, 0, none⟩) 1 1) (1 + ([] : List (List UInt8)).length) ([.string F] ++ strs []) := own_one wj F
                        have HO10 := Lib.hid hown10; clear hown10
                        cases ao with
                        | none =>
                          go_region_held3 (fun w' => w'.cell? ⟨w.heap.size, 3, none⟩ = some (.string body)) (first | go_keep | (exact g3_k) | (exact (hb11.cell (p := ⟨w.heap.size, 3, none⟩) (lt_of_cell (v := .string body) (by assumption))).trans (by assumption))) (first | (go_at_call 54; refine (join_first HO10.out HJ2.out lj2 c2 join_own).mono ?_; rintro e w11 ⟨rfl, hb11⟩))
                          go_wp2_with fail
                          go_ret2
                          exact ⟨ret_two (writeP_done HM.out HP.out HK.out hbig HLL.out HF.out HJ2.out c1 c2 (by rw [← HJ.out]; exact c3)), bl_trans (bl_trans (bl_trans HBL.out hb_j) ((bl_alloc (Below.refl _ wj) _).drew)) hb11⟩
                        | some ad =>
                          go_region_held3 (fun w' => w'.cell? ⟨w.heap.size, 3, none⟩ = some (.string body)) (first | go_keep | (exact g3_k) | (exact (hb11.cell (p := ⟨w.heap.size, 3, none⟩) (lt_of_cell (v := .string body) (by assumption))).trans (by assumption))) (first | (go_at_call 54; refine (join_first HO10.out HJ2.out lj2 c2 join_own).mono ?_; rintro e w11 ⟨rfl, hb11⟩))
                          go_wp2_with fail
                          go_ret2
                          exact ⟨ret_two (writeP_done HM.out HP.out HK.out hbig HLL.out HF.out HJ2.out c1 c2 (by rw [← HJ.out]; exact c3)), bl_trans (bl_trans (bl_trans HBL.out hb_j) ((bl_alloc (Below.refl _ wj) _).drew)) hb11⟩
            · obtain ⟨hn1, hn3⟩ := empty_of body hbody
              have hn2 : (!body.toList.isEmpty) = false := by simp [hn1]
              have HN3 := Lib.hid hn3; clear hn3
              cases close with
              | false =>
                obtain ⟨L, hL⟩ : ∃ L, L = linesP hs body.data.toList false := ⟨_, rfl⟩
                have hownL := lines_no hown HN3.out Hn.out hL
                refine Hid.out ?_
                obtain ⟨hown_s, hL2⟩ := hownL
                obtain ⟨ao, cp, hv⟩ := own_shape hown_s
                subst hv
                have HLL := Lib.hid hL; clear hL
                refine Lib.hid ?_
                by_cases c1 : 512 < m.size + 1 + p.size + 9
                · go_wp2_with fail
                  go_ret2
                  exact ⟨ret_two (writeP_first HM.out HP.out HK.out hbig HLL.out c1), bl_trans HBL.out hb⟩
                · by_cases c2 : 32 < L.length
                  · go_wp2_with fail
                    go_ret2
                    exact ⟨ret_two (writeP_many HM.out HP.out HK.out hbig HLL.out c2), bl_trans HBL.out hb⟩
                  · have hJ0 := join_small HLL.out sb sh c2
                    rw [show (⟨#[]⟩ : ByteArray).data.toList = [] from rfl, join_nil] at hJ0
                    obtain ⟨J, hJ⟩ : ∃ J, J = L.flatten := ⟨_, rfl⟩
                    have hjoin := join_own (w := wr) ⟨#[]⟩ hown_s (by rw [show (⟨#[]⟩ : ByteArray).data.toList = [] from rfl, join_nil]; exact hJ0) (by omega)
                    rw [show (⟨#[]⟩ : ByteArray).data.toList = [] from rfl, join_nil, ← hJ] at hjoin
                    have HJ := Lib.hid hJ; clear hJ hJ0
                    have HJOIN := Lib.hid hjoin; clear hjoin
                    obtain ⟨F, hF⟩ : ∃ F, F = m ++ ⟨#[32]⟩ ++ p ++ ⟨#[32, 72, 84, 84, 80, 47, 49, 46, 49]⟩ := ⟨_, rfl⟩
                    have HF := Lib.hid hF; clear hF
                    by_cases c3 : 1024 < J.length
                    · go_wp2_with fail
                      refine HJOIN.out.mono ?_
                      rintro e wj ⟨rfl, hbj⟩
                      go_wp2_with fail
                      go_ret2
                      exact ⟨ret_two (writeP_flat HM.out HP.out HK.out hbig HLL.out (by rw [← HJ.out]; exact c3)), bl_trans HBL.out (bl_trans hb hbj)⟩
                    · go_wp2_with fail
                      refine HJOIN.out.mono ?_
                      rintro e wj ⟨rfl, hbj⟩
                      have own_j := own_below hown_s hbj
                      have g3_j := (hbj.cell (p := ⟨w.heap.size, 3, none⟩) (lt_of_cell g3')).trans g3'
                      have hb_j := bl_trans hb hbj
                      have lt_3 : w.heap.size < wj.heap.size := lt_of_cell g3_j
                      have g3_k : ((wj.alloc (Obj.cells #[Value.string F] 9)).drew).cell? ⟨w.heap.size, 3, none⟩ = some (.string body) := (cell_old wj _ ⟨w.heap.size, 3, none⟩ lt_3).trans g3_j
                      have ne_k : some w.heap.size ≠ (Value.slice (some ⟨wj.heap.size, 0, none⟩) 1 1).ownBlock := by
                        show some _ ≠ some _
                        simp
                        omega
                      have sz_j := hb_j.size
                      obtain ⟨J2, hJ2⟩ : ∃ J, J = Lib.join (F.data.toList :: L) [13, 10] := ⟨_, rfl⟩
                      have lj2 := join2_small HLL.out HF.out sm sp sb sh c2 hJ2
                      have HJ2 := Lib.hid hJ2; clear hJ2
                      have n5 := fun W => add_run J2.toArray #[13, 10, 13, 10] (by simp; omega) W
                      have n8 := fun W => add_run2 (⟨J2.toArray⟩ ++ ⟨#[13, 10, 13, 10]⟩) body (by rw [ByteArray.size_append]; show J2.toArray.size + 4 + body.size ≤ _; simp; omega) W
                      go_wp2_with fail
                      rw [← HF.out]
                      by_cases hL0 : 0 < L.length
                      · obtain ⟨g, hgeq, hglt, hgc⟩ := own_some own_j hL0
                        subst hgeq
                        have cells_j := hgc (Obj.cells #[Value.string F] 9)
                        go_region_held3 (fun w' => w'.cell? ⟨w.heap.size, 3, none⟩ = some (.string body)) (first | go_keep | (exact hgrow10.cell g3_k ne_k) | (exact (hb11.cell (p := ⟨w.heap.size, 3, none⟩) (lt_of_cell (v := .string body) (by assumption))).trans (by assumption))) (first | (refine step_append_lies _ (by rfl) _ _ _ (by rfl) wj.heap.size 9 i0 (.string ⟨#[]⟩) 1 16 Tryz.underlying22 hi hz0 hz1 hz2 rfl (by decide) _ 1 [.string F] (by rfl) (own_one wj F) ⟨g, 0, none⟩ L.length cp (strs L) (by rfl) (strs_len L) cells_j (oneCell_strs L) hL0 (by unfold maxLen; omega) (by omega) (by simp) (wj.heap.size + 1) (by simp) ?_; intro g2 cap2 w10 hown10 hgrow10 hat10 hlt10) | (go_at_call 54; refine (join_first hown10 HJ2.out lj2 c2 join_own).mono ?_; rintro e w11 ⟨rfl, hb11⟩))
                        have hb_10 : Below wj.heap.size wj w10 := ((bl_alloc (Below.refl _ wj) _).drew).grown hgrow10 (by simp) (fun k hk => by cases hk; exact Nat.le_refl _)
                        go_wp2_with fail
                        go_ret2
                        exact ⟨ret_two (writeP_done HM.out HP.out HK.out hbig HLL.out HF.out HJ2.out c1 c2 (by rw [← HJ.out]; exact c3)), bl_trans (bl_trans (bl_trans HBL.out hb_j) hb_10) hb11⟩
                      · obtain rfl : L = [] := List.eq_nil_of_length_eq_zero (by omega)
                        have hown10 : ((wj.alloc (Obj.cells #[Value.string F] 9)).drew).ownsRow wj.heap.size 9 1 (.slice (some ⟨wj.heap.size, 0, none⟩) 1 1) (1 + ([] : List (List UInt8)).length) ([.string F] ++ strs []) := own_one wj F
                        have HO10 := Lib.hid hown10; clear hown10
                        cases ao with
                        | none =>
                          go_region_held3 (fun w' => w'.cell? ⟨w.heap.size, 3, none⟩ = some (.string body)) (first | go_keep | (exact g3_k) | (exact (hb11.cell (p := ⟨w.heap.size, 3, none⟩) (lt_of_cell (v := .string body) (by assumption))).trans (by assumption))) (first | (go_at_call 54; refine (join_first HO10.out HJ2.out lj2 c2 join_own).mono ?_; rintro e w11 ⟨rfl, hb11⟩))
                          go_wp2_with fail
                          go_ret2
                          exact ⟨ret_two (writeP_done HM.out HP.out HK.out hbig HLL.out HF.out HJ2.out c1 c2 (by rw [← HJ.out]; exact c3)), bl_trans (bl_trans (bl_trans HBL.out hb_j) ((bl_alloc (Below.refl _ wj) _).drew)) hb11⟩
                        | some ad =>
                          go_region_held3 (fun w' => w'.cell? ⟨w.heap.size, 3, none⟩ = some (.string body)) (first | go_keep | (exact g3_k) | (exact (hb11.cell (p := ⟨w.heap.size, 3, none⟩) (lt_of_cell (v := .string body) (by assumption))).trans (by assumption))) (first | (go_at_call 54; refine (join_first HO10.out HJ2.out lj2 c2 join_own).mono ?_; rintro e w11 ⟨rfl, hb11⟩))
                          go_wp2_with fail
                          go_ret2
                          exact ⟨ret_two (writeP_done HM.out HP.out HK.out hbig HLL.out HF.out HJ2.out c1 c2 (by rw [← HJ.out]; exact c3)), bl_trans (bl_trans (bl_trans HBL.out hb_j) ((bl_alloc (Below.refl _ wj) _).drew)) hb11⟩
              | true =>
                have hsz_w9 : w2.heap.size ≤ wr.heap.size + 1 := Nat.le_succ_of_le hb.size
                go_wp2_with (at_builtin; refine wpList_append_own _ rfl _ _ 22 rfl w2.heap.size 9 i0 (.string ⟨#[]⟩) 1 16 Tryz.underlying22 hi hz0 hz1 hz2 rfl (by decide) _ _ _ rfl (hown.alloc _) ⟨wr.heap.size, 0, none⟩ 1 1 _ rfl rfl (cell_one_new _ _ _) (oneCell_str _) (by unfold maxLen; omega) (by omega) (by simpa using hsz_w9) ?_; intro v3 w9 hown_w9 hg_w9 _; refine Hid.out ?_)
                have hb_w9 : Below w2.heap.size w2 w9 := (bl_alloc hb _).grown hg_w9 (by simpa using hsz_w9) (fun b hbk => (hown.lt b hbk).1)
                clear hg_w9
                have g0_w9 := (hb_w9.cell (p := ⟨w.heap.size, 0, none⟩) (lt_of_cell g0)).trans g0
                have g1_w9 := (hb_w9.cell (p := ⟨w.heap.size, 1, none⟩) (lt_of_cell g1)).trans g1
                have g3_w9 := (hb_w9.cell (p := ⟨w.heap.size, 3, none⟩) (lt_of_cell g3)).trans g3
                have g4_w9 := (hb_w9.cell (p := ⟨w.heap.size, 4, none⟩) (lt_of_cell g4)).trans g4
                refine Lib.hid ?_
                obtain ⟨L, hL⟩ : ∃ L, L = linesP hs body.data.toList true := ⟨_, rfl⟩
                have hownL := lines_nc hown_w9 HN3.out Hn.out hL
                refine Hid.out ?_
                obtain ⟨hown_s, hL2⟩ := hownL
                obtain ⟨ao, cp, hv⟩ := own_shape hown_s
                subst hv
                have HLL := Lib.hid hL; clear hL
                refine Lib.hid ?_
                by_cases c1 : 512 < m.size + 1 + p.size + 9
                · go_wp2_with fail
                  go_ret2
                  exact ⟨ret_two (writeP_first HM.out HP.out HK.out hbig HLL.out c1), bl_trans HBL.out hb_w9⟩
                · by_cases c2 : 32 < L.length
                  · go_wp2_with fail
                    go_ret2
                    exact ⟨ret_two (writeP_many HM.out HP.out HK.out hbig HLL.out c2), bl_trans HBL.out hb_w9⟩
                  · have hJ0 := join_small HLL.out sb sh c2
                    rw [show (⟨#[]⟩ : ByteArray).data.toList = [] from rfl, join_nil] at hJ0
                    obtain ⟨J, hJ⟩ : ∃ J, J = L.flatten := ⟨_, rfl⟩
                    have hjoin := join_own (w := w9) ⟨#[]⟩ hown_s (by rw [show (⟨#[]⟩ : ByteArray).data.toList = [] from rfl, join_nil]; exact hJ0) (by omega)
                    rw [show (⟨#[]⟩ : ByteArray).data.toList = [] from rfl, join_nil, ← hJ] at hjoin
                    have HJ := Lib.hid hJ; clear hJ hJ0
                    have HJOIN := Lib.hid hjoin; clear hjoin
                    obtain ⟨F, hF⟩ : ∃ F, F = m ++ ⟨#[32]⟩ ++ p ++ ⟨#[32, 72, 84, 84, 80, 47, 49, 46, 49]⟩ := ⟨_, rfl⟩
                    have HF := Lib.hid hF; clear hF
                    by_cases c3 : 1024 < J.length
                    · go_wp2_with fail
                      refine HJOIN.out.mono ?_
                      rintro e wj ⟨rfl, hbj⟩
                      go_wp2_with fail
                      go_ret2
                      exact ⟨ret_two (writeP_flat HM.out HP.out HK.out hbig HLL.out (by rw [← HJ.out]; exact c3)), bl_trans HBL.out (bl_trans hb_w9 hbj)⟩
                    · go_wp2_with fail
                      refine HJOIN.out.mono ?_
                      rintro e wj ⟨rfl, hbj⟩
                      have own_j := own_below hown_s hbj
                      have g3_j := (hbj.cell (p := ⟨w.heap.size, 3, none⟩) (lt_of_cell g3_w9)).trans g3_w9
                      have hb_j := bl_trans hb_w9 hbj
                      have lt_3 : w.heap.size < wj.heap.size := lt_of_cell g3_j
                      have g3_k : ((wj.alloc (Obj.cells #[Value.string F] 9)).drew).cell? ⟨w.heap.size, 3, none⟩ = some (.string body) := (cell_old wj _ ⟨w.heap.size, 3, none⟩ lt_3).trans g3_j
                      have ne_k : some w.heap.size ≠ (Value.slice (some ⟨wj.heap.size, 0, none⟩) 1 1).ownBlock := by
                        show some _ ≠ some _
                        simp
                        omega
                      have sz_j := hb_j.size
                      obtain ⟨J2, hJ2⟩ : ∃ J, J = Lib.join (F.data.toList :: L) [13, 10] := ⟨_, rfl⟩
                      have lj2 := join2_small HLL.out HF.out sm sp sb sh c2 hJ2
                      have HJ2 := Lib.hid hJ2; clear hJ2
                      have n5 := fun W => add_run J2.toArray #[13, 10, 13, 10] (by simp; omega) W
                      have n8 := fun W => add_run2 (⟨J2.toArray⟩ ++ ⟨#[13, 10, 13, 10]⟩) body (by rw [ByteArray.size_append]; show J2.toArray.size + 4 + body.size ≤ _; simp; omega) W
                      go_wp2_with fail
                      rw [← HF.out]
                      by_cases hL0 : 0 < L.length
                      · obtain ⟨g, hgeq, hglt, hgc⟩ := own_some own_j hL0
                        subst hgeq
                        have cells_j := hgc (Obj.cells #[Value.string F] 9)
                        go_region_held3 (fun w' => w'.cell? ⟨w.heap.size, 3, none⟩ = some (.string body)) (first | go_keep | (exact hgrow10.cell g3_k ne_k) | (exact (hb11.cell (p := ⟨w.heap.size, 3, none⟩) (lt_of_cell (v := .string body) (by assumption))).trans (by assumption))) (first | (refine step_append_lies _ (by rfl) _ _ _ (by rfl) wj.heap.size 9 i0 (.string ⟨#[]⟩) 1 16 Tryz.underlying22 hi hz0 hz1 hz2 rfl (by decide) _ 1 [.string F] (by rfl) (own_one wj F) ⟨g, 0, none⟩ L.length cp (strs L) (by rfl) (strs_len L) cells_j (oneCell_strs L) hL0 (by unfold maxLen; omega) (by omega) (by simp) (wj.heap.size + 1) (by simp) ?_; intro g2 cap2 w10 hown10 hgrow10 hat10 hlt10) | (go_at_call 54; refine (join_first hown10 HJ2.out lj2 c2 join_own).mono ?_; rintro e w11 ⟨rfl, hb11⟩))
                        have hb_10 : Below wj.heap.size wj w10 := ((bl_alloc (Below.refl _ wj) _).drew).grown hgrow10 (by simp) (fun k hk => by cases hk; exact Nat.le_refl _)
                        go_wp2_with fail
                        go_ret2
                        exact ⟨ret_two (writeP_done HM.out HP.out HK.out hbig HLL.out HF.out HJ2.out c1 c2 (by rw [← HJ.out]; exact c3)), bl_trans (bl_trans (bl_trans HBL.out hb_j) hb_10) hb11⟩
                      · obtain rfl : L = [] := List.eq_nil_of_length_eq_zero (by omega)
                        have hown10 : ((wj.alloc (Obj.cells #[Value.string F] 9)).drew).ownsRow wj.heap.size 9 1 (.slice (some ⟨wj.heap.size, 0, none⟩) 1 1) (1 + ([] : List (List UInt8)).length) ([.string F] ++ strs []) := own_one wj F
                        have HO10 := Lib.hid hown10; clear hown10
                        cases ao with
                        | none =>
                          go_region_held3 (fun w' => w'.cell? ⟨w.heap.size, 3, none⟩ = some (.string body)) (first | go_keep | (exact g3_k) | (exact (hb11.cell (p := ⟨w.heap.size, 3, none⟩) (lt_of_cell (v := .string body) (by assumption))).trans (by assumption))) (first | (go_at_call 54; refine (join_first HO10.out HJ2.out lj2 c2 join_own).mono ?_; rintro e w11 ⟨rfl, hb11⟩))
                          go_wp2_with fail
                          go_ret2
                          exact ⟨ret_two (writeP_done HM.out HP.out HK.out hbig HLL.out HF.out HJ2.out c1 c2 (by rw [← HJ.out]; exact c3)), bl_trans (bl_trans (bl_trans HBL.out hb_j) ((bl_alloc (Below.refl _ wj) _).drew)) hb11⟩
                        | some ad =>
                          go_region_held3 (fun w' => w'.cell? ⟨w.heap.size, 3, none⟩ = some (.string body)) (first | go_keep | (exact g3_k) | (exact (hb11.cell (p := ⟨w.heap.size, 3, none⟩) (lt_of_cell (v := .string body) (by assumption))).trans (by assumption))) (first | (go_at_call 54; refine (join_first HO10.out HJ2.out lj2 c2 join_own).mono ?_; rintro e w11 ⟨rfl, hb11⟩))
                          go_wp2_with fail
                          go_ret2
                          exact ⟨ret_two (writeP_done HM.out HP.out HK.out hbig HLL.out HF.out HJ2.out c1 c2 (by rw [← HJ.out]; exact c3)), bl_trans (bl_trans (bl_trans HBL.out hb_j) ((bl_alloc (Below.refl _ wj) _).drew)) hb11⟩
end Go.Proofs.YtnicmdlicbnlgaaGreatDoor
