/-
  Walks: a reader's header.
-/
import Derived.Test.YtnicmdlicbnlgaaGreatDoorH1
import Derived.Test.YtnicmdlicbnlgaaGreatDoorRs
namespace Go.Proofs.YtnicmdlicbnlgaaGreatDoor
open Go.RowKit
set_option linter.unusedVariables false
set_option linter.unusedSimpArgs false

theorem headLn_wire (l : List UInt8) : headLn l = if (Lib.cut l [58]).2.2 && tokenB (Lib.cut l [58]).1 && valueB (Lib.cut l [58]).2.1 then some (smallB (Lib.cut l [58]).1, bareB (Lib.cut l [58]).2.1) else none := by
  unfold headLn
  rw [cut_one]
  cases cutP 58 l with
  | none => rfl
  | some x => rfl
theorem value_ascii {l : List UInt8} (h : valueB l = true) : l.all (· < 128) = true := by
  unfold valueB at h
  refine List.all_eq_true.2 fun x hx => ?_
  have := List.all_eq_true.1 h x hx
  exact byte_all (fun c => bVal c = true → decide (c < 128) = true) (by decide +kernel) x this
theorem bare_mem {l : List UInt8} {x : UInt8} (h : x ∈ bareB l) : x ∈ l := by
  unfold bareB Lib.trimS Lib.trimLeftS Lib.trimRightS at h
  have h1 := (List.dropWhile_sublist _).subset h
  rw [List.mem_reverse] at h1
  have h2 := (List.dropWhile_sublist _).subset h1
  rwa [List.mem_reverse] at h2
theorem bare_ascii {l : List UInt8} (h : valueB l = true) : Lib.toLowerD (bareB l) = smallB (bareB l) :=
  lower_ascii _ (List.all_eq_true.2 fun x hx => List.all_eq_true.1 (value_ascii h) x (bare_mem hx))
theorem bare_len (l : List UInt8) : (bareB l).length ≤ l.length := by
  unfold bareB Lib.trimS Lib.trimLeftS Lib.trimRightS
  refine Nat.le_trans (List.dropWhile_sublist _).length_le ?_
  rw [List.length_reverse]
  refine Nat.le_trans (List.dropWhile_sublist _).length_le ?_
  rw [List.length_reverse]
  exact Nat.le_refl _
theorem info_head : (Tryz.prog.info? 88).map (fun i => (i.zero, i.size, i.bytes)) = some (some (.agg #[.string ⟨#[]⟩, .string ⟨#[]⟩]), 2, 32) := by kernel_rfl
theorem two_cells (a b : ByteArray) : ∀ u ∈ [Value.string a, Value.string b], u.oneCell' = true := by
  intro u hu
  simp only [List.mem_cons, List.not_mem_nil, or_false] at hu
  rcases hu with rfl | rfl <;> rfl
theorem reads_new (w : World) (a b : Value) (t : TypeId) : Reads (w.alloc (.cells #[a, b] t)) (w.alloc (.cells #[a, b] t)).heap.size 2 (some ⟨w.heap.size, 0, none⟩) 1 [a, b] := by
  refine ⟨rfl, fun _ => ⟨_, rfl, by simp, fun j u hu => ?_⟩⟩
  rw [Addr.add_lit, Nat.zero_add]
  have := cell_new w #[a, b] t (0, 0) j
  rw [this]
  simpa using hu
def headT (s : RS) (l : List UInt8) : RS := { s with many := s.many + 1, left := s.left - l.length }
theorem headP_no {s : RS} {l r : List UInt8} (h : headLn l = none) : headP s l r = .fail 280 := by unfold headP; rw [h]
theorem headP_len_bad {s : RS} {l r n v : List UInt8} (h : headLn l = some (n, v)) (hn : n = cLen) (hb : 0 ≤ s.long ∨ numP v < 0) : headP s l r = .fail 280 := by
  unfold headP
  rw [h]
  simp only
  rw [if_pos hn, if_pos (by simpa using hb)]
theorem headP_len_ok {s : RS} {l r n v : List UInt8} (h : headLn l = some (n, v)) (hn : n = cLen) (h1 : ¬ 0 ≤ s.long) (h2 : ¬ numP v < 0) : headP s l r = .on { headT s l with long := numP v } r := by
  unfold headP
  rw [h]
  simp only
  rw [if_pos hn, if_neg (by simp only [Bool.or_eq_true, decide_eq_true_eq, not_or]; exact ⟨h1, h2⟩)]
  rfl
theorem headP_enc_bad {s : RS} {l r n v : List UInt8} (h : headLn l = some (n, v)) (h1 : ¬ n = cLen) (hn : n = cEnc) (hb : s.chunks = true ∨ (smallB v == cChunked) = false) : headP s l r = .fail 280 := by
  unfold headP
  rw [h]
  simp only
  rw [if_neg h1, if_pos hn, if_pos (by rcases hb with h | h <;> simp [h])]
theorem headP_enc_ok {s : RS} {l r n v : List UInt8} (h : headLn l = some (n, v)) (h1 : ¬ n = cLen) (hn : n = cEnc) (h2 : s.chunks = false) (h3 : (smallB v == cChunked) = true) : headP s l r = .on { headT s l with chunks := true } r := by
  unfold headP
  rw [h]
  simp only
  rw [if_neg h1, if_pos hn, if_neg (by simp [h2, h3])]
  rfl
theorem headP_con {s : RS} {l r n v : List UInt8} (h : headLn l = some (n, v)) (h1 : ¬ n = cLen) (h2 : ¬ n = cEnc) (hn : n = cCon) : headP s l r = .on { headT s l with close := s.close || (smallB v == cClose) } r := by
  unfold headP
  rw [h]
  simp only
  rw [if_neg h1, if_neg h2, if_pos hn]
  rfl
theorem headP_else {s : RS} {l r n v : List UInt8} (h : headLn l = some (n, v)) (h1 : ¬ n = cLen) (h2 : ¬ n = cEnc) (h3 : ¬ n = cCon) : headP s l r = .on { headT s l with hs := s.hs ++ [⟨⟨n.toArray⟩, ⟨v.toArray⟩⟩] } r := by
  unfold headP
  rw [h]
  simp only
  rw [if_neg h1, if_neg h2, if_neg h3]
  rfl
/-- A header's line has been taken off: the two counts. -/
theorem RdAt.counts {N : Nat} {K : Nat → Prop} {w : World} {R : Nat} {fed : Bool} {s : RS} {b : List UInt8} {bv hv yv : Value} {used taken : Int} (h : RdAt N K w R fed s b bv hv yv 0 used taken) (l : List UInt8) (hl : l.length ≤ s.left) (t : ByteArray) (ht : t.size = l.length) :
    RdAt N K ((w.setCell ⟨R, 8, none⟩ (.int .i64 ((s.many : Int) + 1))).setCell ⟨R, 9, none⟩ (.int .i64 ((s.left : Int) - (t.size : Int)))) R fed (headT s l) b bv hv yv 0 used taken := by
  have e : ((s.left : Int) - (t.size : Int)) = ((s.left - l.length : Nat) : Int) := by rw [ht]; omega
  rw [e]
  exact (h.store 8 _ (s' := { s with many := s.many + 1 }) rfl rfl rfl).store 9 _ rfl rfl rfl
set_option maxRecDepth 100000 in
set_option maxHeartbeats 6400000 in
theorem rk_head_line (N : Nat) (K : Nat → Prop) (R : Nat) (fed : Bool) (s : RS) (b : List UInt8) (bv hv yv : Value) (used taken : Int) (w : World) (h : RdAt N K w R fed s b bv hv yv 0 used taken) (B : Nat) (he : EnvAt B w) (hBN : B ≤ N) (hBK : ∀ k, K k → B ≤ k)
    (h0 : 0 ≤ taken) (hT : taken + b.length ≤ 1000000000) (hwf : s.wf) (hm : ¬ s.many = 32) (l r : List UInt8) (hlr : lineAt s.left b = .got l r) (hne : ¬ l = []) :
    Calls Tryz.prog 42 #[.pointer (some ⟨R, 0, none⟩)] w (StepPost N K w R fed s b used taken (headP s l r)) := by
  have hleft := hwf.left
  have hmany := hwf.many
  have hhl := hwf.heads
  have hl5 := (lineAt_len hlr).2
  have HL := Lib.hid (rk_line N K R fed s b bv hv yv used taken 282 s.left w h he.env.env h0 hT (by omega))
  have HE := Lib.hid he; clear he
  have HBK := Lib.hid hBK; clear hBK
  obtain ⟨A, cap, hbv, hcap, -⟩ := h.bytes
  subst hbv
  have c1 : w.cell? ⟨R, 1, none⟩ = some (.slice A b.length cap) := h.blk.cell 1
  have c8 : w.cell? ⟨R, 8, none⟩ = some (.int .i64 (s.many : Int)) := h.blk.cell 8
  have c9 : w.cell? ⟨R, 9, none⟩ = some (.int .i64 (s.left : Int)) := h.blk.cell 9
  have hm' : ¬ (s.many : Int) = 32 := by omega
  clear hm h hwf
  generalize hQ : StepPost N K w R fed s b used taken (headP s l r) = Q
  obtain ⟨t, ht⟩ : ∃ t : ByteArray, t = ⟨l.toArray⟩ := ⟨_, rfl⟩
  have htl : t.data.toList = l := by rw [ht]
  have hts : t.size = l.length := by rw [ht]; simp [ByteArray.size]
  have htn : ¬ t.toList = [] := by rw [toList_data, htl]; exact hne
  have htn' : t.toList.isEmpty = false := by simp [htn]
  have HLL : Hid (Calls Tryz.prog 64 #[.pointer (some ⟨R, 0, none⟩), .int .i64 s.left, .int .i64 282] w fun en w' => ∃ (bv' : Value) (t' : Int), en = .returned (.tuple #[.string t, .bool true]) ∧ RdAt N K w' R fed s r bv' hv yv 0 used t' ∧ Turned N K w w' ∧ 0 ≤ t' ∧ t' + r.length = taken + b.length) := by
    refine HL.out.mono ?_
    rw [hlr]
    rintro en w1 ⟨b', bv', wr, t', hR, hTu, ht0, htl2, h1, h2, h3⟩
    subst h2; subst h3
    exact ⟨bv', t', by rw [ht]; exact h1, hR, hTu, ht0, htl2⟩
  clear HL
  have hcs := cut_small l 58
  have CC : Hid (∀ W, EnvZ W → Calls Tryz.prog 66 #[.string t, .string ⟨#[58]⟩] W fun e w' => e = .returned (.tuple #[.string ⟨(Lib.cut l [58]).1.toArray⟩, .string ⟨(Lib.cut l [58]).2.1.toArray⟩, .bool (Lib.cut l [58]).2.2]) ∧ ∃ n, w' = W.drewN n) := fun W hW => by
    obtain ⟨m, hm⟩ := hW.env.most
    have := Tryz.strings_Cut t ⟨#[58]⟩ m W (by omega) hm
    rw [htl] at this
    exact this
  have hhl := headLn_wire l
  have hHeadP : ∀ n v, Lib.cut l [58] = (n, v, true) → tokenB n = true → valueB v = true → headLn l = some (smallB n, bareB v) := by
    intro n v h1 h2 h3
    rw [hhl, h1]
    simp [h2, h3]
  have hHeadN : ∀ n v c, Lib.cut l [58] = (n, v, c) → (c && tokenB n && valueB v) = false → headLn l = none := by
    intro n v c h1 h2
    rw [hhl, h1]
    simp only
    rw [h2]; rfl
  clear hhl
  generalize hcut : Lib.cut l [58] = c at hcs CC hHeadP hHeadN
  obtain ⟨n, v, colon⟩ := c
  simp only at hcs CC
  have HH1 := Lib.hid (hHeadP n v)
  have HH2 := Lib.hid (hHeadN n v colon rfl)
  clear hHeadP hHeadN
  have HCut := Lib.hid hcut; clear hcut
  have HCS := Lib.hid hcs; clear hcs
  have HTL := Lib.hid htl; clear htl
  have HTS := Lib.hid hts; clear hts
  have HL5 := Lib.hid hl5; clear hl5
  have HQ := Lib.hid hQ; clear hQ
  have hts2 : t.size ≤ s.left := by have := HTS.out; have := HL5.out; omega
  clear ht hne hlr
  go_enter Tryz.func42, Tryz.ntmps42
  go_wp2_with fail
  refine HLL.out.mono ?_
  rintro en w1 ⟨bv', t', rfl, hR, hTu, ht0, htl⟩
  have hR2 := hR.counts l HL5.out t HTS.out
  have hT2 := Turned.setR hR (Turned.setR hR hTu 8 (.int .i64 ((s.many : Int) + 1))) 9 (.int .i64 ((s.left : Int) - (t.size : Int)))
  have d8 : w1.cell? ⟨R, 8, none⟩ = some (.int .i64 (s.many : Int)) := hR.blk.cell 8
  have d9 : w1.cell? ⟨R, 9, none⟩ = some (.int .i64 (s.left : Int)) := hR.blk.cell 9
  have g8 := hR.blk.frozen 8
  have g9 := hR.blk.frozen 9
  have HR2 := Lib.hid hR2; clear hR2
  have HT2 := Lib.hid hT2; clear hT2
  clear hR hTu
  go_wp2_with fail
  generalize hW : ((w1.setCell ⟨R, 8, none⟩ (.int .i64 ((s.many : Int) + 1))).setCell ⟨R, 9, none⟩ (.int .i64 ((s.left : Int) - (t.size : Int)))) = W2 at HR2 HT2 ⊢
  clear hW d8 d9 g8 g9 c1 c8 c9
  have HE2 := Lib.hid (HE.out.turned HT2.out hBN HBK.out)
  have hRlt : R < W2.heap.size := HR2.out.blk.lt
  have k5 : W2.cell? ⟨R, 5, none⟩ = some hv := HR2.out.blk.cell 5
  have k7 : W2.cell? ⟨R, 7, none⟩ = some (.bool s.close) := HR2.out.blk.cell 7
  have k10 : W2.cell? ⟨R, 10, none⟩ = some (.int .i64 s.long) := HR2.out.blk.cell 10
  have k11 : W2.cell? ⟨R, 11, none⟩ = some (.bool s.chunks) := HR2.out.blk.cell 11
  have k13 : W2.cell? ⟨R, 13, none⟩ = some (.int .i64 0) := HR2.out.blk.cell 13
  have fr : ∀ i, W2.frozen? ⟨R, i, none⟩ = false := HR2.out.blk.frozen
  have FR := Lib.hid fr; clear fr
  have pF : ∀ W, Below W2.heap.size W2 W → headP s l r = .fail 280 → Q (.returned (.bool false)) (W.setCell ⟨R, 13, none⟩ (.int .i64 280)) := fun W hW hle => by
    rw [← HQ.out, hle]
    have h2 := HR2.out.below hW
    exact ⟨headT s l, r, bv', _, _, 280, t', h2.wrong_ 280, Turned.setR h2 (HT2.out.below (hW.mono HR2.out.low)) _ _, ht0, htl, rfl, rfl⟩
  have PF := Lib.hid pF; clear pF
  refine (CC.out _ HE2.out.env).mono ?_
  rintro en3 w3 ⟨rfl, q, rfl⟩
  have HB0 : Hid (Below W2.heap.size W2 (W2.drewN q)) := bl_drew (Below.refl _ _) q
  cases colon
  · go_wp2_with fail
    refine (rk_fail _ _ _ _ (by simpa using k13) (by simpa using FR.out 13)).mono ?_
    rintro en w3 ⟨rfl, rfl⟩
    go_wp2_with fail
    exact PF.out _ HB0.out (headP_no (HH2.out rfl))
  · have TC : Hid (∀ W, EnvZ W → Calls Tryz.prog 49 #[.string ⟨n.toArray⟩] W fun e w' => e = .returned (.bool (tokenB n)) ∧ Below W.heap.size W w') := fun W hW => wr_token ⟨n.toArray⟩ W (by have := HCS.out; have := HL5.out; simp [ByteArray.size]; omega) hW.env
    have VC : Hid (∀ W, Calls Tryz.prog 51 #[.string ⟨v.toArray⟩] W fun e w' => e = .returned (.bool (valueB v)) ∧ Below W.heap.size W w') := fun W => wr_value ⟨v.toArray⟩ W
    cases htok : tokenB n with
    | false =>
      have HN := Lib.hid (HH2.out (by rw [htok]; rfl)); rw [htok] at TC; clear htok
      go_wp2_with fail
      refine (TC.out _ (HE2.out.below HB0.out HE2.out.le).env).mono ?_
      rintro en w3 ⟨rfl, hb3⟩
      have HB3 := Lib.hid (bl_trans HB0.out hb3); clear hb3
      have d13 := (HB3.out.cell (p := ⟨R, 13, none⟩) hRlt).trans k13
      have e13 := (HB3.out.frozen (p := ⟨R, 13, none⟩) hRlt).trans (FR.out 13)
      go_wp2_with fail
      refine (rk_fail _ _ _ _ d13 e13).mono ?_
      rintro en w4 ⟨rfl, rfl⟩
      go_wp2_with fail
      exact PF.out _ HB3.out (headP_no HN.out)
    | true =>
      cases hval : valueB v with
      | false =>
        have HN := Lib.hid (HH2.out (by rw [hval, Bool.and_false])); rw [htok] at TC; rw [hval] at VC; clear htok hval
        go_wp2_with fail
        refine (TC.out _ (HE2.out.below HB0.out HE2.out.le).env).mono ?_
        rintro en w3 ⟨rfl, hb3⟩
        have HB3 := Lib.hid (bl_trans HB0.out hb3); clear hb3
        go_wp2_with fail
        refine (VC.out _).mono ?_
        rintro en w4 ⟨rfl, hb4⟩
        have HB4 := Lib.hid (bl_trans HB3.out hb4); clear hb4
        have d13 := (HB4.out.cell (p := ⟨R, 13, none⟩) hRlt).trans k13
        have e13 := (HB4.out.frozen (p := ⟨R, 13, none⟩) hRlt).trans (FR.out 13)
        go_wp2_with fail
        refine (rk_fail _ _ _ _ d13 e13).mono ?_
        rintro en w5 ⟨rfl, rfl⟩
        go_wp2_with fail
        exact PF.out _ HB4.out (headP_no HN.out)
      | true =>
        obtain ⟨nm, hnm⟩ : ∃ x : ByteArray, x = ⟨(smallB n).toArray⟩ := ⟨_, rfl⟩
        obtain ⟨vl, hvl⟩ : ∃ x : ByteArray, x = ⟨(bareB v).toArray⟩ := ⟨_, rfl⟩
        obtain ⟨sm, hsm⟩ : ∃ x : ByteArray, x = ⟨(smallB (bareB v)).toArray⟩ := ⟨_, rfl⟩
        have LC : Hid (∀ W, EnvZ W → Calls Tryz.prog 50 #[.string ⟨n.toArray⟩] W fun e w' => e = .returned (.string nm) ∧ Below W.heap.size W w') := fun W hW => by
          have := Tryz.strings_ToLower_any ⟨n.toArray⟩ W (by have := HCS.out; have := HL5.out; simp [ByteArray.size]; omega) hW.env.cases hW.env.utf
          rw [show Lib.toLowerD (⟨n.toArray⟩ : ByteArray).data.toList = smallB n from lower_ascii n (tok_ascii htok), ← hnm] at this
          exact this
        have TR : Hid (∀ W, Calls Tryz.prog 52 #[.string ⟨v.toArray⟩, .string ⟨#[32, 9]⟩] W fun e w' => e = .returned (.string vl) ∧ Below W.heap.size W w') := fun W => by
          have := Tryz.strings_Trim_laid ⟨v.toArray⟩ ⟨#[32, 9]⟩ W (by have := HCS.out; have := HL5.out; simp [ByteArray.size]; omega) (by decide) (by
            intro j b hj
            match j, hj with
            | 0, hj => simp at hj; subst hj; decide
            | 1, hj => simp at hj; subst hj; decide
            | j + 2, hj => simp at hj)
          rw [show Lib.trimS (⟨v.toArray⟩ : ByteArray).data.toList (⟨#[32, 9]⟩ : ByteArray).data.toList = bareB v from rfl, ← hvl] at this
          exact this
        have L2 : Hid (∀ W, EnvZ W → Calls Tryz.prog 50 #[.string vl] W fun e w' => e = .returned (.string sm) ∧ Below W.heap.size W w') := fun W hW => by
          have := Tryz.strings_ToLower_any vl W (by have := HCS.out; have := HL5.out; have := bare_len v; rw [hvl]; simp [ByteArray.size]; omega) hW.env.cases hW.env.utf
          rw [show Lib.toLowerD vl.data.toList = smallB (bareB v) by rw [hvl]; exact bare_ascii hval, ← hsm] at this
          exact this
        have HV := Lib.hid (HH1.out rfl htok hval)
        rw [htok] at TC; rw [hval] at VC
        have HNM := Lib.hid hnm; clear hnm
        have HVL := Lib.hid hvl; clear hvl
        have HSM := Lib.hid hsm; clear hsm
        clear htok hval
        go_wp2_with fail
        refine (TC.out _ (HE2.out.below HB0.out HE2.out.le).env).mono ?_
        rintro en w3 ⟨rfl, hb3⟩
        have HB3 := Lib.hid (bl_trans HB0.out hb3); clear hb3
        go_wp2_with fail
        refine (VC.out _).mono ?_
        rintro en w4 ⟨rfl, hb4⟩
        have HB4 := Lib.hid (bl_trans HB3.out hb4); clear hb4
        go_wp2_with fail
        refine (LC.out _ (HE2.out.below HB4.out HE2.out.le).env).mono ?_
        rintro en w5 ⟨rfl, hb5⟩
        have HB5 := Lib.hid (bl_trans HB4.out hb5); clear hb5
        go_wp2_with fail
        refine (TR.out _).mono ?_
        rintro en w6 ⟨rfl, hb6⟩
        have HB6 := Lib.hid (bl_trans HB5.out hb6); clear hb6
        go_wp2_with fail
        have HB7 : Hid (Below W2.heap.size W2 (w6.alloc (Obj.cells #[Value.string nm, Value.string vl] 88))) := bl_alloc HB6.out _
        refine (L2.out _ (HE2.out.below HB7.out HE2.out.le).env).mono ?_
        rintro en w8 ⟨rfl, hb8⟩
        have n0 : w8.cell? ⟨w6.heap.size, 0, none⟩ = some (.string nm) := (hb8.cell (p := ⟨w6.heap.size, 0, none⟩) (by simp)).trans (cell_new _ _ _ _ 0)
        have n1 : w8.cell? ⟨w6.heap.size, 1, none⟩ = some (.string vl) := (hb8.cell (p := ⟨w6.heap.size, 1, none⟩) (by simp)).trans (cell_new _ _ _ _ 1)
        have HB8 := Lib.hid (bl_trans HB7.out hb8); clear hb8
        have j5 := (HB8.out.cell (p := ⟨R, 5, none⟩) hRlt).trans k5
        have j7 := (HB8.out.cell (p := ⟨R, 7, none⟩) hRlt).trans k7
        have j10 := (HB8.out.cell (p := ⟨R, 10, none⟩) hRlt).trans k10
        have j11 := (HB8.out.cell (p := ⟨R, 11, none⟩) hRlt).trans k11
        have j13 := (HB8.out.cell (p := ⟨R, 13, none⟩) hRlt).trans k13
        have g5 := (HB8.out.frozen (p := ⟨R, 5, none⟩) hRlt).trans (FR.out 5)
        have g7 := (HB8.out.frozen (p := ⟨R, 7, none⟩) hRlt).trans (FR.out 7)
        have g10 := (HB8.out.frozen (p := ⟨R, 10, none⟩) hRlt).trans (FR.out 10)
        have g11 := (HB8.out.frozen (p := ⟨R, 11, none⟩) hRlt).trans (FR.out 11)
        have g13 := (HB8.out.frozen (p := ⟨R, 13, none⟩) hRlt).trans (FR.out 13)
        have DC : Hid (∀ W, EnvZ W → Calls Tryz.prog 69 #[.string vl, .int .i64 7, .int .i64 10] W fun e w' => e = .returned (.int .i64 (numP (bareB v))) ∧ Below W.heap.size W w') := fun W hW => by
          have := rk_tens vl W hW
          rw [show numP vl.data.toList = numP (bareB v) by rw [HVL.out]] at this
          exact this
        have HHI := Lib.hid (num_high (bareB v))
        have HE8 := Lib.hid (HE2.out.below HB8.out HE2.out.le)
        by_cases q1 : (nm.toList == [99, 111, 110, 116, 101, 110, 116, 45, 108, 101, 110, 103, 116, 104]) = true
        · have hn1 : smallB n = cLen := by have := HNM.out; rw [toList_data, this] at q1; simpa [cLen] using q1
          have HN1 := Lib.hid hn1; clear hn1
          by_cases hlg : 0 ≤ s.long
          · have HX := Lib.hid (headP_len_bad (s := s) (r := r) HV.out HN1.out (.inl hlg))
            go_wp2_with fail
            refine (rk_fail _ _ _ _ (by first | assumption | (simpa using j13)) (by first | assumption | (simpa using g13))).mono ?_
            rintro en w9 ⟨rfl, rfl⟩
            go_wp2_with fail
            exact PF.out _ HB8.out HX.out
          · have hPL : Hid (∀ W, Below W2.heap.size W2 W → ¬ numP (bareB v) < 0 → Q (.returned (.bool true)) (W.setCell ⟨R, 10, none⟩ (.int .i64 (numP (bareB v))))) := fun W hW hx => by
              rw [← HQ.out, headP_len_ok HV.out HN1.out hlg hx]
              have h2 := HR2.out.below hW
              exact ⟨{ headT s l with long := numP (bareB v) }, r, bv', _, _, 0, t', h2.store 10 _ rfl rfl rfl, Turned.setR h2 (HT2.out.below (hW.mono HR2.out.low)) _ _, ht0, htl, rfl, rfl, rfl, rfl⟩
            have hPX : Hid (∀ W, Below W2.heap.size W2 W → numP (bareB v) < 0 → Q (.returned (.bool false)) (W.setCell ⟨R, 13, none⟩ (.int .i64 280))) := fun W hW hx =>
              PF.out W hW (headP_len_bad HV.out HN1.out (.inr hx))
            generalize numP (bareB v) = x at DC HHI hPL hPX
            have hxh := HHI.out
            go_wp2_with fail
            refine (DC.out _ HE8.out.env).mono ?_
            rintro en w9 ⟨rfl, hb9⟩
            have m1 : w9.cell? ⟨w6.heap.size, 1, none⟩ = some (.string vl) := (hb9.cell (lt_of_cell n1)).trans n1
            have HB9 := Lib.hid (bl_trans HB8.out hb9); clear hb9
            have i13 := (HB9.out.cell (p := ⟨R, 13, none⟩) hRlt).trans k13
            have u13 := (HB9.out.frozen (p := ⟨R, 13, none⟩) hRlt).trans (FR.out 13)
            by_cases hx : x < 0
            · go_wp2_with fail
              refine (rk_fail _ _ _ _ i13 u13).mono ?_
              rintro en w10 ⟨rfl, rfl⟩
              go_wp2_with fail
              exact hPX.out _ HB9.out hx
            · have HE9 := Lib.hid (HE2.out.below HB9.out HE2.out.le)
              go_wp2_with fail
              refine (DC.out _ HE9.out.env).mono ?_
              rintro en w10 ⟨rfl, hb10⟩
              have HB10 := Lib.hid (bl_trans HB9.out hb10); clear hb10
              have i10 := (HB10.out.cell (p := ⟨R, 10, none⟩) hRlt).trans k10
              have u10 := (HB10.out.frozen (p := ⟨R, 10, none⟩) hRlt).trans (FR.out 10)
              go_wp2_with fail
              exact hPL.out _ HB10.out hx
        · have q1' : (nm.toList == [99, 111, 110, 116, 101, 110, 116, 45, 108, 101, 110, 103, 116, 104]) = false := by simpa using q1
          have hn1 : ¬ smallB n = cLen := fun h => by
            have := HNM.out
            rw [toList_data, this] at q1'
            simp [h, cLen] at q1'
          have HN1 := Lib.hid hn1; clear hn1 q1
          by_cases q2 : (nm.toList == [116, 114, 97, 110, 115, 102, 101, 114, 45, 101, 110, 99, 111, 100, 105, 110, 103]) = true
          · have hn2 : smallB n = cEnc := by have := HNM.out; rw [toList_data, this] at q2; simpa [cEnc] using q2
            have HN2 := Lib.hid hn2; clear hn2
            cases hch : s.chunks with
            | true =>
              have HX := Lib.hid (headP_enc_bad (s := s) (r := r) HV.out HN1.out HN2.out (.inl hch))
              rw [hch] at j11
              clear hch
              go_wp2_with fail
              refine (rk_fail _ _ _ _ (by first | assumption | (simpa using j13)) (by first | assumption | (simpa using g13))).mono ?_
              rintro en w9 ⟨rfl, rfl⟩
              go_wp2_with fail
              exact PF.out _ HB8.out HX.out
            | false =>
              rw [hch] at j11
              have HCH := Lib.hid hch; clear hch
              by_cases q3 : (sm.toList == [99, 104, 117, 110, 107, 101, 100]) = true
              · have hx : (smallB (bareB v) == cChunked) = true := by have := HSM.out; rw [toList_data, this] at q3; exact q3
                have HP : Hid (Q (.returned (.bool true)) (w8.setCell ⟨R, 11, none⟩ (.bool true))) := by
                  show Q _ _
                  rw [← HQ.out, headP_enc_ok HV.out HN1.out HN2.out HCH.out hx]
                  have h2 := HR2.out.below HB8.out
                  exact ⟨{ headT s l with chunks := true }, r, bv', _, _, 0, t', h2.store 11 _ rfl rfl rfl, Turned.setR h2 (HT2.out.below (HB8.out.mono HR2.out.low)) _ _, ht0, htl, rfl, rfl, rfl, rfl⟩
                clear hx
                go_wp2_with fail
                exact HP.out
              · have q3' : (sm.toList == [99, 104, 117, 110, 107, 101, 100]) = false := by simpa using q3
                have hx : (smallB (bareB v) == cChunked) = false := by have := HSM.out; rw [toList_data, this] at q3'; exact q3'
                have HX := Lib.hid (headP_enc_bad (s := s) (r := r) HV.out HN1.out HN2.out (.inr hx))
                clear hx q3
                go_wp2_with fail
                refine (rk_fail _ _ _ _ (by first | assumption | (simpa using j13)) (by first | assumption | (simpa using g13))).mono ?_
                rintro en w9 ⟨rfl, rfl⟩
                go_wp2_with fail
                exact PF.out _ HB8.out HX.out
          · have q2' : (nm.toList == [116, 114, 97, 110, 115, 102, 101, 114, 45, 101, 110, 99, 111, 100, 105, 110, 103]) = false := by simpa using q2
            have hn2 : ¬ smallB n = cEnc := fun h => by
              have := HNM.out
              rw [toList_data, this] at q2'
              simp [h, cEnc] at q2'
            have HN2 := Lib.hid hn2; clear hn2 q2
            by_cases q4 : (nm.toList == [99, 111, 110, 110, 101, 99, 116, 105, 111, 110]) = true
            · have hn3 : smallB n = cCon := by have := HNM.out; rw [toList_data, this] at q4; simpa [cCon] using q4
              have HP : Hid (∀ z : Bool, z = (s.close || (smallB (bareB v) == cClose)) → Q (.returned (.bool true)) (w8.setCell ⟨R, 7, none⟩ (.bool z))) := fun z hz => by
                rw [← HQ.out, headP_con HV.out HN1.out HN2.out hn3, ← hz]
                have h2 := HR2.out.below HB8.out
                exact ⟨{ headT s l with close := z }, r, bv', _, _, 0, t', h2.store 7 _ rfl rfl rfl, Turned.setR h2 (HT2.out.below (HB8.out.mono HR2.out.low)) _ _, ht0, htl, rfl, rfl, rfl, rfl⟩
              clear hn3
              have hsx : (smallB (bareB v) == cClose) = (sm.toList == [99, 108, 111, 115, 101]) := by rw [toList_data, HSM.out]; rfl
              rw [hsx] at HP
              clear hsx
              generalize s.close = cl at j7 HP
              cases cl with
              | true =>
                go_wp2_with fail
                exact HP.out true (by simp)
              | false =>
                by_cases q5 : (sm.toList == [99, 108, 111, 115, 101]) = true
                · rw [q5] at HP
                  go_wp2_with fail
                  exact HP.out true rfl
                · have q5' : (sm.toList == [99, 108, 111, 115, 101]) = false := by simpa using q5
                  rw [q5'] at HP
                  clear q5
                  go_wp2_with fail
                  exact HP.out false rfl
            · have q4' : (nm.toList == [99, 111, 110, 110, 101, 99, 116, 105, 111, 110]) = false := by simpa using q4
              have hn3 : ¬ smallB n = cCon := fun h => by
                have := HNM.out
                rw [toList_data, this] at q4'
                simp [h, cCon] at q4'
              have HN3 := Lib.hid hn3; clear hn3 q4
              have HPH : Hid (∀ (W w' : World) (v' : Value), Below W2.heap.size W2 W → W.grownBy w' hv.ownBlock → w'.ownsRow 0 88 2 v' (s.hs.length + 1) (headCells s.hs ++ [.string nm, .string vl]) → (v'.ownBlock = hv.ownBlock ∨ ∃ g, v'.ownBlock = some g ∧ W.heap.size ≤ g) → Q (.returned (.bool true)) (w'.setCell ⟨R, 5, none⟩ v')) := fun W w' v' hW hg ho hat => by
                rw [← HQ.out, headP_else HV.out HN1.out HN2.out HN3.out]
                have h2 := HR2.out.below hW
                have e1 : (s.hs ++ [(⟨⟨(smallB n).toArray⟩, ⟨(bareB v).toArray⟩⟩ : Hd)]).length = s.hs.length + 1 := by simp
                have h3 := h2.setH (hs' := s.hs ++ [⟨⟨(smallB n).toArray⟩, ⟨(bareB v).toArray⟩⟩]) hg (by
                  rw [e1, headCells_append, ← HNM.out, ← HVL.out]
                  exact ho) hat
                exact ⟨{ headT s l with hs := s.hs ++ [⟨⟨(smallB n).toArray⟩, ⟨(bareB v).toArray⟩⟩] }, r, bv', _, _, 0, t', h3, Turned.setR h3 ((HT2.out.below (hW.mono HR2.out.low)).trans (h2.grownH hg)) _ _, ht0, htl, rfl, rfl, rfl, rfl⟩
              obtain ⟨i0, hi, hz0, hz1, hz2⟩ := info_parts info_head
              have HO8 : Hid (w8.ownsRow 0 88 2 hv s.hs.length (headCells s.hs)) := (HR2.out.below HB8.out).heads
              have hne : Hid (hv.ownBlock ≠ some R) := (HR2.out.below HB8.out).ne_h
              have hHH : Hid (s.hs.length ≤ 32) := Lib.hid (Nat.le_trans hhl hmany)
              go_wp2_with fail
              have hR8 : R < w8.heap.size := lt_of_cell j5
              have hH8 : w6.heap.size < w8.heap.size := lt_of_cell n0
              have hbA : Hid (Below W2.heap.size W2 (w8.alloc (Obj.cells #[Value.string nm, Value.string vl] 88))) := bl_alloc HB8.out _
              go_region_law (refine step_append_any _ rfl (.tmp 115) (.tmp 117) 31 rfl 0 88 i0 _ 2 32 Tryz.underlying31 hi hz0 hz1 hz2 rfl (by decide) hv s.hs.length (headCells s.hs) (by simp [Act.eval, Act.put]) ((HO8.out.drew).alloc _) _ (some ⟨w8.heap.size, 0, none⟩) 1 1 [.string nm, .string vl] (by simp [Act.eval, Act.put]) (reads_new _ _ _ _) (two_cells _ _) (by have := hHH.out; simp only [maxLen]; omega) (by have := hHH.out; omega) (Nat.zero_le _) ?_; intro v' w' hown1 hgrow1 hat1; obtain ⟨A1, c1', rfl⟩ := own_slice hown1; obtain ⟨e5, u5⟩ := grown_at hgrow1 (Nat.lt_of_lt_of_le hRlt hbA.out.size) hne.out 5 ((hbA.out.cell (p := ⟨R, 5, none⟩) hRlt).trans k5) ((hbA.out.frozen (p := ⟨R, 5, none⟩) hRlt).trans (FR.out 5)); have HO1 := Lib.hid hown1; have HG1 := Lib.hid hgrow1; have HA1 := Lib.hid hat1; clear hown1 hgrow1 hat1)
              go_wp2_with fail
              all_goals exact HPH.out _ _ _ hbA.out ⟨HG1.out.os, HG1.out.tape, HG1.out.output, HG1.out.size, HG1.out.block⟩ HO1.out (HA1.out.imp id fun h => ⟨_, h, by simp⟩)
end Go.Proofs.YtnicmdlicbnlgaaGreatDoor
