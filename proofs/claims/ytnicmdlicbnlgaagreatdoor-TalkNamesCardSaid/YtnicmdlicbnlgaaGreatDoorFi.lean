/-
  Walks: a reader's first line.
-/
import Derived.Test.YtnicmdlicbnlgaaGreatDoorDg
namespace Go.Proofs.YtnicmdlicbnlgaaGreatDoor
open Go.RowKit
set_option linter.unusedVariables false
set_option linter.unusedSimpArgs false

def unSuf (l : List UInt8) : List UInt8 := if cHttp.isSuffixOf l then l.take (l.length - 9) else l
set_option maxHeartbeats 400000 in
theorem sl_cutsuf (s : ByteArray) (w : World) (hs : s.size ≤ 1000000000) :
    Calls Tryz.prog 97 #[.string s, .string ⟨#[32, 72, 84, 84, 80, 47, 49, 46, 49]⟩] w fun e w' => e = .returned (.tuple #[.string ⟨(unSuf s.data.toList).toArray⟩, .bool (cHttp.isSuffixOf s.data.toList)]) ∧ w' = w := by
  have hL : s.data.toList.length = s.size := by simp
  have hc := Tryz.stringslite_HasSuffix s ⟨#[32, 72, 84, 84, 80, 47, 49, 46, 49]⟩ w (by omega)
  have e : Lib.hasSuffix s.data.toList (⟨#[32, 72, 84, 84, 80, 47, 49, 46, 49]⟩ : ByteArray).data.toList = cHttp.isSuffixOf s.data.toList := rfl
  rw [e] at hc
  cases hsuf : cHttp.isSuffixOf s.data.toList with
  | false =>
    have hu : (⟨(unSuf s.data.toList).toArray⟩ : ByteArray) = s := by unfold unSuf; rw [hsuf]; rfl
    rw [hu]
    rw [hsuf] at hc
    have HC := Lib.hid hc; clear hc hsuf hu e
    go_enter Tryz.func97, Tryz.ntmps97
    go_wp2_with fail
    refine HC.out.mono ?_
    rintro en w1 ⟨rfl, rfl⟩
    go_wp2_with fail
    go_ret2
    exact ⟨rfl, rfl⟩
  | true =>
    have h9 : 9 ≤ s.size := by
      have := (List.isSuffixOf_iff_suffix.1 hsuf).length_le
      have e9 : cHttp.length = 9 := rfl
      omega
    have hu : (⟨(unSuf s.data.toList).toArray⟩ : ByteArray) = s.extract 0 (s.size - 9) := by
      unfold unSuf
      rw [hsuf]
      apply ByteArray.ext
      apply Array.ext'
      simp [ByteArray.data_extract, Array.toList_extract, List.extract]
    rw [hu]
    rw [hsuf] at hc
    have HC := Lib.hid hc; clear hc hsuf hu e hL
    obtain ⟨n, hn⟩ : ∃ n, s.size = n + 9 := ⟨s.size - 9, by omega⟩
    have HN := Lib.hid hn; clear hn
    go_enter Tryz.func97, Tryz.ntmps97
    go_wp2_with fail
    refine HC.out.mono ?_
    rintro en w1 ⟨rfl, rfl⟩
    go_wp2_with fail
    go_ret2
    exact ⟨rfl, rfl⟩

set_option maxHeartbeats 400000 in
theorem st_cutsuf (s : ByteArray) (w : World) (hs : s.size ≤ 1000000000) :
    Calls Tryz.prog 65 #[.string s, .string ⟨#[32, 72, 84, 84, 80, 47, 49, 46, 49]⟩] w fun e w' => e = .returned (.tuple #[.string ⟨(unSuf s.data.toList).toArray⟩, .bool (cHttp.isSuffixOf s.data.toList)]) ∧ w' = w := by
  have HC := Lib.hid (sl_cutsuf s w hs)
  generalize (⟨(unSuf s.data.toList).toArray⟩ : ByteArray) = x at HC ⊢
  generalize cHttp.isSuffixOf s.data.toList = y at HC ⊢
  go_enter Tryz.func65, Tryz.ntmps65
  go_wp2_with fail
  refine HC.out.mono ?_
  rintro en w1 ⟨rfl, rfl⟩
  go_wp2_with fail
  go_ret2
  exact ⟨rfl, rfl⟩
theorem first_wire (l : List UInt8) : firstLn l = if cHttp.isSuffixOf l && (Lib.cut (unSuf l) [32]).2.2 && methodB (Lib.cut (unSuf l) [32]).1 && pathB (Lib.cut (unSuf l) [32]).2.1 then some ((Lib.cut (unSuf l) [32]).1, (Lib.cut (unSuf l) [32]).2.1) else none := by
  unfold firstLn
  cases hs : cHttp.isSuffixOf l with
  | false => simp
  | true =>
    simp only [if_true, Bool.true_and]
    have hu : unSuf l = l.take (l.length - 9) := by unfold unSuf; rw [hs]; rfl
    rw [hu, cut_one]
    cases cutP 32 (l.take (l.length - 9)) with
    | none => simp
    | some x => simp
theorem cut_small (l : List UInt8) (c : UInt8) : (Lib.cut l [c]).1.length ≤ l.length ∧ (Lib.cut l [c]).2.1.length ≤ l.length := by
  unfold Lib.cut
  split
  · simp; omega
  · simp
theorem unSuf_small (l : List UInt8) : (unSuf l).length ≤ l.length := by unfold unSuf; split <;> simp
theorem step0 (s : RS) (b : List UInt8) (h : s.state = 0) : stepP s b = (match lineAt 512 b with
    | .wait => .wait
    | .bad => .fail 282
    | .got l r => match firstLn l with
      | none => .fail 280
      | some (m, p) => .on { s with state := 1, m := ⟨m.toArray⟩, p := ⟨p.toArray⟩ } r) := by
  rcases s with ⟨st, m, p, hs, cl, many, left, long, chunks, body⟩
  simp only at h
  subst h
  rfl
set_option maxRecDepth 100000 in
set_option maxHeartbeats 3200000 in
theorem rk_first (N : Nat) (K : Nat → Prop) (R : Nat) (fed : Bool) (s : RS) (b : List UInt8) (bv hv yv : Value) (used taken : Int) (w : World) (h : RdAt N K w R fed s b bv hv yv 0 used taken) (B : Nat) (he : EnvAt B w) (hBN : B ≤ N) (hBK : ∀ k, K k → B ≤ k)
    (h0 : 0 ≤ taken) (hT : taken + b.length ≤ 1000000000) (hst : s.state = 0) :
    Calls Tryz.prog 41 #[.pointer (some ⟨R, 0, none⟩)] w (StepPost N K w R fed s b used taken (stepP s b)) := by
  have hstep := step0 s b hst
  have HL := Lib.hid (rk_line N K R fed s b bv hv yv used taken 282 512 w h he.env.env h0 hT (by omega))
  have HE := Lib.hid he; clear he
  have HBK := Lib.hid hBK; clear hBK
  clear h
  have HST := Lib.hid hst; clear hst
  generalize hQ : StepPost N K w R fed s b used taken (stepP s b) = Q
  rw [hstep] at hQ
  clear hstep
  cases hl : lineAt 512 b with
  | wait =>
    rw [hl] at hQ
    have HLA := Lib.hid hl; clear hl
    have HQ := Lib.hid hQ; clear hQ
    go_enter Tryz.func41, Tryz.ntmps41
    go_wp2_with fail
    refine HL.out.mono ?_
    rw [HLA.out]
    rintro en w1 ⟨b', bv', wr, t', hR, hTu, ht0, htl, rfl, hb, hwr⟩
    have HF : Hid (Q (.returned (.bool false)) w1) := by
      rw [← HQ.out]; exact ⟨s, b', bv', _, _, wr, t', hR, hTu, ht0, htl, rfl, rfl, hb, hwr⟩
    clear hR hTu ht0 htl hb hwr
    go_wp2_with fail
    exact HF.out
  | bad =>
    rw [hl] at hQ
    have HLA := Lib.hid hl; clear hl
    have HQ := Lib.hid hQ; clear hQ
    go_enter Tryz.func41, Tryz.ntmps41
    go_wp2_with fail
    refine HL.out.mono ?_
    rw [HLA.out]
    rintro en w1 ⟨b', bv', wr, t', hR, hTu, ht0, htl, rfl, hwr⟩
    have HF : Hid (Q (.returned (.bool false)) w1) := by
      rw [← HQ.out]; exact ⟨s, b', bv', _, _, wr, t', hR, hTu, ht0, htl, rfl, hwr⟩
    clear hR hTu ht0 htl hwr
    go_wp2_with fail
    exact HF.out
  | got l r =>
    rw [hl] at hQ
    simp only at hQ
    have hl5 := (lineAt_len hl).2
    have HLA := Lib.hid hl; clear hl
    rw [first_wire] at hQ
    have hc1 := cut_small (unSuf l) 32
    have hc2 := unSuf_small l
    have CS : Hid (∀ W, Calls Tryz.prog 65 #[.string ⟨l.toArray⟩, .string ⟨#[32, 72, 84, 84, 80, 47, 49, 46, 49]⟩] W fun e w' => e = .returned (.tuple #[.string ⟨(unSuf l).toArray⟩, .bool (cHttp.isSuffixOf l)]) ∧ w' = W) := fun W => st_cutsuf ⟨l.toArray⟩ W (by simp [ByteArray.size]; omega)
    have CC : Hid (∀ W, EnvZ W → Calls Tryz.prog 66 #[.string ⟨(unSuf l).toArray⟩, .string ⟨#[32]⟩] W fun e w' => e = .returned (.tuple #[.string ⟨(Lib.cut (unSuf l) [32]).1.toArray⟩, .string ⟨(Lib.cut (unSuf l) [32]).2.1.toArray⟩, .bool (Lib.cut (unSuf l) [32]).2.2]) ∧ ∃ n, w' = W.drewN n) := fun W hW => by
      obtain ⟨m, hm⟩ := hW.env.most
      exact Tryz.strings_Cut ⟨(unSuf l).toArray⟩ ⟨#[32]⟩ m W (by simp [ByteArray.size]; omega) hm
    generalize Lib.cut (unSuf l) [32] = c at hc1 CC hQ
    generalize unSuf l = u at hc1 hc2 CS CC
    generalize cHttp.isSuffixOf l = suf at CS hQ
    obtain ⟨m, p, both⟩ := c
    simp only at hc1 CC hQ
    have MC : Hid (∀ W, Calls Tryz.prog 47 #[.string ⟨m.toArray⟩] W fun e w' => e = .returned (.bool (methodB m)) ∧ Below W.heap.size W w') := fun W => wr_method ⟨m.toArray⟩ W (by simp [ByteArray.size, maxLen]; omega)
    have PC : Hid (∀ W, Calls Tryz.prog 48 #[.string ⟨p.toArray⟩] W fun e w' => e = .returned (.bool (pathB p)) ∧ Below W.heap.size W w') := fun W => wr_path ⟨p.toArray⟩ W
    generalize methodB m = mB at MC hQ
    generalize pathB p = pB at PC hQ
    clear hc1 hc2 hl5
    have HQ := Lib.hid hQ; clear hQ
    go_enter Tryz.func41, Tryz.ntmps41
    go_wp2_with fail
    refine HL.out.mono ?_
    rw [HLA.out]
    rintro en w1 ⟨b', bv', wr, t', hR, hTu, ht0, htl, rfl, hb, hwr⟩
    subst hwr
    subst hb
    have HE1 := Lib.hid (HE.out.turned hTu hBN HBK.out)
    have HR := Lib.hid hR; clear hR
    have HTu := Lib.hid hTu; clear hTu
    go_wp2_with fail
    refine (CS.out _).mono ?_
    rintro en2 w2 ⟨rfl, rfl⟩
    go_wp2_with fail
    refine (CC.out _ HE1.out.env).mono ?_
    rintro en3 w3 ⟨rfl, q, rfl⟩
    have pF : ∀ W, Below w2.heap.size w2 W → (if suf && both && mB && pB then some (m, p) else none) = none → Q (.returned (.bool false)) (W.setCell ⟨R, 13, none⟩ (.int .i64 280)) := fun W hW hle => by
      rw [← HQ.out, hle]
      have hR2 := HR.out.below hW
      exact ⟨s, b', bv', _, _, 280, t', hR2.wrong_ 280, Turned.setR hR2 (HTu.out.below (hW.mono HR.out.low)) _ _, ht0, htl, rfl, rfl⟩
    have PF := Lib.hid pF; clear pF
    have pG : ∀ W, Below w2.heap.size w2 W → (if suf && both && mB && pB then some (m, p) else none) = some (m, p) → Q (.returned (.bool true)) (((W.setCell ⟨R, 3, none⟩ (.string ⟨m.toArray⟩)).setCell ⟨R, 4, none⟩ (.string ⟨p.toArray⟩)).setCell ⟨R, 2, none⟩ (.int .i64 1)) := fun W hW hle => by
      rw [← HQ.out, hle]
      have hR2 := HR.out.below hW
      have h1 := hR2.store 3 (.string ⟨m.toArray⟩) (s' := { s with m := ⟨m.toArray⟩ }) rfl rfl rfl
      have h2 := h1.store 4 (.string ⟨p.toArray⟩) (s' := { s with m := ⟨m.toArray⟩, p := ⟨p.toArray⟩ }) rfl rfl rfl
      exact ⟨{ s with state := 1, m := ⟨m.toArray⟩, p := ⟨p.toArray⟩ }, b', bv', _, _, 0, t', h2.store 2 _ rfl rfl rfl, Turned.setR h2 (Turned.setR h1 (Turned.setR hR2 (HTu.out.below (hW.mono HR.out.low)) _ _) _ _) _ _, ht0, htl, rfl, rfl, rfl, rfl⟩
    have PG := Lib.hid pG; clear pG
    clear HQ
    have c2 : w2.cell? ⟨R, 2, none⟩ = some (.int .i64 (s.state : Int)) := HR.out.blk.cell 2
    have c3 : w2.cell? ⟨R, 3, none⟩ = some (.string s.m) := HR.out.blk.cell 3
    have c4 : w2.cell? ⟨R, 4, none⟩ = some (.string s.p) := HR.out.blk.cell 4
    have c13 : w2.cell? ⟨R, 13, none⟩ = some (.int .i64 0) := HR.out.blk.cell 13
    have f2 := HR.out.blk.frozen 2
    have f3 := HR.out.blk.frozen 3
    have f4 := HR.out.blk.frozen 4
    have f13 := HR.out.blk.frozen 13
    have hRlt : R < w2.heap.size := HR.out.blk.lt
    have HB0 : Hid (Below w2.heap.size w2 (w2.drewN q)) := bl_drew (Below.refl _ _) q
    cases suf
    · go_wp2_with fail
      refine (rk_fail _ _ _ _ (by simpa using c13) (by simpa using f13)).mono ?_
      rintro en w3 ⟨rfl, rfl⟩
      go_wp2_with fail
      exact PF.out _ HB0.out rfl
    · cases both
      · go_wp2_with fail
        refine (rk_fail _ _ _ _ (by simpa using c13) (by simpa using f13)).mono ?_
        rintro en w3 ⟨rfl, rfl⟩
        go_wp2_with fail
        exact PF.out _ HB0.out rfl
      · go_wp2_with fail
        refine (MC.out _).mono ?_
        cases mB
        · rintro en w3 ⟨rfl, hb3⟩
          have HB3 := Lib.hid (bl_trans HB0.out hb3); clear hb3
          have d13 := (HB3.out.cell (p := ⟨R, 13, none⟩) hRlt).trans c13
          have e13 := (HB3.out.frozen (p := ⟨R, 13, none⟩) hRlt).trans f13
          go_wp2_with fail
          refine (rk_fail _ _ _ _ d13 e13).mono ?_
          rintro en w4 ⟨rfl, rfl⟩
          go_wp2_with fail
          exact PF.out _ HB3.out rfl
        · rintro en w3 ⟨rfl, hb3⟩
          have HB3 := Lib.hid (bl_trans HB0.out hb3); clear hb3
          go_wp2_with fail
          refine (PC.out _).mono ?_
          cases pB
          · rintro en w4 ⟨rfl, hb4⟩
            have HB4 := Lib.hid (bl_trans HB3.out hb4); clear hb4
            have d13 := (HB4.out.cell (p := ⟨R, 13, none⟩) hRlt).trans c13
            have e13 := (HB4.out.frozen (p := ⟨R, 13, none⟩) hRlt).trans f13
            go_wp2_with fail
            refine (rk_fail _ _ _ _ d13 e13).mono ?_
            rintro en w5 ⟨rfl, rfl⟩
            go_wp2_with fail
            exact PF.out _ HB4.out rfl
          · rintro en w4 ⟨rfl, hb4⟩
            have HB4 := Lib.hid (bl_trans HB3.out hb4); clear hb4
            have d2 := (HB4.out.cell (p := ⟨R, 2, none⟩) hRlt).trans c2
            have d3 := (HB4.out.cell (p := ⟨R, 3, none⟩) hRlt).trans c3
            have d4 := (HB4.out.cell (p := ⟨R, 4, none⟩) hRlt).trans c4
            have e2 := (HB4.out.frozen (p := ⟨R, 2, none⟩) hRlt).trans f2
            have e3 := (HB4.out.frozen (p := ⟨R, 3, none⟩) hRlt).trans f3
            have e4 := (HB4.out.frozen (p := ⟨R, 4, none⟩) hRlt).trans f4
            go_wp2_with fail
            exact PG.out _ HB4.out rfl
end Go.Proofs.YtnicmdlicbnlgaaGreatDoor
