/-
  Walks: all requests out of all bytes.
-/
import Derived.Test.YtnicmdlicbnlgaaGreatDoorAl
namespace Go.Proofs.YtnicmdlicbnlgaaGreatDoor
open Go.RowKit
set_option linter.unusedVariables false
set_option linter.unusedSimpArgs false

theorem info_req : (Tryz.prog.info? 33).map (fun i => (i.zero, i.size, i.bytes)) = some (some (.agg #[.string ⟨#[]⟩, .string ⟨#[]⟩, .slice none 0 0, .string ⟨#[]⟩, .bool false]), 5, 80) := by kernel_rfl
/-- What reading all bytes leaves. -/
def AllPost (w : World) (b : List UInt8) (en : Ending) (w' : World) : Prop :=
  ∃ (v : Value) (ts : List (Rq × Value)), en = .returned (.tuple #[v, .int .i64 ((b.length : Int) - (allP b).2.1.length), .int .i64 (allP b).2.2]) ∧ ToldAt w' v ts ∧ ts.map Prod.fst = (allP b).1 ∧ Below w.heap.size w w'
def AllRel (w : World) (R : Nat) (b : List UInt8) (v : Value) (wr : World) : Prop :=
  ∃ (b' : List UInt8) (bv : Value) (ts : List (Rq × Value)) (used : Int), RdAt w.heap.size (fun _ => False) wr R false RS.init b' bv (.slice none 0 0) (.slice none 0 0) 0 used 0 ∧ Below w.heap.size w wr ∧ (ToldAt wr v ts ∧ ∀ g, v.ownBlock = some g → w.heap.size ≤ g) ∧
    allP b = (ts.map Prod.fst ++ (allP b').1, (allP b').2) ∧ 0 ≤ used ∧ used + b'.length = b.length
def rdLen (R : Nat) (w : World) : Nat := lenCell (w.cell? ⟨R, 1, none⟩)
theorem RdAt.len {N : Nat} {K : Nat → Prop} {w : World} {R : Nat} {fed : Bool} {s : RS} {b : List UInt8} {bv hv yv : Value} {wrong used taken : Int} (h : RdAt N K w R fed s b bv hv yv wrong used taken) : rdLen R w = b.length := by
  obtain ⟨A, cap, hbv, _⟩ := h.bytes
  subst hbv
  have c1 : w.cell? ⟨R, 1, none⟩ = some (.slice A b.length cap) := h.blk.cell 1
  unfold rdLen
  rw [c1]
  rfl
/-- 'Next' where a reader of the call's own stands at its start. -/
theorem next_at (w wr : World) (R : Nat) (fed : Bool) (s : RS) (b : List UInt8) (bv hv yv : Value) (used taken : Int) (h : RdAt w.heap.size (fun _ => False) wr R fed s b bv hv yv 0 used taken) (he : EnvAt w.heap.size wr)
    (h0 : 0 ≤ taken) (hu : 0 ≤ used) (hT : used + taken + b.length ≤ 1000000000) (hwf : s.wf) :
    Calls Tryz.prog 16 #[.pointer (some ⟨R, 0, none⟩)] wr (NextPost wr.heap.size (foot R bv hv yv) wr R fed b used taken (tellP s b)) :=
  rk_next wr.heap.size (foot R bv hv yv) R fed s b bv hv yv used taken wr h.rebase w.heap.size he h.low (fun k hk => (h.mine k hk).resolve_left id) h0 hu hT hwf
theorem foot_back {w wr w2 : World} {R R' : Nat} {fed : Bool} {s s' : RS} {b b' : List UInt8} {bv hv yv bv' hv' yv' : Value} {wrong wrong' used used' taken taken' : Int} (h : RdAt w.heap.size (fun _ => False) wr R fed s b bv hv yv wrong used taken)
    (h2 : RdAt wr.heap.size (foot R bv hv yv) w2 R' fed s' b' bv' hv' yv' wrong' used' taken') : RdAt w.heap.size (fun _ => False) w2 R' fed s' b' bv' hv' yv' wrong' used' taken' :=
  ⟨h2.blk, h2.bytes, h2.heads, h2.body, h2.apart, fun k hk => by
    rcases h2.mine k hk with h3 | h3
    · exact h.mine k h3
    · exact .inr (Nat.le_trans h.low h3), Nat.le_trans h.low h2.low⟩
theorem reads_new5 (w : World) (o : Obj) (q : Rq) (a : Option Addr) (n c : Nat) (t : TypeId) : Reads ((w.alloc o).alloc (.cells #[.string q.m, .string q.p, .slice a n c, .string q.body, .bool q.close] t)) ((w.alloc o).alloc (.cells #[.string q.m, .string q.p, .slice a n c, .string q.body, .bool q.close] t)).heap.size 5 (some ⟨w.heap.size + 1, 0, none⟩) 1 (toldCells [(q, .slice a n c)]) := by
  refine ⟨rfl, fun _ => ⟨_, rfl, by simp, fun j u hu => ?_⟩⟩
  rw [Addr.add_lit, Nat.zero_add]
  have := cell_new (w.alloc o) #[.string q.m, .string q.p, .slice a n c, .string q.body, .bool q.close] t (0, 0) j
  rw [show (w.alloc o).heap.size = w.heap.size + 1 by simp] at this
  rw [this]
  simpa [toldCells] using hu
theorem five_cells (q : Rq) (a : Option Addr) (n c : Nat) : ∀ u ∈ toldCells [(q, .slice a n c)], u.oneCell' = true := by
  intro u hu
  simp only [toldCells, List.flatMap_cons, List.flatMap_nil, List.append_nil, List.mem_cons, List.not_mem_nil, or_false] at hu
  rcases hu with rfl | rfl | rfl | rfl | rfl <;> rfl
theorem RdAt.toldGrow {N : Nat} {K : Nat → Prop} {w w' : World} {R : Nat} {fed : Bool} {s : RS} {b : List UInt8} {bv hv yv : Value} {wrong used taken : Int} {v : Value} {base n : Nat} {xs : List Value} (h : RdAt N K w R fed s b bv hv yv wrong used taken)
    (ho : w.ownsRow base 33 5 v n xs) (hg : w.grownBy w' v.ownBlock) : RdAt N K w' R fed s b bv hv yv wrong used taken := by
  refine h.keep (fun k hk => hg.block k (h.lt hk) (fun e => ?_)) hg.size
  rcases hk with rfl | hk | hk | hk
  · exact own_blk ho h.blk (by decide) e.symm
  · exact h.bytes.own ho (by decide) hk e.symm
  · exact own_ne ho h.heads (by decide) e.symm hk
  · exact own_ne ho h.body (by decide) e.symm hk
set_option maxRecDepth 100000 in
set_option maxHeartbeats 6400000 in
theorem rk_all (s : ByteArray) (w : World) (he : EnvZ w) (hs : s.size ≤ 1000000) :
    Calls Tryz.prog 18 #[.string s] w (AllPost w s.data.toList) := by
  obtain ⟨i0, hi, hz0, hz1, hz2⟩ := info_parts info_req
  obtain ⟨b, hb⟩ : ∃ b, b = s.data.toList := ⟨_, rfl⟩
  have hbl : b.length = s.size := by rw [hb]; simp
  rw [← hb]
  obtain ⟨w1, hw1⟩ : ∃ w1, w1 = w.alloc (.cells (rdCells RS.init (.slice none 0 0) (.slice none 0 0) (.slice none 0 0) 0 0 0) 50) := ⟨_, rfl⟩
  have hR1 : RdAt w.heap.size (fun _ => False) w1 w.heap.size false RS.init [] (.slice none 0 0) (.slice none 0 0) (.slice none 0 0) 0 0 0 := by rw [hw1]; exact new_rd w false
  have hcv := Lib.run_convert_string_bytes (P := Tryz.prog) w1 9 48 5 s (u := .string) Tryz.underlying9 Tryz.underlying48 Tryz.underlying5
  have hB2 := Lib.bytesWorld_below w1 5 s
  have hbm := BAt.made w1 s (by omega)
  have hbw1 : Below w.heap.size w w1 := by rw [hw1]; exact bl_alloc (Below.refl _ _) _
  have hz1' : w1.heap.size = w.heap.size + 1 := by rw [hw1]; simp
  obtain ⟨cap, hcap⟩ : ∃ c, c = grownCap w1 s.size 0 5 := ⟨_, rfl⟩
  rw [← hcap] at hcv hbm
  clear hcap
  obtain ⟨W2, hW2⟩ : ∃ W2, W2 = Lib.bytesWorld w1 5 s := ⟨_, rfl⟩
  rw [← hW2] at hcv hB2 hbm
  clear hW2
  rw [← hb] at hbm
  have hR2 := hR1.below hB2
  have hR3 : RdAt w.heap.size (fun _ => False) (W2.setCell ⟨w.heap.size, 1, none⟩ (.slice (some ⟨w1.heap.size, 0, none⟩) s.size cap)) w.heap.size false RS.init b (.slice (some ⟨w1.heap.size, 0, none⟩) s.size cap) (.slice none 0 0) (.slice none 0 0) 0 0 0 :=
    hR2.setB hbm (.inr ⟨w1.heap.size, rfl, by omega, by simp [Value.ownBlock]⟩)
  have hbw3 : Below w.heap.size w (W2.setCell ⟨w.heap.size, 1, none⟩ (.slice (some ⟨w1.heap.size, 0, none⟩) s.size cap)) := (hbw1.trans (hB2.mono (by omega))).setCell (p := ⟨w.heap.size, 1, none⟩) (Nat.le_refl _) _
  have hst : AllRel w w.heap.size b (.slice none 0 0) (W2.setCell ⟨w.heap.size, 1, none⟩ (.slice (some ⟨w1.heap.size, 0, none⟩) s.size cap)) :=
    ⟨b, _, [], 0, hR3, hbw3, ⟨⟨World.ownsRow_nil _ _ _ _, fun x hx => by cases hx⟩, fun g hg => by simp [Value.ownBlock] at hg⟩, by simp, by omega, by omega⟩
  have c1 : W2.cell? ⟨w.heap.size, 1, none⟩ = some (.slice none 0 0) := hR2.blk.cell 1
  have f1 := hR2.blk.frozen 1
  have HST := Lib.hid hst; clear hst
  have HE := Lib.hid he; clear he
  have HN := Lib.hid (rk_new w)
  rw [← hw1] at HN
  have HBL := Lib.hid hbl; clear hbl
  have HB := Lib.hid hb; clear hb
  clear hR1 hR2 hR3 hB2 hbm hbw1 hbw3 hw1 hz1'
  obtain ⟨R, hR⟩ : ∃ R, R = w.heap.size := ⟨_, rfl⟩
  generalize hQ : AllPost w b = Q
  have HQ := Lib.hid hQ; clear hQ
  go_enter Tryz.func18, Tryz.ntmps18
  go_wp2_with fail
  refine HN.out.mono ?_
  rintro en wx ⟨rfl, rfl⟩
  go_wp2_with fail
  clear c1 f1 hcv
  rw [← hR] at HST ⊢
  have HR := Lib.hid hR; clear hR
  go_loopw [6] (fun v wr => AllRel w R b v wr) (fun v wr => rdLen R wr)
  case atStart => exact HST.out
  case round =>
    obtain ⟨b', bv, ts, used, hRd, hBw, ⟨hTo, hrow⟩, hAll, hu, hsum⟩ := hrel
    have hrow := Lib.hid hrow
    have hEw : EnvAt w.heap.size wr := (EnvAt.start HE.out).below hBw (Nat.le_refl _)
    have HC := Lib.hid (next_at w wr R false RS.init b' bv (.slice none 0 0) (.slice none 0 0) used 0 hRd hEw (by omega) hu (by have := HBL.out; omega) wf_init)
    clear hEw
    cases htl : tellP RS.init b' with
    | wait s2 b2 =>
      rw [htl] at HC
      have hA : allP b' = ([], b', 0) := all_wait htl
      rw [hA] at hAll
      have HAll := Lib.hid hAll; clear hAll hA
      have HTo := Lib.hid hTo; clear hTo
      have HRd := Lib.hid hRd; clear hRd
      have HBw := Lib.hid hBw; clear hBw
      go_wp2_with fail
      refine HC.out.mono ?_
      rintro en w2 ⟨hT, rfl, hwf2, bv2, hv2, yv2, t2, hR2, h02, hs2⟩
      have hTo2 := HTo.out.turned HRd.out hT
      have hB2 : Below w.heap.size w w2 := HBw.out.trans (hT.to_below HRd.out.low (fun k hk => (HRd.out.mine k hk).resolve_left id))
      have k14 : w2.cell? ⟨R, 14, none⟩ = some (.int .i64 used) := hR2.blk.cell 14
      have HF : Hid (∀ W, Below w2.heap.size w2 W → Q (.returned (.tuple #[u6, .int .i64 used, .int .i64 0])) W) := fun W hW => by
        rw [← HQ.out]
        refine ⟨u6, ts, ?_, hTo2.below hW, ?_, hB2.trans (hW.mono hB2.size)⟩
        · rw [HAll.out]
          have : (b.length : Int) - (b'.length : Int) = used := by omega
          simp only [this]
        · rw [HAll.out]; simp
      have hRlt2 : R < w2.heap.size := hR2.blk.lt
      clear hT hR2 hTo2 hB2 htl HC
      unfold zeroReq
      go_wp2_with fail
      go_region
      all_goals go_wp2_with fail
      all_goals (first | refine HF.out _ ?_ | (go_ret3; refine HF.out _ ?_))
      all_goals first | exact (bl_alloc (Below.refl _ _) _).drew | exact bl_alloc (Below.refl _ _) _ | exact bl_alloc ((Below.refl _ _).drew) _
    | refuse e2 =>
      rw [htl] at HC
      have hA : allP b' = ([], b', e2) := all_refuse htl
      rw [hA] at hAll
      have HAll := Lib.hid hAll; clear hAll hA
      have HTo := Lib.hid hTo; clear hTo
      have HRd := Lib.hid hRd; clear hRd
      have HBw := Lib.hid hBw; clear hBw
      go_wp2_with fail
      refine HC.out.mono ?_
      rintro en w2 ⟨hT, rfl, s2, b2, bv2, hv2, yv2, t2, hR2, h02, hs2⟩
      have hTo2 := HTo.out.turned HRd.out hT
      have hB2 : Below w.heap.size w w2 := HBw.out.trans (hT.to_below HRd.out.low (fun k hk => (HRd.out.mine k hk).resolve_left id))
      have k14 : w2.cell? ⟨R, 14, none⟩ = some (.int .i64 used) := hR2.blk.cell 14
      have HF : Hid (∀ W, Below w2.heap.size w2 W → Q (.returned (.tuple #[u6, .int .i64 used, .int .i64 e2])) W) := fun W hW => by
        rw [← HQ.out]
        refine ⟨u6, ts, ?_, hTo2.below hW, ?_, hB2.trans (hW.mono hB2.size)⟩
        · rw [HAll.out]
          have : (b.length : Int) - (b'.length : Int) = used := by omega
          simp only [this]
        · rw [HAll.out]; simp
      have hRlt2 : R < w2.heap.size := hR2.blk.lt
      clear hT hR2 hTo2 hB2 htl HC
      unfold zeroReq
      go_wp2_with fail
      go_region
      all_goals go_wp2_with fail
      all_goals (first | refine HF.out _ ?_ | (go_ret3; refine HF.out _ ?_))
      all_goals first | exact (bl_alloc (Below.refl _ _) _).drew | exact bl_alloc (Below.refl _ _) _ | exact bl_alloc ((Below.refl _ _).drew) _
    | done q r =>
      rw [htl] at HC
      have hA := all_done htl
      have hlt := done_lt htl
      rw [hA] at hAll
      have HAll := Lib.hid hAll; clear hAll hA
      have HTo := Lib.hid hTo; clear hTo
      have HRd := Lib.hid hRd; clear hRd
      have HBw := Lib.hid hBw; clear hBw
      go_wp2_with fail
      refine HC.out.mono ?_
      rintro en w2 ⟨hT, bv2, hv2, rfl, hR2, hH2, hap⟩
      obtain ⟨Hv, ch, rfl⟩ := own_slice hH2
      have hTo2 := Lib.hid (HTo.out.turned HRd.out hT)
      have hB2 : Hid (Below w.heap.size w w2) := HBw.out.trans (hT.to_below HRd.out.low (fun k hk => (HRd.out.mine k hk).resolve_left id))
      have hR3 := Lib.hid (foot_back HRd.out hR2)
      have hH3 := Lib.hid hH2
      have hlen : Hid (ts.length ≤ 1000000) := by
        show ts.length ≤ 1000000
        have h1 := (all_len b).2
        have h2 := congrArg Prod.fst HAll.out
        have h3 := congrArg List.length h2
        simp at h3
        have := HBL.out
        omega
      clear hT hR2 hH2 hap htl HC
      unfold rqVal
      go_wp2_with (at_builtin; refine wpList_append_any _ rfl (.tmp 30) (.tmp 32) 28 rfl 0 33 i0 _ 5 80 Tryz.underlying28 hi hz0 hz1 hz2 rfl (by decide) u6 ts.length (toldCells ts) rfl ((hTo2.out.1.alloc _).alloc _) _ (some ⟨w2.heap.size + 1, 0, none⟩) 1 1 (toldCells [(q, .slice Hv q.hs.length ch)]) rfl (reads_new5 _ _ _ _ _ _ _) (five_cells _ _ _ _) (by have := hlen.out; simp only [maxLen]; omega) (by have := hlen.out; omega) (Nat.zero_le _) ?_)
      intro v' w' hown hgrow hat
      have HN : Hid (AllRel w R b v' w') := by
        refine ⟨r, bv2, ts ++ [(q, .slice Hv q.hs.length ch)], used + (0 + (b'.length : Int) - (r.length : Int)), ?_, ?_, ?_, ?_, ?_, ?_⟩
        · have h1 := hR3.out.below (bl_alloc (bl_alloc (Below.refl _ w2) (Obj.cells #[.string q.m, .string q.p, .slice Hv q.hs.length ch, .string q.body, .bool q.close] 33)) (Obj.cells #[.string q.m, .string q.p, .slice Hv q.hs.length ch, .string q.body, .bool q.close] 33))
          exact h1.toldGrow ((hTo2.out.1.alloc _).alloc _) hgrow
        · have h1 : Below w.heap.size w ((w2.alloc (Obj.cells #[.string q.m, .string q.p, .slice Hv q.hs.length ch, .string q.body, .bool q.close] 33)).alloc (Obj.cells #[.string q.m, .string q.p, .slice Hv q.hs.length ch, .string q.body, .bool q.close] 33)) := bl_alloc (bl_alloc hB2.out _) _
          exact h1.grown hgrow h1.size (fun k hk => hrow.out k hk)
        · refine ⟨⟨by rw [List.length_append, List.length_singleton, toldCells_append]; exact hown, fun x hx => ?_⟩, fun g hg => ?_⟩
          rotate_left
          · rcases hat with h1 | h1
            · exact hrow.out g (h1 ▸ hg)
            · rw [h1] at hg
              cases hg
              have := hB2.out.size
              omega
          have hx2 : ((w2.alloc (Obj.cells #[.string q.m, .string q.p, .slice Hv q.hs.length ch, .string q.body, .bool q.close] 33)).alloc (Obj.cells #[.string q.m, .string q.p, .slice Hv q.hs.length ch, .string q.body, .bool q.close] 33)).ownsRow 0 88 2 x.2 x.1.hs.length (headCells x.1.hs) := by
            rcases List.mem_append.1 hx with h1 | h1
            · exact ((hTo2.out.2 x h1).alloc _).alloc _
            · rw [List.mem_singleton] at h1
              subst h1
              exact (hH3.out.alloc _).alloc _
          exact own_keep hx2 fun g hg => hgrow.block g (hx2.lt g hg).2 (fun e => own_ne hx2 ((hTo2.out.1.alloc _).alloc _) (by decide) hg e.symm)
        · rw [HAll.out]; simp
        · omega
        · omega
      have HM : Hid (rdLen R w' < rdLen R wr) := by
        show rdLen R w' < rdLen R wr
        have h1 := hR3.out.below (bl_alloc (bl_alloc (Below.refl _ w2) (Obj.cells #[.string q.m, .string q.p, .slice Hv q.hs.length ch, .string q.body, .bool q.close] 33)) (Obj.cells #[.string q.m, .string q.p, .slice Hv q.hs.length ch, .string q.body, .bool q.close] 33))
        rw [(h1.toldGrow ((hTo2.out.1.alloc _).alloc _) hgrow).len, HRd.out.len]
        exact hlt
      clear hown hgrow hat
      go_wp2_with fail
      go_roundw
      case rel => exact HN.out
      case measure => exact HM.out
end Go.Proofs.YtnicmdlicbnlgaaGreatDoor
