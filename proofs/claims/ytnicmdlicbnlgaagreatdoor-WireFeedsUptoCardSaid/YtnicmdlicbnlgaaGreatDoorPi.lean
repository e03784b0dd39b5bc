/-
  The law: however the bytes come in pieces, a reader tells the same.
-/
import Derived.Test.YtnicmdlicbnlgaaGreatDoorRt
namespace Go.Proofs.YtnicmdlicbnlgaaGreatDoor
open Go.RowKit
set_option linter.unusedVariables false
set_option linter.unusedSimpArgs false

theorem AgentAt.move {N N' : Nat} {S S' : Nat → Prop} {w w' : World} {R : Nat} {v : Value} {F : List UInt8} {told : List Rq} (h : AgentAt N S w R v F told) (hS : ∀ k, k < w.heap.size → (S k ∨ N ≤ k) → S' k ∨ N' ≤ k)
    (hk : ∀ k, k < w.heap.size → (S k ∨ N ≤ k) → w'.heap[k]? = w.heap[k]?) (hz : w.heap.size ≤ w'.heap.size) (hN : N' ≤ w'.heap.size) : AgentAt N' S' w' R v F told := by
  obtain ⟨s, b, bv, hv, yv, wrong, used, taken, ts, h1, h2, h3, h4, h5, h6, h7, h8, h9⟩ := h
  have h1' := h1.keep (fun k hkf => hk k (h1.lt hkf) (h1.mine k hkf)) hz
  exact ⟨s, b, bv, hv, yv, wrong, used, taken, ts, ⟨h1'.blk, h1'.bytes, h1'.heads, h1'.body, h1'.apart, fun k hkf => hS k (h1.lt hkf) (h1.mine k hkf), hN⟩, h2, h3, h4, h5, h6.keep (fun g t cs hg _ hw => hk g (Array.getElem?_eq_some_iff.1 hg).1 (by
      rcases hw with hw | ⟨x, hx, hw⟩
      · exact h8 g hw
      · exact (h9 x hx g hw).1)), h7, fun k hkb => hS k (h6.1.lt k hkb).2 (h8 k hkb), fun x hx k hkb => ⟨hS k ((h6.2 x hx).lt k hkb).2 (h9 x hx k hkb).1, (h9 x hx k hkb).2⟩⟩
theorem AgentAt.told {N : Nat} {S : Nat → Prop} {w : World} {R : Nat} {v : Value} {F : List UInt8} {told : List Rq} (h : AgentAt N S w R v F told) : ∃ ts, ToldAt w v ts ∧ ts.map Prod.fst = told := by
  obtain ⟨s, b, bv, hv, yv, wrong, used, taken, ts, h1, h2, h3, h4, h5, h6, h7, h8, h9⟩ := h
  exact ⟨ts, h6, h7⟩
theorem AgentAt.low {N : Nat} {S : Nat → Prop} {w : World} {R : Nat} {v : Value} {F : List UInt8} {told : List Rq} (h : AgentAt N S w R v F told) : N ≤ w.heap.size := by
  obtain ⟨s, b, bv, hv, yv, wrong, used, taken, ts, h1, h2, h3, h4, h5, h6, h7, h8, h9⟩ := h
  exact h1.low
theorem AgGot.low {N : Nat} {S : Nat → Prop} {w : World} {R : Nat} {v : Value} {F : List UInt8} {told : List Rq} {ts : List (Rq × Value)} {q : Rq} {hq : Value} (h : AgGot N S w R v F told ts q hq) : N ≤ w.heap.size := by
  obtain ⟨s, b, bv, hv, yv, wrong, used, taken, h1, h2⟩ := h
  exact h1.low
theorem take_ext (b : ByteArray) (f z : Nat) (h : f ≤ z) : b.data.toList.take f ++ (b.extract f z).data.toList = b.data.toList.take z := by
  have e : (b.extract f z).data.toList = (b.data.toList.take z).drop f := by simp [ByteArray.data_extract, Array.toList_extract, List.extract, List.drop_take]
  rw [e]
  conv => rhs; rw [← List.take_append_drop f (b.data.toList.take z)]
  rw [List.take_take, Nat.min_eq_left h]
/-- Between two rounds over the cuts. -/
def CutRel (N : Nat) (S : Nat → Prop) (w4 : World) (R : Nat) (b : ByteArray) (n : Nat) (a from_ i : Value) (wr : World) : Prop :=
  ∃ (k f : Nat) (told : List Rq), k ≤ n ∧ i = .int .i64 k ∧ f ≤ b.size ∧ from_ = .int .i64 f ∧ AgentAt N S wr R a (b.data.toList.take f) told ∧ Turned N S w4 wr
def ByteRel (N : Nat) (S : Nat → Prop) (w4 : World) (R : Nat) (b : ByteArray) (a i : Value) (wr : World) : Prop :=
  ∃ (k : Nat) (told : List Rq), k ≤ b.size ∧ i = .int .i64 k ∧ AgentAt N S wr R a (b.data.toList.take k) told ∧ Turned N S w4 wr
def natOf : Value → Nat
  | .int _ n => n.toNat
  | _ => 0
set_option maxRecDepth 100000 in
set_option maxHeartbeats 16000000 in
theorem lw_pieces (b : ByteArray) (A : Option Addr) (g off n cap : Nat) (zs : List Int) (w : World) (he : EnvZ w) (hn : zs.length = n) (hA : 0 < n → A = some ⟨g, off, none⟩) (hc : ∀ i (h : i < zs.length), w.cell? ⟨g, off + i, none⟩ = some (.int .i64 zs[i])) :
    Calls Tryz.prog 6 #[.string b, .slice A n cap] w fun e w' => e = .returned (.bool true) ∧ Below w.heap.size w w' := by
  have HE := Lib.hid he; clear he
  have HAL := Lib.hid (lw_alive w HE.out)
  have Hn := Lib.hid hn; clear hn
  have HA := Lib.hid hA; clear hA
  have HC := Lib.hid hc; clear hc
  by_cases hb : 4000 < b.size
  · go_enter Tryz.func6, Tryz.ntmps6
    go_wp2_with fail
    refine HAL.out.mono ?_
    rintro en w1 ⟨rfl, hb1⟩
    go_wp2_with fail
    go_ret
    exact ⟨rfl, hb1⟩
  · by_cases hn3 : 300 < n
    · go_enter Tryz.func6, Tryz.ntmps6
      go_wp2_with fail
      refine HAL.out.mono ?_
      rintro en w1 ⟨rfl, hb1⟩
      go_wp2_with fail
      go_ret
      exact ⟨rfl, hb1⟩
    · obtain ⟨i0, hi, iz0, iz1, iz2⟩ := info_parts info_req
      have hA1 : Hid (∀ W, EnvZ W → Calls Tryz.prog 18 #[.string b] W (AllPost W b.data.toList)) := fun W hW => rk_all b W hW (by omega)
      have hall : b.data.toList.length = b.size := by simp
      have HBS := Lib.hid hall; clear hall
      obtain ⟨Q, hQ⟩ : ∃ Q : Ending → World → Prop, Q = fun e w' => e = .returned (.bool true) ∧ Below w.heap.size w w' := ⟨_, rfl⟩
      rw [← hQ]
      have HQ := Lib.hid hQ; clear hQ
      go_enter Tryz.func6, Tryz.ntmps6
      go_wp2_with fail
      refine HAL.out.mono ?_
      rintro en w1 ⟨rfl, hb1⟩
      have HE1 := Lib.hid (HE.out.below hb1)
      have HB1 := Lib.hid hb1; clear hb1
      go_wp2_with fail
      refine (hA1.out _ HE1.out).mono ?_
      rintro en w2 ⟨v1, t1, rfl, ht1, hm1, hb2⟩
      have HE2 := Lib.hid (EnvAt.start (HE1.out.below hb2))
      have HB2 := Lib.hid (bl_trans HB1.out hb2); clear hb2
      obtain ⟨X1, c1, g1, rfl, -, -, -, -⟩ := told_any ht1
      have HT1 := Lib.hid ht1; clear ht1
      have HM1 := Lib.hid hm1; clear hm1
      generalize ((b.data.toList.length : Int) - (allP b.data.toList).2.1.length) = n1
      have hnew1 := Lib.hid (rk_new w2)
      have hag1 := Lib.hid (AgentAt.new w2)
      obtain ⟨w3, hw3⟩ : ∃ w3, w3 = w2.alloc (.cells (rdCells RS.init (.slice none 0 0) (.slice none 0 0) (.slice none 0 0) 0 0 0) 50) := ⟨_, rfl⟩
      have hz3 : w3.heap.size = w2.heap.size + 1 := by rw [hw3]; simp
      have hb3 : Below w2.heap.size w2 w3 := by rw [hw3]; exact bl_alloc (Below.refl _ _) _
      rw [← hw3] at hnew1 hag1
      clear hw3
      have hnew2 := Lib.hid (rk_new w3)
      have hag2 := Lib.hid (AgentAt.new w3)
      obtain ⟨w4, hw4⟩ : ∃ w4, w4 = w3.alloc (.cells (rdCells RS.init (.slice none 0 0) (.slice none 0 0) (.slice none 0 0) 0 0 0) 50) := ⟨_, rfl⟩
      have hz4 : w4.heap.size = w3.heap.size + 1 := by rw [hw4]; simp
      have hb4 : Below w3.heap.size w3 w4 := by rw [hw4]; exact bl_alloc (Below.refl _ _) _
      rw [← hw4] at hnew2 hag2
      clear hw4
      have HZ3 := Lib.hid hz3; clear hz3
      have HZ4 := Lib.hid hz4; clear hz4
      have HB3 := Lib.hid hb3; clear hb3
      have HB4 := Lib.hid hb4; clear hb4
      go_wp2_with fail
      refine hnew1.out.mono ?_
      rintro en wx ⟨rfl, hwx⟩
      subst hwx
      go_wp2_with fail
      refine hnew2.out.mono ?_
      rintro en wy ⟨rfl, hwy⟩
      subst hwy
      clear hnew1 hnew2
      have hB24 : Hid (Below w2.heap.size w2 wy) := HB3.out.trans (HB4.out.mono HB3.out.size)
      obtain ⟨R1, hR1⟩ : ∃ R1, R1 = w2.heap.size := ⟨_, rfl⟩
      obtain ⟨R2, hR2⟩ : ∃ R2, R2 = wx.heap.size := ⟨_, rfl⟩
      rw [← hR1] at hag1 ⊢
      rw [← hR2] at hag2 ⊢
      have HR1 := Lib.hid hR1; clear hR1
      have HR2 := Lib.hid hR2; clear hR2
      have hone : AgentAt wy.heap.size (fun k => k = R1) wy R1 (.slice none 0 0) (b.data.toList.take 0) [] := by
        have := hag1.out
        exact this.move (fun k hk h => .inl (by have := HZ3.out; have := HR1.out; rcases h with h | h; exact h.elim; omega)) (fun k hk _ => HB4.out.block k hk) HB4.out.size (Nat.le_refl _)
      have HONE : Hid (CutRel wy.heap.size (fun k => k = R1) wy R1 b n (.slice none 0 0) (.int .i64 0) (.int .i64 0) wy) := ⟨0, 0, [], Nat.zero_le _, rfl, Nat.zero_le _, rfl, hone, Turned.refl _ _ _⟩
      clear hone hag1
      have HEr : Hid (∀ wr, Turned wy.heap.size (fun k => k = R1) wy wr → EnvAt w2.heap.size wr) := fun wr ht => (HE2.out.below hB24.out (Nat.le_refl _)).turned ht hB24.out.size (fun k hk => by have := HR1.out; omega)
      have HCr : Hid (∀ wr, Turned wy.heap.size (fun k => k = R1) wy wr → Below w.heap.size w wr) := fun wr ht => HB2.out.trans ((hB24.out.mono HB2.out.size).trans (ht.to_below (by have := hB24.out.size; have := HB2.out.size; omega) (fun k hk => by have := HR1.out; have := HB2.out.size; omega)))
      go_wp2_with fail
      go_loopw [11, 13, 14] (fun a f i wr => CutRel wy.heap.size (fun k => k = R1) wy R1 b n a f i wr) (fun a f i wr => n - natOf i)
      case atStart => exact HONE.out
      case round =>
        obtain ⟨k, f, told, hk, rfl, hf, rfl, hAg, hTw⟩ := hrel
        by_cases hlt : k < n
        · have hkz : k < zs.length := by have := Hn.out; omega
          have eA := HA.out (by omega)
          subst eA
          have hcell : wr.cell? ⟨g, off + k, none⟩ = some (.int .i64 zs[k]) := ((HCr.out wr hTw).cell (p := ⟨g, off + k, none⟩) (lt_of_cell (HC.out k hkz))).trans (HC.out k hkz)
          generalize zs[k] = z at hcell
          have HAg := Lib.hid hAg; clear hAg
          have HTw := Lib.hid hTw; clear hTw
          have HNext : Hid (CutRel wy.heap.size (fun k => k = R1) wy R1 b n u11 (.int .i64 f) (.int .i64 (k + 1 : Nat)) wr) := ⟨k + 1, f, told, by omega, rfl, hf, rfl, HAg.out, HTw.out⟩
          by_cases hz1 : z < (f : Int)
          · go_wp2_with fail
            go_roundw
            case rel => exact HNext.out
            case measure => simp [natOf]; omega
          · by_cases hz2 : (b.size : Int) < z
            · go_wp2_with fail
              go_roundw
              case rel => exact HNext.out
              case measure => simp [natOf]; omega
            · obtain ⟨zn, rfl⟩ : ∃ zn : Nat, z = (zn : Int) := ⟨z.toNat, by omega⟩
              have hfz : f ≤ zn := by omega
              have hzb : zn ≤ b.size := by omega
              have HFd := Lib.hid (ag_feed wy.heap.size (fun k => k = R1) wr R1 u11 _ told (b.extract f zn) HAg.out (by rw [ByteArray.size_extract]; omega) (by rw [List.length_take]; omega))
              rw [take_ext b f zn hfz] at HFd
              go_wp2_with fail
              refine HFd.out.mono ?_
              rintro en w5 ⟨rfl, hT5, hA5⟩
              have HT5 : Hid (Turned wy.heap.size (fun k => k = R1) wy w5) := HTw.out.trans hT5
              have hcell5 : w5.cell? ⟨g, off + k, none⟩ = some (.int .i64 zn) := by
                have h0 := lt_of_cell hcell
                have h1 := ((HCr.out wr HTw.out).cell (p := ⟨g, off + k, none⟩) (lt_of_cell (HC.out k hkz)))
                have h2 := ((HCr.out w5 HT5.out).cell (p := ⟨g, off + k, none⟩) (lt_of_cell (HC.out k hkz)))
                rw [h2, ← h1, hcell]
              have HNx := Lib.hid (ag_next wy.heap.size (fun k => k = R1) w5 R1 u11 _ told w2.heap.size (HEr.out w5 HT5.out) hB24.out.size (fun k hk => by have := HR1.out; omega) hA5 (by rw [List.length_take]; omega))
              clear hT5 hA5 HFd
              go_wp2_with fail
              refine HNx.out.mono ?_
              rintro en w6 ⟨hT6, hor⟩
              rcases hor with ⟨e, rfl, hA6, _, _⟩ | ⟨q, hq, ts, rfl, hG⟩
              · have HN : Hid (∀ W, Below w6.heap.size w6 W → CutRel wy.heap.size (fun k => k = R1) wy R1 b n u11 (.int .i64 zn) (.int .i64 (k + 1 : Nat)) W) := fun W hW =>
                  ⟨k + 1, zn, told, by omega, rfl, hzb, rfl, hA6.below hW, HT5.out.trans (hT6.trans (Turned.of_below hW hA6.low))⟩
                clear hT6 hA6 HNx
                unfold zeroReq
                go_wp2_with fail
                go_roundw
                case rel => exact HN.out _ (bl_alloc (Below.refl _ _) _)
                case measure => simp [natOf]; omega
              · obtain ⟨hown, hlen, hltt, A2, c2, rfl⟩ := hG.parts
                have HLT : told.length ≤ 1000000 := by
                  have := (all_len (b.data.toList.take zn)).2
                  rw [List.length_take] at this
                  omega
                have HG := Lib.hid hG; clear hG
                have HT6 := Lib.hid hT6; clear hT6
                have HO := Lib.hid hown; clear hown
                have HLE := Lib.hid hlen; clear hlen hltt HNx
                unfold rqVal
                go_wp2_with (at_builtin; refine wpList_append_any _ rfl (.tmp 93) (.tmp 95) 28 rfl 0 33 i0 _ 5 80 Tryz.underlying28 hi iz0 iz1 iz2 rfl (by decide) u11 ts.length (toldCells ts) rfl ((HO.out.alloc _).alloc _) _ (some ⟨w6.heap.size + 1, 0, none⟩) 1 1 (toldCells [(q, .slice A2 q.hs.length c2)]) rfl (reads_new5 _ _ _ _ _ _ _) (five_cells _ _ _ _) (by have := HLE.out; simp only [maxLen]; omega) (by have := HLE.out; omega) (Nat.zero_le _) ?_)
                intro v' w' hown hgrow hat
                have hG2 := HG.out.below (bl_alloc (bl_alloc (Below.refl _ w6) (Obj.cells #[.string q.m, .string q.p, .slice A2 q.hs.length c2, .string q.body, .bool q.close] 33)) (Obj.cells #[.string q.m, .string q.p, .slice A2 q.hs.length c2, .string q.body, .bool q.close] 33))
                obtain ⟨hA7, hT7⟩ := hG2.push hown hgrow (hat.imp id fun h => by simpa using h)
                have HN : Hid (CutRel wy.heap.size (fun k => k = R1) wy R1 b n v' (.int .i64 zn) (.int .i64 (k + 1 : Nat)) w') :=
                  ⟨k + 1, zn, told ++ [q], by omega, rfl, hzb, rfl, hA7, HT5.out.trans (HT6.out.trans ((Turned.of_below (bl_alloc (bl_alloc (Below.refl _ w6) _) _) HG.out.low).trans hT7))⟩
                clear hown hgrow hat hG2 hA7 hT7
                go_wp2_with fail
                go_roundw
                case rel => exact HN.out
                case measure => simp [natOf]; omega
        · have HFd := Lib.hid (ag_feed wy.heap.size (fun k => k = R1) wr R1 u11 _ told (b.extract f b.size) hAg (by rw [ByteArray.size_extract]; omega) (by rw [List.length_take]; omega))
          rw [take_ext b f b.size hf, List.take_of_length_le (by rw [HBS.out]; exact Nat.le_refl _)] at HFd
          have HTw := Lib.hid hTw; clear hTw hAg
          go_wp2_with fail
          refine HFd.out.mono ?_
          rintro en w5 ⟨rfl, hT5, hA5⟩
          have HT5 : Hid (Turned wy.heap.size (fun k => k = R1) wy w5) := HTw.out.trans hT5
          have HA5 := Lib.hid hA5; clear hA5 hT5 HFd
          go_wp2_with fail
          have e31 : wx.heap.size = w2.heap.size + 1 := HZ3.out
          have e41 : wy.heap.size = wx.heap.size + 1 := HZ4.out
          have e1 : R1 = w2.heap.size := HR1.out
          have e2 : R2 = wx.heap.size := HR2.out
          have htwo : AgentAt w5.heap.size (fun k => k = R2) w5 R2 (.slice none 0 0) (b.data.toList.take 0) [] := by
            refine AgentAt.move hag2.out (fun k hk h => .inl ?_) (fun k hk h => HT5.out.block k hk ?_) HT5.out.size (Nat.le_refl _)
            · show k = R2
              rcases h with h | h
              · exact h.elim
              · omega
            · show ¬ k = R1
              rcases h with h | h
              · exact h.elim
              · omega
          have E31 := Lib.hid e31
          have E41 := Lib.hid e41
          clear e31 e41 e1 e2
          have HTWO : Hid (ByteRel w5.heap.size (fun k => k = R2) w5 R2 b (.slice none 0 0) (.int .i64 0) w5) := ⟨0, [], Nat.zero_le _, rfl, htwo, Turned.refl _ _ _⟩
          have HE5 := Lib.hid (HEr.out w5 HT5.out)
          have HC5 := Lib.hid (HCr.out w5 HT5.out)
          have hR2b : w2.heap.size ≤ R2 := by have := HR2.out; have := HZ3.out; omega
          have hw5b : w2.heap.size ≤ w5.heap.size := HE5.out.le
          have HEs : Hid (∀ wr, Turned w5.heap.size (fun k => k = R2) w5 wr → EnvAt w2.heap.size wr) := fun wr ht => HE5.out.turned ht hw5b (fun k hk => by omega)
          clear htwo hag2
          go_loopw [12, 18] (fun c i wr => ByteRel w5.heap.size (fun k => k = R2) w5 R2 b c i wr) (fun c i wr => b.size - natOf i)
          case atStart => exact HTWO.out
          case round =>
            obtain ⟨k2, told2, hk2, rfl, hAg2, hTw2⟩ := hrel
            by_cases hlt2 : k2 < b.size
            · have hk1 : ((k2 : Int) + 1).toNat = k2 + 1 := by omega
              have HFd := Lib.hid (ag_feed w5.heap.size (fun k => k = R2) wr R2 u12 _ told2 (b.extract k2 (k2 + 1)) hAg2 (by rw [ByteArray.size_extract]; omega) (by rw [List.length_take]; omega))
              rw [take_ext b k2 (k2 + 1) (by omega)] at HFd
              have HTw2 := Lib.hid hTw2; clear hTw2 hAg2
              go_wp2_with fail
              refine HFd.out.mono ?_
              rintro en w6 ⟨rfl, hT6, hA6⟩
              have HT6 : Hid (Turned w5.heap.size (fun k => k = R2) w5 w6) := HTw2.out.trans hT6
              have HNx := Lib.hid (ag_next w5.heap.size (fun k => k = R2) w6 R2 u12 _ told2 w2.heap.size (HEs.out w6 HT6.out) hw5b (fun k hk => by omega) hA6 (by rw [List.length_take]; omega))
              clear hT6 hA6 HFd
              go_wp2_with fail
              refine HNx.out.mono ?_
              rintro en w7 ⟨hT7, hor⟩
              rcases hor with ⟨e, rfl, hA7, _, _⟩ | ⟨q, hq, ts, rfl, hG⟩
              · have HN : Hid (∀ W, Below w7.heap.size w7 W → ByteRel w5.heap.size (fun k => k = R2) w5 R2 b u12 (.int .i64 (k2 + 1 : Nat)) W) := fun W hW =>
                  ⟨k2 + 1, told2, by omega, rfl, hA7.below hW, HT6.out.trans (hT7.trans (Turned.of_below hW hA7.low))⟩
                clear hT7 hA7 HNx
                unfold zeroReq
                go_wp2_with fail
                go_roundw
                case rel => exact HN.out _ (bl_alloc (Below.refl _ _) _)
                case measure => simp [natOf]; omega
              · obtain ⟨hown, hlen, hltt, A2, c2, rfl⟩ := hG.parts
                have HLT : told2.length ≤ 1000000 := by
                  have := (all_len (b.data.toList.take (k2 + 1))).2
                  rw [List.length_take] at this
                  omega
                have HG := Lib.hid hG; clear hG
                have HT7 := Lib.hid hT7; clear hT7
                have HO := Lib.hid hown; clear hown
                have HLE := Lib.hid hlen; clear hlen hltt HNx
                unfold rqVal
                go_wp2_with (at_builtin; refine wpList_append_any _ rfl (.tmp 122) (.tmp 124) 28 rfl 0 33 i0 _ 5 80 Tryz.underlying28 hi iz0 iz1 iz2 rfl (by decide) u12 ts.length (toldCells ts) rfl ((HO.out.alloc _).alloc _) _ (some ⟨w7.heap.size + 1, 0, none⟩) 1 1 (toldCells [(q, .slice A2 q.hs.length c2)]) rfl (reads_new5 _ _ _ _ _ _ _) (five_cells _ _ _ _) (by have := HLE.out; simp only [maxLen]; omega) (by have := HLE.out; omega) (Nat.zero_le _) ?_)
                intro v' w' hown hgrow hat
                have hG2 := HG.out.below (bl_alloc (bl_alloc (Below.refl _ w7) (Obj.cells #[.string q.m, .string q.p, .slice A2 q.hs.length c2, .string q.body, .bool q.close] 33)) (Obj.cells #[.string q.m, .string q.p, .slice A2 q.hs.length c2, .string q.body, .bool q.close] 33))
                obtain ⟨hA8, hT8⟩ := hG2.push hown hgrow (hat.imp id fun h => by simpa using h)
                have HN : Hid (ByteRel w5.heap.size (fun k => k = R2) w5 R2 b v' (.int .i64 (k2 + 1 : Nat)) w') :=
                  ⟨k2 + 1, told2 ++ [q], by omega, rfl, hA8, HT6.out.trans (HT7.out.trans ((Turned.of_below (bl_alloc (bl_alloc (Below.refl _ w7) _) _) HG.out.low).trans hT8))⟩
                clear hown hgrow hat hG2 hA8 hT8
                go_wp2_with fail
                go_roundw
                case rel => exact HN.out
                case measure => simp [natOf]; omega
            · obtain rfl : k2 = b.size := by omega
              rw [List.take_of_length_le (by rw [HBS.out]; exact Nat.le_refl _)] at hAg2
              obtain ⟨F, hF⟩ : ∃ F, F = b.data.toList := ⟨_, rfl⟩
              rw [← hF] at hAg2 HA5 HM1
              have hFl : F.length ≤ 1000000 := by rw [hF, HBS.out]; omega
              have hl1 : t1.length = (allP F).1.length := by rw [← HM1.out]; simp
              have hlF := (all_len F).2
              have hR12 : R1 < R2 := by have := HR1.out; have := HR2.out; have := HZ3.out; omega
              have hwy : wy.heap.size = R2 + 1 := by rw [HZ4.out, HR2.out]
              have h5y := HT5.out.size
              have h65 := hTw2.size
              -- agent one, seen from wr
              have hone6 : AgentAt wr.heap.size (fun k => k = R1 ∨ (wy.heap.size ≤ k ∧ k < w5.heap.size)) wr R1 u11 F told := HA5.out.move (fun k hk h => .inl (by rcases h with h | h; exact .inl h; exact .inr ⟨h, hk⟩)) (fun k hk h => hTw2.block k hk (by rcases h with h | h <;> omega)) hTw2.size (Nat.le_refl _)
              have HO6 := Lib.hid hone6; clear hone6
              have HE6 := Lib.hid (HEs.out wr hTw2)
              have HR7 := Lib.hid (lw_rest wr.heap.size (fun k => k = R1 ∨ (wy.heap.size ≤ k ∧ k < w5.heap.size)) wr R1 u11 F told w2.heap.size ((t1.length : Int) + 1) HE6.out (by omega) (fun k hk => by have := HR1.out; have := HB3.out.size; have := HB4.out.size; rcases hk with h | h <;> omega) HO6.out hFl (by omega) (by omega))
              have HAg2 := Lib.hid hAg2; clear hAg2
              have HTw2 := Lib.hid hTw2; clear hTw2
              have ht1b : t1.length ≤ 1000000 := by omega
              have HL1 := Lib.hid hl1; clear hl1
              have HFl := Lib.hid hFl; clear hFl
              have HR12 := Lib.hid hR12; clear hR12
              clear hlF h5y
              have HFE := Lib.hid hF; clear hF
              have HWY := Lib.hid hwy; clear hwy
              go_wp2_with fail
              refine HR7.out.mono ?_
              rintro en w7 ⟨va, rfl, hA7, hT7⟩
              have hwy := HWY.out
              have hR12 := HR12.out
              have h5y := HT5.out.size
              have HA7 := Lib.hid hA7; clear hA7
              have HT7 := Lib.hid hT7; clear hT7 HR7
              have h76 := HT7.out.size
              have htwo7 : AgentAt w7.heap.size (fun k => k = R2 ∨ (w5.heap.size ≤ k ∧ k < wr.heap.size)) w7 R2 u12 F told2 := HAg2.out.move (fun k hk h => .inl (by rcases h with h | h; exact .inl h; exact .inr ⟨h, hk⟩)) (fun k hk h => HT7.out.block k hk (by intro hs; rcases h with h | h <;> rcases hs with hs | hs <;> omega)) HT7.out.size (Nat.le_refl _)
              have HW7 := Lib.hid htwo7; clear htwo7
              have HE7 := Lib.hid (HE6.out.turned HT7.out (by omega) (fun k hk => by have := HR1.out; have := HB3.out.size; have := HB4.out.size; rcases hk with h | h <;> omega))
              clear hwy hR12 h5y
              have HR8 := Lib.hid (lw_rest w7.heap.size (fun k => k = R2 ∨ (w5.heap.size ≤ k ∧ k < wr.heap.size)) w7 R2 u12 F told2 w2.heap.size ((t1.length : Int) + 1) HE7.out (by omega) (fun k hk => by rcases hk with h | h <;> omega) HW7.out HFl.out (by have := HL1.out; omega) (by have := HL1.out; omega))
              go_wp2_with fail
              refine HR8.out.mono ?_
              rintro en w8 ⟨vc, rfl, hA8, hT8⟩
              have hwy := HWY.out
              have hR12 := HR12.out
              have h5y := HT5.out.size
              have h87 := hT8.size
              have hA7' := HA7.out.keep (w' := w8) (fun k hk h => hT8.block k hk (by intro hs; rcases h with h | h <;> rcases hs with hs | hs <;> omega)) hT8.size
              obtain ⟨ta, hta, hma⟩ := hA7'.told
              obtain ⟨tc, htc, hmc⟩ := hA8.told
              have hb28 : Below w2.heap.size w2 w8 := hB24.out.trans ((HT5.out.to_below (by omega) (fun k hk => by have := HR1.out; omega)).trans ((HTw2.out.to_below (by omega) (fun k hk => by omega)).trans ((HT7.out.to_below (by omega) (fun k hk => by have := HR1.out; rcases hk with h | h <;> omega)).trans (hT8.to_below (by omega) (fun k hk => by rcases hk with h | h <;> omega)))))
              have htl := HT1.out.below hb28
              have hmf : ta.map Prod.fst = t1.map Prod.fst := by rw [hma, HM1.out]
              have hmg : tc.map Prod.fst = t1.map Prod.fst := by rw [hmc, HM1.out]
              have hla : ta.length = t1.length := by have := congrArg List.length hmf; simpa using this
              have hlc : tc.length = t1.length := by have := congrArg List.length hmg; simpa using this
              obtain ⟨Xl, cl, gl, hvl, hcl, hnl, hxl, hrl⟩ := told_any htl
              obtain ⟨Xa, ca, ga, rfl, hca, hna, hxa, hra⟩ := told_any hta
              obtain ⟨Xc, cc, gc, rfl, hcc, hnc, hxc, hrc⟩ := told_any htc
              injection hvl with e1 e2 e3
              subst e1; subst e3
              have hh : ∀ q ∈ t1.map Prod.fst, q.hs.length ≤ 32 := by rw [HM1.out]; exact all_heads F
              have HS1 := Lib.hid (lw_same Xa X1 ga 0 gl 0 t1.length ca c1 ta t1 w8 hla rfl (fun h => hxa (by omega)) hxl hra hrl hmf (by rw [hmf]; exact hh) ht1b)
              have HS2 : Hid (∀ W, Below w8.heap.size w8 W → Calls Tryz.prog 19 #[.slice Xc t1.length cc, .slice X1 t1.length c1] W fun e w' => e = .returned (.bool true) ∧ Below W.heap.size W w') := fun W hW =>
                lw_same Xc X1 gc 0 gl 0 t1.length cc c1 tc t1 W hlc rfl (fun h => hxc (by omega)) hxl (hrc.below hW) (hrl.below hW) hmg (by rw [hmg]; exact hh) ht1b
              have HF : Hid (∀ W, Below w8.heap.size w8 W → Q (.returned (.bool true)) W) := fun W hW => by
                rw [HQ.out]
                exact ⟨rfl, bl_trans (bl_trans HB2.out hb28) hW⟩
              rw [hla, hlc]
              rw [HFE.out]
              clear hmf hmg hla hlc hcl hnl hxl hrl hca hna hxa hra hcc hnc hxc hrc hh hb28 htl hta htc hma hmc hA7' hA8 hT8 hwy hR12 h5y h87 hR2b hw5b h65 h76 ht1b
              go_wp2_with fail
              refine HS1.out.mono ?_
              rintro en w9 ⟨rfl, hb9⟩
              have HB9 := Lib.hid hb9; clear hb9
              go_wp2_with fail
              refine (HS2.out _ HB9.out).mono ?_
              rintro en w10 ⟨rfl, hb10⟩
              have HB10 := Lib.hid (bl_trans HB9.out hb10); clear hb10
              go_wp2_with fail
              exact HF.out _ HB10.out
end Go.Proofs.YtnicmdlicbnlgaaGreatDoor
