/-
  Walks: the reference's one request, all requests.
-/
import Derived.Test.YtnicmdlicbnlgaaGreatDoorRj
import Derived.Test.YtnicmdlicbnlgaaGreatDoorRm
namespace Go.Proofs.YtnicmdlicbnlgaaGreatDoor
open Go.RowKit
set_option linter.unusedVariables false
set_option linter.unusedSimpArgs false

section
variable {s : RS} {r : List UInt8}
theorem hd_both (hc : s.chunks = true) (hl : 0 ≤ s.long) : (headedP s r).go s r = .refuse 280 := by
  unfold headedP
  rw [if_pos (by simp [hc, hl])]
  rfl
theorem hd_long (h : ¬ (s.chunks = true ∧ 0 ≤ s.long)) (hl : 8192 < s.long) : (headedP s r).go s r = .refuse 281 := by
  unfold headedP
  rw [if_neg (by simpa using h), if_pos hl]
  rfl
theorem hd_chunks (hc : s.chunks = true) (hl : s.long < 0) : (headedP s r).go s r = tellP { s with state := 3 } r := by
  unfold headedP
  rw [if_neg (by simp; omega), if_neg (by omega), if_pos hc]
  rfl
theorem hd_two (hc : s.chunks = false) (hl : ¬ 8192 < s.long) : (headedP s r).go s r = tellP { s with state := 2 } r := by
  unfold headedP
  rw [if_neg (by simp [hc]), if_neg hl, if_neg (by simp [hc])]
  rfl
theorem hd_none (hc : s.chunks = false) (hl : s.long < 0) (hb : s.body = []) : (headedP s r).go s r = .done ⟨s.m, s.p, s.hs, ⟨#[]⟩, s.close⟩ r := by
  rw [hd_two hc (by omega)]
  refine tell_whole ?_
  rw [step2 _ _ rfl]
  have e : s.long.toNat = 0 := by omega
  simp only [e]
  rw [if_neg (by omega)]
  simp [hb, RS.rq]
theorem hd_short (hc : s.chunks = false) (hl : ¬ 8192 < s.long) (h : r.length < s.long.toNat) : ∃ s' b', (headedP s r).go s r = .wait s' b' := by
  rw [hd_two hc hl]
  exact ⟨_, _, tell_wait (by rw [step2 _ _ rfl, if_pos h])⟩
theorem hd_body (hc : s.chunks = false) (hl : ¬ 8192 < s.long) (h : ¬ r.length < s.long.toNat) (hb : s.body = []) : (headedP s r).go s r = .done ⟨s.m, s.p, s.hs, ⟨(r.take s.long.toNat).toArray⟩, s.close⟩ (r.drop s.long.toNat) := by
  rw [hd_two hc hl]
  refine tell_whole ?_
  rw [step2 _ _ rfl, if_neg h]
  simp [hb, RS.rq]
end
/-- What 'One' tells. -/
def OneTold (b : List UInt8) (k : Nat) (q : Rq) (next e : Int) : Prop :=
  (e = 0 ∧ ∃ n : Nat, next = n ∧ n ≤ b.length ∧ tellP RS.init (b.drop k) = .done q (b.drop n)) ∨
  (e = -1 ∧ ∃ s' b', tellP RS.init (b.drop k) = .wait s' b') ∨
  (0 < e ∧ tellP RS.init (b.drop k) = .refuse e)
def OnePost (w : World) (b : ByteArray) (k : Nat) (en : Ending) (w' : World) : Prop :=
  ∃ (q : Rq) (A : Option Addr) (n c : Nat) (next e : Int), en = .returned (.tuple #[rqVal q (.slice A n c), .int .i64 next, .int .i64 e]) ∧ OneTold b.data.toList k q next e ∧
    (e = 0 → w'.ownsRow w.heap.size 88 2 (.slice A n c) q.hs.length (headCells q.hs)) ∧ Below w.heap.size w w'
def qz : Rq := ⟨⟨#[]⟩, ⟨#[]⟩, [], ⟨#[]⟩, false⟩
theorem own_set {W : World} {base : Nat} {e : TypeId} {size : Nat} {v : Value} {n : Nat} {xs : List Value} (h : W.ownsRow base e size v n xs) {a : Addr} (hn : v.ownBlock ≠ some a.block) (u : Value) : (W.setCell a u).ownsRow base e size v n xs :=
  own_keep h fun g hg => Below.heap_setCell _ _ _ _ (by rintro rfl; exact hn hg)
theorem own_drew {W : World} {base : Nat} {e : TypeId} {size : Nat} {v : Value} {n : Nat} {xs : List Value} (h : W.ownsRow base e size v n xs) : W.drew.ownsRow base e size v n xs := own_keep h fun g hg => rfl
set_option maxRecDepth 100000 in
set_option maxHeartbeats 3200000 in
theorem rf_One (b : ByteArray) (k : Nat) (w : World) (hs : b.size ≤ 1000000) (hk : k ≤ b.size) :
    Calls Tryz.prog 40 #[.string b, .int .i64 k] w (OnePost w b k) := by
  obtain ⟨Q, hQ⟩ : ∃ Q : Ending → World → Prop, Q = OnePost w b k := ⟨_, rfl⟩
  rw [← hQ]
  have HF : Hid (∀ W q A n c next e, OneTold b.data.toList k q next e → (e = 0 → W.ownsRow w.heap.size 88 2 (.slice A n c) q.hs.length (headCells q.hs)) → Below w.heap.size w W → Q (.returned (.tuple #[rqVal q (.slice A n c), .int .i64 next, .int .i64 e])) W) := fun W q A n c next e h1 h2 h3 => by
    rw [hQ]; exact ⟨q, A, n, c, next, e, rfl, h1, h2, h3⟩
  clear hQ
  have HH : Hid (∀ W, Calls Tryz.prog 62 #[.string b, .int .i64 k] W (HeadsPost W b k)) := fun W => rf_heads b k W hs hk
  go_enter Tryz.func40, Tryz.ntmps40
  go_wp2_with fail
  obtain ⟨W1, hW1⟩ : ∃ W1, W1 = w.alloc (Obj.cells zeroCells5 33) := ⟨_, rfl⟩
  have hz1 : W1.heap.size = w.heap.size + 1 := by rw [hW1]; simp
  have hB1 : Below w.heap.size w W1 := by rw [hW1]; exact bl_alloc (Below.refl _ _) _
  have hR1 : Blk W1 w.heap.size 33 zeroCells5 := by rw [hW1]; exact Blk.new _ _ _
  unfold zeroCells5 at hW1
  rw [← hW1]
  clear hW1
  refine (HH.out _).mono ?_
  rintro en w2 ⟨s, A, n, c, at', e, rfl, H1, H2, H3⟩
  have hR2 : Blk w2 w.heap.size 33 zeroCells5 := (H3.block _ (by omega)).trans hR1
  have hz2 : w.heap.size + 1 ≤ w2.heap.size := by have := H3.size; omega
  have hB2 : Below w.heap.size w w2 := bl_trans hB1 H3
  obtain ⟨R, hR⟩ : ∃ R, R = w.heap.size := ⟨_, rfl⟩
  rw [← hR] at hR2 hz2 ⊢
  unfold topCells
  have H2' : Hid (e = 0 → w2.ownsRow w.heap.size 88 2 (.slice A n c) s.hs.length (headCells s.hs) ∧ (Value.slice A n c).ownBlock ≠ some R) := fun he => ⟨own_base (H2 he) fun g hg => by have := ((H2 he).lt g hg).1; omega, fun hg => by have := ((H2 he).lt R hg).1; omega⟩
  have H1' := Lib.hid H1
  have c0 : w2.cell? ⟨R, 0, none⟩ = some (.string ⟨#[]⟩) := hR2.cell 0
  have c1 : w2.cell? ⟨R, 1, none⟩ = some (.string ⟨#[]⟩) := hR2.cell 1
  have c2 : w2.cell? ⟨R, 2, none⟩ = some (.slice none 0 0) := hR2.cell 2
  have c3 : w2.cell? ⟨R, 3, none⟩ = some (.string ⟨#[]⟩) := hR2.cell 3
  have c4 : w2.cell? ⟨R, 4, none⟩ = some (.bool false) := hR2.cell 4
  have f0 := hR2.frozen 0
  have f1 := hR2.frozen 1
  have f2 := hR2.frozen 2
  have f3 := hR2.frozen 3
  have f4 := hR2.frozen 4
  have hRlt : R < w2.heap.size := by omega
  have HR := Lib.hid hR; clear hR
  have HB2 := Lib.hid hB2; clear hB2
  clear H1 H2 H3 hR1 hR2 hB1 hz1 hz2
  by_cases he : e = 0
  · subst he
    have HOW0 : Hid (w2.ownsRow w.heap.size 88 2 (.slice A n c) s.hs.length (headCells s.hs)) := (H2'.out rfl).1
    have HNR : Hid ((Value.slice A n c).ownBlock ≠ some R) := (H2'.out rfl).2
    clear H2'
    have HT := H1'.out
    simp only [HeadsTold] at HT
    obtain ⟨_, ha, hwf, hst, hbd, htl⟩ : _ ∧ _ := HT.resolve_right (by rintro (⟨h, _⟩ | ⟨h, _⟩) <;> omega)
    have hlow := hwf.low
    have hhigh := hwf.high
    have ha' : at' ≤ b.size := by simpa using ha
    have HTL := Lib.hid htl; clear htl
    have HBD := Lib.hid hbd; clear hbd
    clear hwf hst ha H1' HT
    have hcase : (s.chunks = true ∧ 0 ≤ s.long) ∨ ¬ (s.chunks = true ∧ 0 ≤ s.long) := Classical.em _
    rcases hcase with ⟨hc, hl⟩ | hn
    · have HTO : Hid (OneTold b.data.toList k qz (k : Int) 280) := .inr (.inr ⟨by decide, by rw [HTL.out, hd_both hc hl]⟩)
      go_wp2_with fail
      refine bodyPost_ret (v := .tuple #[.agg #[.string ⟨#[]⟩, .string ⟨#[]⟩, .slice none 0 0, .string ⟨#[]⟩, .bool false], .int .i64 (k : Int), .int .i64 280]) (by simp [results, Tryz.results40, go_sem, c0, c1, c2, c3, c4, f0, f1, f2, f3, f4, hRlt]) rfl ?_
      refine HF.out _ qz none 0 0 _ _ HTO.out (fun h => absurd h (by decide)) ?_
      first | refine Below.drew (bl_alloc ?_ _) | refine bl_alloc ?_ _
      iterate 5 (refine Below.setCell ?_ (by rw [HR.out]; exact Nat.le_refl _) _)
      exact HB2.out
    · by_cases hl : 8192 < s.long
      · have HTO : Hid (OneTold b.data.toList k qz (k : Int) 281) := .inr (.inr ⟨by decide, by rw [HTL.out, hd_long hn hl]⟩)
        by_cases hc : s.chunks = true
        · exact absurd ⟨hc, by omega⟩ hn
        · have hc' : s.chunks = false := by simpa using hc
          clear hc hn
          go_wp2_with fail
          refine bodyPost_ret (v := .tuple #[.agg #[.string ⟨#[]⟩, .string ⟨#[]⟩, .slice none 0 0, .string ⟨#[]⟩, .bool false], .int .i64 (k : Int), .int .i64 281]) (by simp [results, Tryz.results40, go_sem, c0, c1, c2, c3, c4, f0, f1, f2, f3, f4, hRlt]) rfl ?_
          refine HF.out _ qz none 0 0 _ _ HTO.out (fun h => absurd h (by decide)) ?_
          first | refine Below.drew (bl_alloc ?_ _) | refine bl_alloc ?_ _
          iterate 5 (refine Below.setCell ?_ (by rw [HR.out]; exact Nat.le_refl _) _)
          exact HB2.out
      · cases hc : s.chunks with
        | true =>
          have hl0 : s.long < 0 := by
            rcases Int.lt_or_le s.long 0 with h | h
            · exact h
            · exact absurd ⟨hc, h⟩ hn
          have CC : Hid (∀ W, Calls Tryz.prog 63 #[.string b, .int .i64 at'] W (ChPost W b at' { s with state := 3 })) := fun W => rf_chunks b at' { s with state := 3 } W hs ha' rfl HBD.out
          have hT3 := HTL.out
          rw [hd_chunks hc hl0] at hT3
          have HT3 := Lib.hid hT3; clear hT3 hn
          go_wp2_with fail
          obtain ⟨T, hT⟩ : ∃ T, T = w2.heap.size := ⟨_, rfl⟩
          obtain ⟨W3, hW3⟩ : ∃ W3, W3 = w2.alloc (Obj.cells #[.string s.m, .string s.p, .slice A n c, .string ⟨#[]⟩, .bool s.close, .int .i64 s.long, .bool true, .int .i64 at', .int .i64 0] 107) := ⟨_, rfl⟩
          rw [← hW3]
          have hz3 : W3.heap.size = T + 1 := by rw [hW3, hT]; simp
          have hB3 : Below w2.heap.size w2 W3 := by rw [hW3]; exact bl_alloc (Below.refl _ _) _
          have hTb : Blk W3 T 107 #[.string s.m, .string s.p, .slice A n c, .string ⟨#[]⟩, .bool s.close, .int .i64 s.long, .bool true, .int .i64 at', .int .i64 0] := by rw [hW3, hT]; exact Blk.new _ _ _
          clear hW3
          rw [← hT]
          refine (CC.out _).mono ?_
          rintro en w4 ⟨body, next, e2, rfl, hct, hb4⟩
          have hB4 : Below w2.heap.size w2 w4 := bl_trans hB3 hb4
          have hTb4 : Blk w4 T 107 #[.string s.m, .string s.p, .slice A n c, .string ⟨#[]⟩, .bool s.close, .int .i64 s.long, .bool true, .int .i64 at', .int .i64 0] := (hb4.block _ (by omega)).trans hTb
          have hTlt : T < w4.heap.size := hTb4.lt
          have hne : T ≠ R := by omega
          replace c0 := (hB4.cell (p := ⟨R, 0, none⟩) hRlt).trans c0
          replace c1 := (hB4.cell (p := ⟨R, 1, none⟩) hRlt).trans c1
          replace c2 := (hB4.cell (p := ⟨R, 2, none⟩) hRlt).trans c2
          replace c3 := (hB4.cell (p := ⟨R, 3, none⟩) hRlt).trans c3
          replace c4 := (hB4.cell (p := ⟨R, 4, none⟩) hRlt).trans c4
          replace f0 := (hB4.frozen (p := ⟨R, 0, none⟩) hRlt).trans f0
          replace f1 := (hB4.frozen (p := ⟨R, 1, none⟩) hRlt).trans f1
          replace f2 := (hB4.frozen (p := ⟨R, 2, none⟩) hRlt).trans f2
          replace f3 := (hB4.frozen (p := ⟨R, 3, none⟩) hRlt).trans f3
          replace f4 := (hB4.frozen (p := ⟨R, 4, none⟩) hRlt).trans f4
          have d0 : w4.cell? ⟨T, 0, none⟩ = some (.string s.m) := hTb4.cell 0
          have d1 : w4.cell? ⟨T, 1, none⟩ = some (.string s.p) := hTb4.cell 1
          have d2 : w4.cell? ⟨T, 2, none⟩ = some (.slice A n c) := hTb4.cell 2
          have d3 : w4.cell? ⟨T, 3, none⟩ = some (.string ⟨#[]⟩) := hTb4.cell 3
          have d4 : w4.cell? ⟨T, 4, none⟩ = some (.bool s.close) := hTb4.cell 4
          have e3 := hTb4.frozen 3
          have HT2 : Hid (R < w2.heap.size) := hRlt
          have HBB : Hid (Below w.heap.size w w4) := HB2.out.trans (hB4.mono HB2.out.size)
          have HOW : Hid (w4.ownsRow w.heap.size 88 2 (.slice A n c) s.hs.length (headCells s.hs)) := own_keep HOW0.out fun g hg => hB4.block g (HOW0.out.lt g hg).2
          have hTw : w.heap.size ≤ T := by have := HB2.out.size; omega
          have hRlt4 : R < w4.heap.size := by have := hB4.size; omega
          have HTW := Lib.hid hTw
          clear hB4 hb4 hB3 hTb hTb4 hz3 hTw hRlt
          have HTT := Lib.hid hT; clear hT
          have HCT := Lib.hid hct; clear hct
          by_cases hz : e2 = 0
          · subst hz
            have HTO : Hid (OneTold b.data.toList k ⟨s.m, s.p, s.hs, body, s.close⟩ next 0) := by
              rcases HCT.out with ⟨_, n', h1, h2, h3⟩ | ⟨h, _⟩ | ⟨h, _⟩
              · exact .inl ⟨rfl, n', h1, h2, by rw [HT3.out, h3]; rfl⟩
              · cases h
              · omega
            go_wp2_with fail
            refine bodyPost_ret (v := .tuple #[.agg #[.string s.m, .string s.p, .slice A n c, .string body, .bool s.close], .int .i64 next, .int .i64 0]) (by simp [results, Tryz.results40, go_sem, c0, c1, c2, c3, c4, f0, f1, f2, f3, f4, hRlt4, d0, d1, d2, d3, d4, e3]) rfl ?_
            refine HF.out _ ⟨s.m, s.p, s.hs, body, s.close⟩ A n c _ _ HTO.out (fun _ => ?_) ?_
            case refine_1 =>
              iterate 5 (refine own_set ?_ HNR.out _)
              refine own_set HOW.out (fun h => ?_) _
              have := (HOW0.out.lt T h).2
              have := HTT.out
              omega
            case refine_2 =>
              iterate 5 (refine Below.setCell ?_ (by rw [HR.out]; exact Nat.le_refl _) _)
              refine Below.setCell ?_ HTW.out _
              exact HBB.out
          · have HTO : Hid (OneTold b.data.toList k qz (k : Int) e2) := by
              rcases HCT.out with ⟨h, _⟩ | ⟨h1, h2⟩ | ⟨h1, h2⟩
              · exact absurd h hz
              · exact .inr (.inl ⟨h1, by rw [HT3.out]; exact h2⟩)
              · exact .inr (.inr ⟨h1, by rw [HT3.out]; exact h2⟩)
            go_wp2_with fail
            refine bodyPost_ret (v := .tuple #[.agg #[.string ⟨#[]⟩, .string ⟨#[]⟩, .slice none 0 0, .string ⟨#[]⟩, .bool false], .int .i64 (k : Int), .int .i64 e2]) (by simp [results, Tryz.results40, go_sem, c0, c1, c2, c3, c4, f0, f1, f2, f3, f4, hRlt4]) rfl ?_
            refine HF.out _ qz none 0 0 _ _ HTO.out (fun h => absurd h hz) ?_
            iterate 5 (refine Below.setCell ?_ (by rw [HR.out]; exact Nat.le_refl _) _)
            exact HBB.out
        | false =>
          clear hn
          by_cases hl0 : s.long < 0
          · have HTO : Hid (OneTold b.data.toList k ⟨s.m, s.p, s.hs, ⟨#[]⟩, s.close⟩ at' 0) := .inl ⟨rfl, at', rfl, by simpa using ha', by rw [HTL.out, hd_none hc hl0 HBD.out]⟩
            go_wp2_with fail
            go_region
            all_goals go_wp2_with fail
            all_goals
              refine bodyPost_ret (v := .tuple #[.agg #[.string s.m, .string s.p, .slice A n c, .string ⟨#[]⟩, .bool s.close], .int .i64 (at' : Int), .int .i64 0]) (by simp [results, Tryz.results40, go_sem, c0, c1, c2, c3, c4, f0, f1, f2, f3, f4, hRlt]) rfl ?_
              refine HF.out _ ⟨s.m, s.p, s.hs, ⟨#[]⟩, s.close⟩ A n c _ _ HTO.out (fun _ => ?_) ?_
              case refine_1 =>
                first | refine own_drew (World.ownsRow.alloc ?_ _) | refine World.ownsRow.alloc ?_ _
                iterate 5 (refine own_set ?_ HNR.out _)
                exact HOW0.out
              case refine_2 =>
                first | refine Below.drew (bl_alloc ?_ _) | refine bl_alloc ?_ _
                iterate 5 (refine Below.setCell ?_ (by rw [HR.out]; exact Nat.le_refl _) _)
                exact HB2.out
          · obtain ⟨L, hL⟩ : ∃ L : Nat, s.long = L := ⟨s.long.toNat, by omega⟩
            have HLL := Lib.hid hL
            by_cases hsh : b.size < at' + L
            · have HTO : Hid (OneTold b.data.toList k qz (k : Int) (-1)) := .inr (.inl ⟨rfl, by rw [HTL.out]; exact hd_short hc hl (by rw [hL]; simp; omega)⟩)
              rw [hL] at hl hl0 hlow hhigh ⊢
              clear hL
              go_wp2_with fail
              refine bodyPost_ret (v := .tuple #[.agg #[.string ⟨#[]⟩, .string ⟨#[]⟩, .slice none 0 0, .string ⟨#[]⟩, .bool false], .int .i64 (k : Int), .int .i64 (-1)]) (by simp [results, Tryz.results40, go_sem, c0, c1, c2, c3, c4, f0, f1, f2, f3, f4, hRlt]) rfl ?_
              refine HF.out _ qz none 0 0 _ _ HTO.out (fun h => absurd h (by decide)) ?_
              first | refine Below.drew (bl_alloc ?_ _) | refine bl_alloc ?_ _
              iterate 5 (refine Below.setCell ?_ (by rw [HR.out]; exact Nat.le_refl _) _)
              exact HB2.out
            · have HTO : Hid (OneTold b.data.toList k ⟨s.m, s.p, s.hs, b.extract at' (at' + L), s.close⟩ ((at' : Int) + L) 0) := .inl ⟨rfl, at' + L, by omega, by simp; omega, by
                rw [HTL.out, hd_body hc hl (by rw [hL]; simp; omega) HBD.out, hL]
                have e1 : ((b.data.toList.drop at').take (L : Int).toNat) = (b.extract at' (at' + L)).data.toList := by
                  rw [extract_list]; congr 1; omega
                rw [e1, List.drop_drop]
                rfl⟩
              rw [hL] at hl hl0 hlow hhigh ⊢
              clear hL
              have g1 : IntKind.i64.wrap ((at' : Int) + L) = (at' : Int) + L := IntWalk.i64_in _ (by omega)
              have g2 : ((at' : Int) + L).toNat = at' + L := by omega
              have g3 : 0 ≤ (at' : Int) + L := by omega
              go_wp2_with fail
              go_region
              all_goals go_wp2_with fail
              all_goals
                refine bodyPost_ret (v := .tuple #[.agg #[.string s.m, .string s.p, .slice A n c, .string (b.extract at' (at' + L)), .bool s.close], .int .i64 ((at' : Int) + L), .int .i64 0]) (by simp [results, Tryz.results40, go_sem, c0, c1, c2, c3, c4, f0, f1, f2, f3, f4, hRlt]) rfl ?_
                refine HF.out _ ⟨s.m, s.p, s.hs, b.extract at' (at' + L), s.close⟩ A n c _ _ HTO.out (fun _ => ?_) ?_
                case refine_1 =>
                  first | refine own_drew (World.ownsRow.alloc ?_ _) | refine World.ownsRow.alloc ?_ _
                  iterate 5 (refine own_set ?_ HNR.out _)
                  exact HOW0.out
                case refine_2 =>
                  first | refine Below.drew (bl_alloc ?_ _) | refine bl_alloc ?_ _
                  iterate 5 (refine Below.setCell ?_ (by rw [HR.out]; exact Nat.le_refl _) _)
                  exact HB2.out
  · have HTO : Hid (OneTold b.data.toList k qz (k : Int) e) := by
      rcases H1'.out with ⟨h, _⟩ | ⟨h1, h2⟩ | ⟨h1, h2⟩
      · exact absurd h he
      · exact .inr (.inl ⟨h1, h2⟩)
      · exact .inr (.inr ⟨h1, h2⟩)
    go_wp2_with fail
    go_region
    all_goals go_wp2_with fail
    all_goals
      refine bodyPost_ret (v := .tuple #[.agg #[.string ⟨#[]⟩, .string ⟨#[]⟩, .slice none 0 0, .string ⟨#[]⟩, .bool false], .int .i64 (k : Int), .int .i64 e]) (by simp [results, Tryz.results40, go_sem, c0, c1, c2, c3, c4, f0, f1, f2, f3, f4, hRlt]) rfl ?_
      refine HF.out _ qz none 0 0 _ _ HTO.out (fun h => absurd h he) ?_
      first | refine Below.drew (bl_alloc ?_ _) | refine bl_alloc ?_ _
      iterate 5 (refine Below.setCell ?_ (by rw [HR.out]; exact Nat.le_refl _) _)
      exact HB2.out
end Go.Proofs.YtnicmdlicbnlgaaGreatDoor
