/-
  Walks: the reference's reading: the first line, a header, numbers.
-/
import Derived.Test.YtnicmdlicbnlgaaGreatDoorRl
import Derived.Test.YtnicmdlicbnlgaaGreatDoorRf1
import Derived.Deep.RegionLaw
namespace Go.Proofs.YtnicmdlicbnlgaaGreatDoor
open Go.RowKit
set_option linter.unusedVariables false
set_option linter.unusedSimpArgs false

/-- No byte of a kind among the first n. -/
def CutTo (c : UInt8) (l : List UInt8) (n : Nat) : Prop := cutP c l = (cutP c (l.drop n)).map fun x => (l.take n ++ x.1, x.2)
theorem cutTo_zero (c : UInt8) (l : List UInt8) : CutTo c l 0 := by
  unfold CutTo
  cases h : cutP c l <;> simp [h]
theorem cutTo_succ {c : UInt8} {l : List UInt8} {n : Nat} (h : CutTo c l n) (hn : n < l.length) (hc : ¬ l[n] = c) : CutTo c l (n + 1) := by
  unfold CutTo at h ⊢
  rw [h, List.drop_eq_getElem_cons hn]
  simp only [cutP, hc, if_false, Option.map_map]
  congr 1
  funext x
  rw [List.take_succ_eq_append_getElem hn, List.append_assoc]; rfl
theorem cutTo_got {c : UInt8} {l : List UInt8} {n : Nat} (h : CutTo c l n) (hn : n < l.length) (hc : l[n] = c) : cutP c l = some (l.take n, l.drop (n + 1)) := by
  unfold CutTo at h
  rw [h, List.drop_eq_getElem_cons hn]
  simp [cutP, hc]
theorem cutTo_none {c : UInt8} {l : List UInt8} {n : Nat} (h : CutTo c l n) (hn : l.length ≤ n) : cutP c l = none := by
  unfold CutTo at h
  rw [h, List.drop_eq_nil_of_le hn]
  rfl

theorem suffix_short {s : ByteArray} (h : s.size < 9) : cHttp.isSuffixOf s.data.toList = false := by
  cases hc : cHttp.isSuffixOf s.data.toList with
  | false => rfl
  | true =>
    have := (List.isSuffixOf_iff_suffix.1 hc).length_le
    have e : s.data.toList.length = s.size := by simp
    have e9 : cHttp.length = 9 := rfl
    omega
theorem suffix_at {s : ByteArray} {e : Bool} (h : ¬ s.size < 9) (he : ((s.extract (s.size - 9) s.size).toList == [32, 72, 84, 84, 80, 47, 49, 46, 49]) = e) : cHttp.isSuffixOf s.data.toList = e := by
  have e1 : (s.extract (s.size - 9) s.size).toList = s.data.toList.drop (s.size - 9) := by
    rw [toList_data, ByteArray.data_extract, Array.toList_extract]
    show (s.data.toList.drop (s.size - 9)).take (s.size - (s.size - 9)) = _
    exact List.take_of_length_le (by simp)
  rw [e1] at he
  have e2 : s.data.toList.length = s.size := by simp
  subst he
  rw [Bool.eq_iff_iff, List.isSuffixOf_iff_suffix, beq_iff_eq, List.suffix_iff_eq_drop, e2]
  have e9 : cHttp.length = 9 := rfl
  rw [e9]
  exact ⟨fun h => h.symm, fun h => h.symm⟩
/-- What 'first' tells. -/
def FirstRet (s : ByteArray) (en : Ending) : Prop := ∃ (m p : ByteArray) (ok : Bool), en = .returned (.tuple #[.string m, .string p, .bool ok]) ∧
  firstLn s.data.toList = (if ok then some (m.data.toList, p.data.toList) else none)
theorem firstRet_no {s : ByteArray} (h : firstLn s.data.toList = none) (m p : ByteArray) : FirstRet s (.returned (.tuple #[.string m, .string p, .bool false])) := ⟨m, p, false, rfl, h⟩
theorem extract_list (s : ByteArray) (a b : Nat) : (s.extract a b).data.toList = (s.data.toList.drop a).take (b - a) := by
  rw [ByteArray.data_extract, Array.toList_extract]
theorem first_got {s : ByteArray} {k : Nat} {b1 b2 : Bool} (hs : cHttp.isSuffixOf s.data.toList = true) (hC : CutTo 32 (s.data.toList.take (s.size - 9)) k) (hk : k < s.size - 9) (hc : s[k] = 32)
    (h1 : methodB (s.extract 0 k).data.toList = b1) (h2 : pathB (s.extract (k + 1) (s.size - 9)).data.toList = b2) :
    FirstRet s (.returned (.tuple #[.string (s.extract 0 k), .string (s.extract (k + 1) (s.size - 9)), .bool (b1 && b2)])) := by
  refine ⟨_, _, _, rfl, ?_⟩
  have hL : s.data.toList.length = s.size := by simp
  have hg := cutTo_got hC (by simp; omega) (by rw [List.getElem_take]; exact hc)
  have e1 : (s.data.toList.take (s.size - 9)).take k = (s.extract 0 k).data.toList := by
    rw [extract_list, List.drop_zero, List.take_take]; congr 1; omega
  have e2 : (s.data.toList.take (s.size - 9)).drop (k + 1) = (s.extract (k + 1) (s.size - 9)).data.toList := by
    rw [extract_list, List.drop_take]
  rw [e1, e2] at hg
  unfold firstLn
  rw [hs, if_pos rfl, hL, hg]
  simp only [h1, h2]
theorem first_none {s : ByteArray} (hC : CutTo 32 (s.data.toList.take (s.size - 9)) (s.size - 9)) : firstLn s.data.toList = none := by
  have hL : s.data.toList.length = s.size := by simp
  unfold firstLn
  rw [hL, cutTo_none hC (by simp)]
  split <;> rfl
set_option maxHeartbeats 1600000 in
theorem rf_first (s : ByteArray) (w : World) (hs : s.size ≤ 1000000000) :
    Calls Tryz.prog 90 #[.string s] w fun en w' => FirstRet s en ∧ Below w.heap.size w w' := by
  go_enter Tryz.func90, Tryz.ntmps90
  by_cases h9 : s.size < 9
  · have hf : firstLn s.data.toList = none := by unfold firstLn; rw [suffix_short h9]; rfl
    have HF := Lib.hid hf; clear hf
    go_wp2
    go_ret3
    exact ⟨firstRet_no HF.out _ _, Below.refl _ _⟩
  · by_cases he : ((s.extract (s.size - 9) s.size).toList == [32, 72, 84, 84, 80, 47, 49, 46, 49]) = true
    · have hsf := suffix_at h9 he
      have HS := Lib.hid hsf; clear hsf
      go_wp2
      go_loop [6] (fun i => ∃ k : Nat, i = .int .i64 k ∧ k ≤ s.size - 9 ∧ CutTo 32 (s.data.toList.take (s.size - 9)) k) (fun i => s.size - (intOf i).toNat)
      case atStart => exact ⟨0, rfl, by omega, cutTo_zero _ _⟩
      case round =>
        obtain ⟨k, rfl, hk, hC⟩ := hrel
        have HC := Lib.hid hC; clear hC
        by_cases hlt : k < s.size - 9
        · have hks : k < s.size := by omega
          by_cases h32 : (s[k].toNat : Int) = 32
          · have hc32 : s[k] = 32 := UInt8.toNat_inj.1 (by have : ((32 : UInt8).toNat : Int) = 32 := rfl; omega)
            have HC32 := Lib.hid hc32; clear hc32
            obtain ⟨b1, hb1⟩ : ∃ b1, methodB (s.extract 0 k).data.toList = b1 := ⟨_, rfl⟩
            obtain ⟨b2, hb2⟩ : ∃ b2, pathB (s.extract (k + 1) (s.size - 9)).data.toList = b2 := ⟨_, rfl⟩
            have CM : Hid (∀ W, Calls Tryz.prog 115 #[.string (s.extract 0 k)] W fun e w' => e = .returned (.bool b1) ∧ w' = W) := fun W => (rf_method _ W (by simp [maxLen]; omega)).mono fun _ _ ⟨h1, h2⟩ => ⟨hb1 ▸ h1, h2.symm⟩
            have CP : Hid (∀ W, Calls Tryz.prog 116 #[.string (s.extract (k + 1) (s.size - 9))] W fun e w' => e = .returned (.bool b2) ∧ w' = W) := fun W => (rf_path _ W (by simp [maxLen]; omega)).mono fun _ _ ⟨h1, h2⟩ => ⟨hb2 ▸ h1, h2.symm⟩
            have HB1 := Lib.hid hb1; clear hb1
            have HB2 := Lib.hid hb2; clear hb2
            have HG : Hid (FirstRet s (.returned (.tuple #[.string (s.extract 0 k), .string (s.extract (k + 1) (s.size - 9)), .bool (b1 && b2)]))) := first_got HS.out HC.out hlt HC32.out HB1.out HB2.out
            cases b1 with
            | true =>
              simp only [Bool.true_and] at HG
              go_wp2_with fail
              have f1 : IntKind.i64.wrap ((k : Int) + 1) = (k : Int) + 1 := IntWalk.i64_in _ (by omega)
              have f2 : ((k : Int) + 1).toNat = k + 1 := by omega
              have f3 : ((s.size : Int) - 9).toNat = s.size - 9 := by omega
              have f4 : (k : Int) + 1 ≤ (s.size : Int) - 9 := by omega
              have f5 : (s.size : Int) - 9 ≤ (s.size : Int) := by omega
              have f6 : (0 : Int) ≤ (k : Int) + 1 := by omega
              have f7 : (k : Int) ≤ (s.size : Int) := by omega
              go_quiet (first | (exact Calls.quiet_of_same (CM.out _)) | (exact Calls.quiet_of_same (CP.out _)))
              clear f1 f2 f3 f4 f5 f6 f7
              go_wp2_with fail
              go_ret3
              exact ⟨HG.out, bl_drew (Below.refl _ _) _⟩
            | false =>
              simp only [Bool.false_and] at HG
              go_wp2_with fail
              have f1 : IntKind.i64.wrap ((k : Int) + 1) = (k : Int) + 1 := IntWalk.i64_in _ (by omega)
              have f2 : ((k : Int) + 1).toNat = k + 1 := by omega
              have f3 : ((s.size : Int) - 9).toNat = s.size - 9 := by omega
              have f4 : (k : Int) + 1 ≤ (s.size : Int) - 9 := by omega
              have f5 : (s.size : Int) - 9 ≤ (s.size : Int) := by omega
              have f6 : (0 : Int) ≤ (k : Int) + 1 := by omega
              have f7 : (k : Int) ≤ (s.size : Int) := by omega
              go_quiet (first | (exact Calls.quiet_of_same (CM.out _)) | (exact Calls.quiet_of_same (CP.out _)))
              clear f1 f2 f3 f4 f5 f6 f7
              go_wp2_with fail
              go_ret3
              exact ⟨HG.out, bl_drew (Below.refl _ _) _⟩
          · go_wp2
            go_round
            case rel => exact ⟨k + 1, by go_num, by omega, cutTo_succ HC.out (by simp; omega) (by rw [List.getElem_take]; exact fun h => h32 (by rw [show s[k] = 32 from h]; rfl))⟩
            case measure => simp [intOf]; omega
        · obtain rfl : k = s.size - 9 := by omega
          have hf := first_none HC.out
          have HF := Lib.hid hf; clear hf
          go_wp2
          go_ret3
          exact ⟨firstRet_no HF.out _ _, Below.refl _ _⟩
    · have he' : ((s.extract (s.size - 9) s.size).toList == [32, 72, 84, 84, 80, 47, 49, 46, 49]) = false := by simpa using he
      have hf : firstLn s.data.toList = none := by unfold firstLn; rw [suffix_at h9 he']; rfl
      have HF := Lib.hid hf; clear hf
      go_wp2
      go_ret3
      exact ⟨firstRet_no HF.out _ _, Below.refl _ _⟩

def HeadRet (s : ByteArray) (en : Ending) : Prop := ∃ (n v : ByteArray) (ok : Bool), en = .returned (.tuple #[.agg #[.string n, .string v], .bool ok]) ∧
  headLn s.data.toList = (if ok then some (n.data.toList, v.data.toList) else none)
theorem head_got {s : ByteArray} {k : Nat} {b1 b2 : Bool} (hC : CutTo 58 s.data.toList k) (hk : k < s.size) (hc : s[k] = 58)
    (h1 : tokenB (s.extract 0 k).data.toList = b1) (h2 : valueB (s.extract (k + 1) s.size).data.toList = b2) {n v : ByteArray}
    (hn : (⟨(smallB (s.extract 0 k).data.toList).toArray⟩ : ByteArray) = n) (hv : (⟨(bareB (s.extract (k + 1) s.size).data.toList).toArray⟩ : ByteArray) = v) :
    HeadRet s (.returned (.tuple #[.agg #[.string n, .string v], .bool (b1 && b2)])) := by
  subst hn hv
  refine ⟨_, _, _, rfl, ?_⟩
  have hL : s.data.toList.length = s.size := by simp
  have hg := cutTo_got hC (by omega) (by exact hc)
  have e1 : s.data.toList.take k = (s.extract 0 k).data.toList := by
    rw [extract_list, List.drop_zero]; rfl
  have e2 : s.data.toList.drop (k + 1) = (s.extract (k + 1) s.size).data.toList := by
    rw [extract_list]; exact (List.take_of_length_le (by simp)).symm
  rw [e1, e2] at hg
  unfold headLn
  rw [hg]
  simp only [h1, h2]
theorem head_none {s : ByteArray} (hC : CutTo 58 s.data.toList s.size) : HeadRet s (.returned (.tuple #[.agg #[.string ⟨#[]⟩, .string ⟨#[]⟩], .bool false])) := by
  have hL : s.data.toList.length = s.size := by simp
  refine ⟨_, _, _, rfl, ?_⟩
  unfold headLn
  rw [cutTo_none hC (by omega)]
  rfl
theorem two_set {W : World} {R : Nat} {a b x y : Value} (h0 : W.cell? ⟨R, 0, none⟩ = some a) (h1 : W.cell? ⟨R, 1, none⟩ = some b) :
    ((W.setCell ⟨R, 0, none⟩ x).setCell ⟨R, 1, none⟩ y).cell? ⟨R, 0, none⟩ = some x ∧ ((W.setCell ⟨R, 0, none⟩ x).setCell ⟨R, 1, none⟩ y).cell? ⟨R, 1, none⟩ = some y ∧ (W.setCell ⟨R, 0, none⟩ x).cell? ⟨R, 0, none⟩ = some x := by
  refine ⟨?_, ?_, World.cell?_setCell_same _ _ _ h0⟩
  · rw [World.cell?_setCell_other _ _ _ _ (by simp)]; exact World.cell?_setCell_same _ _ _ h0
  · exact World.cell?_setCell_same _ _ _ ((World.cell?_setCell_other _ _ _ _ (by simp)).trans h1)
/-- The result's own cells, in a later world. -/
structure Has2 (w W : World) : Prop where
  below : Below w.heap.size w W
  lt : w.heap.size < W.heap.size
  c0 : W.cell? ⟨w.heap.size, 0, none⟩ = some (.string ⟨#[]⟩)
  c1 : W.cell? ⟨w.heap.size, 1, none⟩ = some (.string ⟨#[]⟩)
  fr : ∀ o, W.frozen? ⟨w.heap.size, o, none⟩ = false
theorem Has2.on {w W W' : World} (h : Has2 w W) (hb : Below W.heap.size W W') : Has2 w W' :=
  ⟨bl_trans h.below hb, by have := hb.size; have := h.lt; omega, (hb.cell (lt_of_cell h.c0)).trans h.c0, (hb.cell (lt_of_cell h.c1)).trans h.c1, fun o => (hb.frozen (p := ⟨w.heap.size, o, none⟩) h.lt).trans (h.fr o)⟩
set_option maxHeartbeats 1600000 in
theorem rf_header (s : ByteArray) (w : World) (hs : s.size ≤ 1000000000) :
    Calls Tryz.prog 91 #[.string s] w fun en w' => HeadRet s en ∧ Below w.heap.size w w' := by
  obtain ⟨Q, hQ⟩ : ∃ Q : Ending → World → Prop, Q = fun e w' => HeadRet s e ∧ Below w.heap.size w w' := ⟨_, rfl⟩
  rw [← hQ]
  have HF : Hid (∀ W e, HeadRet s e → Below w.heap.size w W → Q e W) := fun W e he hW => by rw [hQ]; exact ⟨he, hW⟩
  clear hQ
  go_enter Tryz.func91, Tryz.ntmps91
  go_wp2_with fail
  go_loop [4] (fun i => ∃ k : Nat, i = .int .i64 k ∧ k ≤ s.size ∧ CutTo 58 s.data.toList k) (fun i => s.size - (intOf i).toNat)
  case atStart => exact ⟨0, rfl, by omega, cutTo_zero _ _⟩
  case round =>
    obtain ⟨k, rfl, hk, hC⟩ := hrel
    have HC := Lib.hid hC; clear hC
    by_cases hlt : k < s.size
    · by_cases h58 : (s[k].toNat : Int) = 58
      · have hc58 : s[k] = 58 := UInt8.toNat_inj.1 (by have : ((58 : UInt8).toNat : Int) = 58 := rfl; omega)
        have HC58 := Lib.hid hc58; clear hc58
        obtain ⟨b1, hb1⟩ : ∃ b1, tokenB (s.extract 0 k).data.toList = b1 := ⟨_, rfl⟩
        obtain ⟨b2, hb2⟩ : ∃ b2, valueB (s.extract (k + 1) s.size).data.toList = b2 := ⟨_, rfl⟩
        obtain ⟨nm, hnm⟩ : ∃ nm : ByteArray, (⟨(smallB (s.extract 0 k).data.toList).toArray⟩ : ByteArray) = nm := ⟨_, rfl⟩
        obtain ⟨vl, hvl⟩ : ∃ vl : ByteArray, (⟨(bareB (s.extract (k + 1) s.size).data.toList).toArray⟩ : ByteArray) = vl := ⟨_, rfl⟩
        have HG : Hid (HeadRet s (.returned (.tuple #[.agg #[.string nm, .string vl], .bool (b1 && b2)]))) := head_got HC.out hlt HC58.out hb1 hb2 hnm hvl
        have CS : Hid (∀ W, Hid (Has2 w W) → Calls Tryz.prog 93 #[.string (s.extract 0 k)] W fun e w' => e = .returned (.string nm) ∧ Hid (Has2 w w')) := fun W hW => (rf_Small _ W (by simp; omega)).mono fun _ _ ⟨h1, h2⟩ => ⟨hnm ▸ h1, hW.out.on h2⟩
        have CB : Hid (∀ W, Hid (Has2 w W) → Calls Tryz.prog 117 #[.string (s.extract (k + 1) s.size)] W fun e w' => e = .returned (.string vl) ∧ Hid (Has2 w w')) := fun W hW => (rf_bare _ W (by simp [maxLen]; omega)).mono fun _ _ ⟨h1, h2⟩ => ⟨hvl ▸ h1, h2 ▸ hW⟩
        have CT : Hid (∀ W, Hid (Has2 w W) → Calls Tryz.prog 118 #[.string (s.extract 0 k)] W fun e w' => e = .returned (.bool b1) ∧ Hid (Has2 w w') ∧ w'.cell? ⟨w.heap.size, 0, none⟩ = some (.string ⟨#[]⟩) ∧ w'.cell? ⟨w.heap.size, 1, none⟩ = some (.string ⟨#[]⟩) ∧ w'.frozen? ⟨w.heap.size, 0, none⟩ = false ∧ w'.frozen? ⟨w.heap.size, 1, none⟩ = false) := fun W hW => (rf_Token _ W (by simp [maxLen]; omega)).mono fun _ _ ⟨h1, h2⟩ => ⟨hb1 ▸ h1, h2 ▸ hW, h2 ▸ hW.out.c0, h2 ▸ hW.out.c1, h2 ▸ hW.out.fr 0, h2 ▸ hW.out.fr 1⟩
        have CV : Hid (∀ W, Hid (Has2 w W) → Calls Tryz.prog 119 #[.string (s.extract (k + 1) s.size)] W fun e w' => e = .returned (.bool b2) ∧ Hid (Has2 w w') ∧ w'.cell? ⟨w.heap.size, 0, none⟩ = some (.string ⟨#[]⟩) ∧ w'.cell? ⟨w.heap.size, 1, none⟩ = some (.string ⟨#[]⟩) ∧ w'.frozen? ⟨w.heap.size, 0, none⟩ = false ∧ w'.frozen? ⟨w.heap.size, 1, none⟩ = false) := fun W hW => (rf_value _ W (by simp [maxLen]; omega)).mono fun _ _ ⟨h1, h2⟩ => ⟨hb2 ▸ h1, h2 ▸ hW, h2 ▸ hW.out.c0, h2 ▸ hW.out.c1, h2 ▸ hW.out.fr 0, h2 ▸ hW.out.fr 1⟩
        clear hb1 hb2 hnm hvl
        have HS0 : Hid (Has2 w (w.alloc (Obj.cells #[Value.string { data := #[] }, Value.string { data := #[] }] 88)).drew) := ⟨(bl_alloc (Below.refl _ _) _).drew, by simp [go_sem], by simp [go_sem], by simp [go_sem], fun o => by simp [go_sem]⟩
        have f1 : IntKind.i64.wrap ((k : Int) + 1) = (k : Int) + 1 := IntWalk.i64_in _ (by omega)
        have f2 : ((k : Int) + 1).toNat = k + 1 := by omega
        have f4 : (k : Int) + 1 ≤ (s.size : Int) := by omega
        have f6 : (0 : Int) ≤ (k : Int) + 1 := by omega
        have f7 : (k : Int) ≤ (s.size : Int) := by omega
        cases b1 with
        | true =>
          simp only [Bool.true_and] at HG
          go_wp2_with fail
          first | (go_region_law (first
            | (go_simp; go_at_call 93; refine (CS.out _ HS0).mono ?_; rintro e w1 ⟨rfl, HS1⟩)
            | (go_simp; go_at_call 117; refine (CB.out _ HS1).mono ?_; rintro e w2 ⟨rfl, HS2⟩)
            | (go_simp; go_at_call 118; refine (CT.out _ HS2).mono ?_; rintro e w3 ⟨rfl, HS3, c0, c1, z0, z1⟩)
            | (go_simp; go_at_call 119; clear c0 c1 z0 z1; refine (CV.out _ HS3).mono ?_; rintro e w4 ⟨rfl, HS4, c0, c1, z0, z1⟩))) | fail
          all_goals
            clear f1 f2 f4 f6 f7
            obtain ⟨x0, x1, x2⟩ := two_set (x := .string nm) (y := .string vl) c0 c1
            go_wp2_with fail
            refine bodyPost_ret (v := .tuple #[.agg #[.string nm, .string vl], .bool b2]) (by simp [results, Tryz.results91, go_sem, x0, x1, x2]) rfl ?_
            exact HF.out _ _ HG.out ((HS4.out.below.setCell (Nat.le_refl _) _).setCell (Nat.le_refl _) _)
        | false =>
          simp only [Bool.false_and] at HG
          go_wp2_with fail
          first | (go_region_law (first
            | (go_simp; go_at_call 93; refine (CS.out _ HS0).mono ?_; rintro e w1 ⟨rfl, HS1⟩)
            | (go_simp; go_at_call 117; refine (CB.out _ HS1).mono ?_; rintro e w2 ⟨rfl, HS2⟩)
            | (go_simp; go_at_call 118; refine (CT.out _ HS2).mono ?_; rintro e w3 ⟨rfl, HS3, c0, c1, z0, z1⟩))) | fail
          all_goals
            clear f1 f2 f4 f6 f7
            obtain ⟨x0, x1, x2⟩ := two_set (x := .string nm) (y := .string vl) c0 c1
            go_wp2_with fail
            refine bodyPost_ret (v := .tuple #[.agg #[.string nm, .string vl], .bool false]) (by simp [results, Tryz.results91, go_sem, x0, x1, x2]) rfl ?_
            exact HF.out _ _ HG.out ((HS3.out.below.setCell (Nat.le_refl _) _).setCell (Nat.le_refl _) _)
      · go_wp2_with fail
        go_round
        case rel => exact ⟨k + 1, by go_num, by omega, cutTo_succ HC.out (by simp; omega) (fun h => h58 (by rw [show s[k] = 58 from h]; rfl))⟩
        case measure => simp [intOf]; omega
    · obtain rfl : k = s.size := by omega
      go_wp2_with fail
      refine bodyPost_ret (v := .tuple #[.agg #[.string ⟨#[]⟩, .string ⟨#[]⟩], .bool false]) (by simp [results, Tryz.results91, go_sem]) rfl ?_
      exact HF.out _ _ (head_none HC.out) (bl_alloc (Below.refl _ _) _)
end Go.Proofs.YtnicmdlicbnlgaaGreatDoor
