/-
  Walks: the reference's all requests.
-/
import Derived.Test.YtnicmdlicbnlgaaGreatDoorRo
namespace Go.Proofs.YtnicmdlicbnlgaaGreatDoor
open Go.RowKit
set_option linter.unusedVariables false
set_option linter.unusedSimpArgs false

def RAllRel (w : World) (b : ByteArray) (v at' : Value) (wr : World) : Prop :=
  ∃ (a : Nat) (ts : List (Rq × Value)), at' = .int .i64 a ∧ a ≤ b.size ∧ Hid (ToldAt wr v ts ∧ (∀ g, v.ownBlock = some g → w.heap.size ≤ g) ∧ (∀ x ∈ ts, ∀ g, x.2.ownBlock = some g → w.heap.size ≤ g) ∧ allP b.data.toList = (ts.map Prod.fst ++ (allP (b.data.toList.drop a)).1, (allP (b.data.toList.drop a)).2) ∧ Below w.heap.size w wr)
/-- What the reference's reading of all bytes leaves; all of it is new. -/
def RAllPost (w : World) (b : List UInt8) (en : Ending) (w' : World) : Prop :=
  ∃ (v : Value) (ts : List (Rq × Value)), en = .returned (.tuple #[v, .int .i64 ((b.length : Int) - (allP b).2.1.length), .int .i64 (allP b).2.2]) ∧ ToldAt w' v ts ∧ ts.map Prod.fst = (allP b).1 ∧ Below w.heap.size w w' ∧
    (∀ g, v.ownBlock = some g → w.heap.size ≤ g) ∧ (∀ x ∈ ts, ∀ g, x.2.ownBlock = some g → w.heap.size ≤ g)
set_option maxRecDepth 100000 in
set_option maxHeartbeats 3200000 in
theorem rf_AllB (b : ByteArray) (w : World) (hs : b.size ≤ 1000000) :
    Calls Tryz.prog 15 #[.string b] w (RAllPost w b.data.toList) := by
  obtain ⟨i0, hi, hz0, hz1, hz2⟩ := info_parts info_req
  have HST : Hid (RAllRel w b (.slice none 0 0) (.int .i64 0) w) := ⟨0, [], rfl, Nat.zero_le _, ⟨World.ownsRow_nil _ _ _ _, fun x hx => by cases hx⟩, fun g hg => by simp [Value.ownBlock] at hg, fun x hx => (by cases hx), by simp, Below.refl _ _⟩
  generalize hQ : RAllPost w b.data.toList = Q
  have HQ := Lib.hid hQ; clear hQ
  have HO : Hid (∀ (k : Nat) W, k ≤ b.size → Calls Tryz.prog 40 #[.string b, .int .i64 k] W (OnePost W b k)) := fun k W hk => rf_One b k W hs hk
  go_enter Tryz.func15, Tryz.ntmps15
  go_wp2_with fail
  go_loopw [5, 6] (fun v i wr => RAllRel w b v i wr) (fun _ i _ => b.size - (intOf i).toNat)
  case atStart => exact HST.out
  case round =>
    obtain ⟨a, ts, rfl, ha, HI⟩ := hrel
    go_wp2_with fail
    refine (HO.out a _ ha).mono ?_
    rintro en w2 ⟨q, A, n, c, nx, e, rfl, ht, ho, hb2⟩
    have hT2 := HI.out.1.below hb2
    have hB2 := bl_trans HI.out.2.2.2.2 hb2
    unfold rqVal
    rcases ht with ⟨rfl, nx', rfl, hnx, hd⟩ | ⟨rfl, s', b', hd⟩ | ⟨he, hd⟩
    · have ho' := ho rfl
      have hA := all_done hd
      have hlt := done_lt hd
      have hnx' : nx' ≤ b.size := by simpa using hnx
      have hlt2 : a < nx' := by
        rw [List.length_drop, List.length_drop] at hlt
        simp at hlt
        omega
      have hown0 : ∀ g, (Value.slice A n c).ownBlock = some g → wr.heap.size ≤ g := fun g hg => (ho'.lt g hg).1
      have hn : n = q.hs.length := by
        rcases ho'.2 with ⟨h1, h2⟩ | ⟨g, cap, cur, h1, _⟩
        · cases h1; exact h2.symm
        · cases h1; rfl
      have hAll : allP b.data.toList = ((ts ++ [(q, Value.slice A n c)]).map Prod.fst ++ (allP (b.data.toList.drop nx')).1, (allP (b.data.toList.drop nx')).2) := by
        rw [HI.out.2.2.2.1, hA]; simp
      have hlen : ts.length ≤ 1000000 := by
        have h1 := (all_len b.data.toList).2
        have h2 := congrArg (fun x => x.1.length) hAll
        simp at h2
        simp at h1
        omega
      have HBS : Hid (∀ g, u5.ownBlock = some g → w.heap.size ≤ g) := HI.out.2.1
      have HBT : Hid (∀ x ∈ ts, ∀ g, x.2.ownBlock = some g → w.heap.size ≤ g) := HI.out.2.2.1
      have HBR : Hid (w.heap.size ≤ wr.heap.size) := HI.out.2.2.2.2.size
      have hH : w2.ownsRow 0 88 2 (.slice A n c) q.hs.length (headCells q.hs) := own_base ho' fun g _ => Nat.zero_le _
      have HH := Lib.hid hH
      have HT2 := Lib.hid hT2
      have HB2 := Lib.hid hB2
      have HALL := Lib.hid hAll
      have HLEN := Lib.hid hlen
      have HOWN0 := Lib.hid hown0
      clear hH hT2 hB2 hAll hlen hown0 ho ho' hA hlt hd hnx hb2 hn
      go_wp2_with (at_builtin; refine wpList_append_any _ rfl (.tmp 26) (.tmp 28) 28 rfl 0 33 i0 _ 5 80 Tryz.underlying28 hi hz0 hz1 hz2 rfl (by decide) u5 ts.length (toldCells ts) rfl ((HT2.out.1.alloc _).alloc _) _ (some ⟨w2.heap.size + 1, 0, none⟩) 1 1 (toldCells [(q, Value.slice A n c)]) rfl (reads_new5 _ _ _ _ _ _ _) (five_cells _ _ _ _) (by have := HLEN.out; simp only [maxLen]; omega) (by have := HLEN.out; omega) (Nat.zero_le _) ?_)
      intro v' w' hown hgrow hat
      have HN : Hid (RAllRel w b v' (.int .i64 nx') w') := by
        refine ⟨nx', ts ++ [(q, Value.slice A n c)], rfl, hnx', ⟨?_, ?_, ?_, HALL.out, ?_⟩⟩
        · refine ⟨by rw [List.length_append, List.length_singleton, toldCells_append]; exact hown, fun x hx => ?_⟩
          have hx2 : ((w2.alloc (Obj.cells #[.string q.m, .string q.p, .slice A n c, .string q.body, .bool q.close] 33)).alloc (Obj.cells #[.string q.m, .string q.p, .slice A n c, .string q.body, .bool q.close] 33)).ownsRow 0 88 2 x.2 x.1.hs.length (headCells x.1.hs) := by
            rcases List.mem_append.1 hx with h1 | h1
            · exact ((HT2.out.2 x h1).alloc _).alloc _
            · rw [List.mem_singleton] at h1
              subst h1
              exact (HH.out.alloc _).alloc _
          exact own_keep hx2 fun g hg => hgrow.block g (hx2.lt g hg).2 (fun e => own_ne hx2 ((HT2.out.1.alloc _).alloc _) (by decide) hg e.symm)
        · intro g hg
          rcases hat with h1 | h1
          · exact HBS.out g (h1 ▸ hg)
          · rw [h1] at hg
            cases hg
            have := HB2.out.size
            omega
        · intro x hx g hg
          rcases List.mem_append.1 hx with h1 | h1
          · exact HBT.out x h1 g hg
          · rw [List.mem_singleton] at h1
            subst h1
            exact Nat.le_trans HBR.out (HOWN0.out g hg)
        · have h1 : Below w.heap.size w ((w2.alloc (Obj.cells #[.string q.m, .string q.p, .slice A n c, .string q.body, .bool q.close] 33)).alloc (Obj.cells #[.string q.m, .string q.p, .slice A n c, .string q.body, .bool q.close] 33)) := bl_alloc (bl_alloc HB2.out _) _
          exact h1.grown hgrow h1.size (fun k hk => HBS.out k hk)
      clear hown hgrow hat HI HALL
      go_wp2_with fail
      go_roundw
      case rel => exact HN.out
      case measure => simp [intOf]; omega
    · have hA := all_wait hd
      have HF : Hid (∀ W, Below w2.heap.size w2 W → Q (.returned (.tuple #[u5, .int .i64 a, .int .i64 0])) W) := fun W hW => by
        rw [← HQ.out]
        refine ⟨u5, ts, ?_, hT2.below hW, ?_, hB2.trans (hW.mono hB2.size), HI.out.2.1, HI.out.2.2.1⟩
        · rw [HI.out.2.2.2.1, hA]
          simp only [List.length_drop]
          have : b.data.toList.length = b.size := by simp
          rw [show ((b.data.toList.length : Int) - (b.data.toList.length - a : Nat)) = a by omega]
        · rw [HI.out.2.2.2.1, hA]; simp
      clear hT2 hB2 hA hd hb2 ho
      go_wp2_with fail
      go_ret3
      exact HF.out _ (bl_alloc (Below.refl _ _) _)
    · have hA := all_refuse hd
      have HF : Hid (∀ W, Below w2.heap.size w2 W → Q (.returned (.tuple #[u5, .int .i64 a, .int .i64 e])) W) := fun W hW => by
        rw [← HQ.out]
        refine ⟨u5, ts, ?_, hT2.below hW, ?_, hB2.trans (hW.mono hB2.size), HI.out.2.1, HI.out.2.2.1⟩
        · rw [HI.out.2.2.2.1, hA]
          simp only [List.length_drop]
          have : b.data.toList.length = b.size := by simp
          rw [show ((b.data.toList.length : Int) - (b.data.toList.length - a : Nat)) = a by omega]
        · rw [HI.out.2.2.2.1, hA]; simp
      have hne : ¬ e = -1 := by omega
      have hne0 : ¬ e = 0 := by omega
      clear hT2 hB2 hA hd hb2 ho
      go_wp2_with fail
      go_ret3
      exact HF.out _ (bl_alloc (Below.refl _ _) _)
theorem rf_All (b : ByteArray) (w : World) (hs : b.size ≤ 1000000) :
    Calls Tryz.prog 15 #[.string b] w (AllPost w b.data.toList) :=
  (rf_AllB b w hs).mono fun _ _ ⟨v, ts, h1, h2, h3, h4, _⟩ => ⟨v, ts, h1, h2, h3, h4⟩
end Go.Proofs.YtnicmdlicbnlgaaGreatDoor
