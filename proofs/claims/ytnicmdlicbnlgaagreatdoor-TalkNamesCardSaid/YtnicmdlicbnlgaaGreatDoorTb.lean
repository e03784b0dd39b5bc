/-
  Walks: the builder inside a connection.
-/
import Derived.Test.YtnicmdlicbnlgaaGreatDoorTn
import Derived.Lib.Builder
import Derived.Lib.UnsafeStr
import Derived.Lib.AppendStr
namespace Go.Proofs.YtnicmdlicbnlgaaGreatDoor
open Go.RowKit
set_option linter.unusedVariables false
set_option linter.unusedSimpArgs false

theorem own_bat {w : World} {base : Nat} {v : Value} {l : List UInt8} (h : w.ownsRow base 5 1 v l.length (u8s l)) : BAt w true v l := by
  rcases h.2 with ⟨rfl, h0⟩ | ⟨g, cap, cur, rfl, _, hg, hc, hm, hs, ht⟩
  · obtain rfl : l = [] := List.eq_nil_of_length_eq_zero h0
    exact BAt.nil _ _
  · refine ⟨some ⟨g, 0, none⟩, cap, rfl, hc, hm, (fun e => by cases e), fun ad had => ?_⟩
    cases had
    exact ⟨g, 0, cur, (0, 0), rfl, hg, by omega, by simpa [u8s] using ht, fun _ => rfl⟩
/-- Text is written behind what a slice of bytes owns. -/
theorem run_write {P : Program} (w : World) (t u ty : TypeId) (i : TypeInfo) (ht : P.underlying t = some (.slice 5)) (hu : P.underlying u = some .string) (hi : P.info? 5 = some i) (hz : i.zero = some (.int .u8 0)) (hsize : i.size = 1) (hby : i.bytes = 1)
    {v : Value} {l : List UInt8} (h : w.ownsRow 0 5 1 v l.length (u8s l)) (x : ByteArray) (h63 : l.length + x.size ≤ 1000000000000) :
    ∃ v' w', (Builtin.append_ #[t, u] ty #[v, .string x]).run P w = .ok v' w' ∧ w'.ownsRow 0 5 1 v' (l ++ x.data.toList).length (u8s (l ++ x.data.toList)) ∧ w.grownBy w' v.ownBlock ∧ (v'.ownBlock = v.ownBlock ∨ v'.ownBlock = some w.heap.size) ∧ (v' = .slice none 0 0 ↔ v = .slice none 0 0 ∧ x.size = 0) := by
  obtain ⟨v', w', hr, o1, o2, o3⟩ := Lib.run_append_own_string (P := P) w 0 t u ty 5 i ht hu hi hz hsize hby v l.length (u8s l) h x (by simp only [maxLen]; omega) (by omega) (Nat.zero_le _)
  obtain ⟨v2, w2, hr2, _, _, hat⟩ := run_feed (P := P) w t u ty i ht hu hi hz hsize hby (own_bat h) x h63
  rw [hr] at hr2
  injection hr2 with e1 e2
  subst e1
  refine ⟨v', w', hr, ?_, o2, hat, o3⟩
  have e3 : u8s l ++ Lib.strCells x = u8s (l ++ x.data.toList) := by rw [u8s_append]; rfl
  have e4 : l.length + x.size = (l ++ x.data.toList).length := by simp
  rw [← e3, ← e4]
  exact o1
theorem wpList_write {P : Program} {ops : Array Oper} {rest : List Oper} {o : Oper} {a : Act} {w : World} {Q : Exit → Act → World → Prop} (hgd : o.guard = none) (sl x : Operand) (t u : TypeId)
    (ho : o.op = .call { callee := .builtin .append, args := #[sl, x], argTypes := #[t, u] }) (i : TypeInfo) (ht : P.underlying t = some (.slice 5)) (hu : P.underlying u = some .string) (hi : P.info? 5 = some i) (hz : i.zero = some (.int .u8 0))
    (hsize : i.size = 1) (hby : i.bytes = 1) (v : Value) (l : List UInt8) (hs : a.eval sl = v) (hown : w.ownsRow 0 5 1 v l.length (u8s l)) (s : ByteArray) (hx : a.eval x = .string s) (h63 : l.length + s.size ≤ 1000000000000)
    (h : ∀ v' w', w'.ownsRow 0 5 1 v' (l ++ s.data.toList).length (u8s (l ++ s.data.toList)) → w.grownBy w' v.ownBlock → (v'.ownBlock = v.ownBlock ∨ v'.ownBlock = some w.heap.size) → (v' = .slice none 0 0 ↔ v = .slice none 0 0 ∧ s.size = 0) → wpList P ops Q rest (a.put o.dst v') w') : wpList P ops Q (o :: rest) a w := by
  refine wpList_plain hgd fun K hK => ?_
  obtain ⟨v', w', hr, h2, h3, h4, h5⟩ := run_write (P := P) w t u o.type i ht hu hi hz hsize hby hown s h63
  unfold Oper.wp execOp
  simp only [ho, resolve, invoke, builtin, Sem.run_bind, Sem.run_pure, Result.andThen_ok, List.map_toArray, List.map_cons, List.map_nil, hs, hx, hr]
  exact hK _ _ (h v' w' h2 h3 h4 h5)

/-! ### copyCheck -/
theorem info_builder : (Tryz.prog.info? 64).map (·.size) = some 2 := by kernel_rfl
theorem lies_builder : liesAt Tryz.prog Tryz.prog.depth 66 (6 / Tryz.prog.cellsOf 66) 3 64 1 = true := by kernel_rfl
def Checked (w : World) (T : Nat) (pv : Value) (e : Ending) (w' : World) : Prop :=
  e = .returned (.tuple #[]) ∧ (pv = .pointer none ∧ w' = w.setCell ⟨T, 3, none⟩ (.pointer (some ⟨T, 3, none⟩)) ∨ pv = .pointer (some ⟨T, 3, none⟩) ∧ w' = w)
set_option maxRecDepth 100000 in
set_option maxHeartbeats 1600000 in
theorem bd_check {w : World} {T : Nat} {c0 c1 c2 c4 c5 pv : Value} (h : Blk w T 66 #[c0, c1, c2, pv, c4, c5]) (hp : pv = .pointer none ∨ pv = .pointer (some ⟨T, 3, none⟩)) :
    Calls Tryz.prog 85 #[.pointer (some ⟨T, 3, none⟩)] w (Checked w T pv) := by
  obtain ⟨j, hj, hjs⟩ := Option.map_eq_some_iff.1 info_builder
  have k3 : w.cell? ⟨T, 3, none⟩ = some pv := h.cell 3
  have f3 := h.frozen 3
  have hsh : w.shape? T = some (66, 6) := by unfold Blk at h; simp [World.shape?, h]
  have hoff : (⟨T, 3, none⟩ : Addr).off < 6 := (show 3 < 6 by decide)
  rcases hp with rfl | rfl
  · go_enter Tryz.func85, Tryz.ntmps85
    go_wp2
    rw [Lib.run_to_unsafe w ⟨T, 3, none⟩ Tryz.underlying62 Tryz.underlying152 hj (by rw [hjs]; decide) hsh hoff]
    simp only [Result.andThen]
    rw [Oper.upon_value]
    go_wp2
    rw [run_callFunc_extern Tryz.func114 (by kernel_rfl) (by kernel_rfl) (by kernel_rfl) (e := Extern.AbiNoEscape.same) (by kernel_rfl)]
    rw [Lib.run_noEscape]
    simp only [Result.andThen]
    rw [Oper.upon_value]
    go_wp2
    rw [Lib.run_from_unsafe w ⟨T, 3, none⟩ Tryz.underlying152 Tryz.underlying62 hj hsh lies_builder]
    simp only [Result.andThen]
    rw [Oper.upon_value]
    go_wp2
    go_end0
    exact ⟨rfl, .inl ⟨rfl, rfl⟩⟩
  · go_enter Tryz.func85, Tryz.ntmps85
    go_wp2
    rw [Lib.run_neq_ptr_same w _ Tryz.underlying62 hj]
    go_wp2
    go_end0
    exact ⟨rfl, .inr ⟨rfl, rfl⟩⟩
/-! ### the connection, where its text turned -/
theorem NxAt.grown {ok ok' : Nat → Prop} {w w' : World} {v bv : Value} {n : Nat} {xs : List Value} {o : Option (Rq × Int)} (h : NxAt ok w v o) (hb : w.ownsRow 0 5 1 bv n xs) (hk : ∀ g, g < w.heap.size → bv.ownBlock ≠ some g → w'.heap[g]? = w.heap[g]?) (hok : ∀ g, ok g → ok' g) : NxAt ok' w' v o := by
  match o, h with
  | none, h => exact h
  | some (q, c), ⟨A, hv, h1, h2, h3, h4, h5⟩ =>
    exact ⟨A, hv, h1, (hk A h2.lt (own_blk hb h2 (by decide))).trans h2, own_keep h3 fun g hg => hk g (h3.lt g hg).2 (own_ne h3 hb (by decide) hg), hok A h4, fun g hg => hok g (h5 g hg)⟩
section
variable {N : Nat} {S fp : Nat → Prop} {w w' : World} {T R : Nat} {va vw pv bv : Value} {ah wait : Option (Rq × Int)} {F : List UInt8} {told : List Rq} {out : List UInt8} {over : Bool}
theorem TalkIn.wrote (h : TalkIn N S fp w T R va vw pv bv ah wait F told out over) {v' : Value} {out' : List UInt8} (ho : w'.ownsRow 0 5 1 v' out'.length (u8s out')) (hk : ∀ g, g < w.heap.size → bv.ownBlock ≠ some g → w'.heap[g]? = w.heap[g]?) (hsz : w.heap.size ≤ w'.heap.size)
    (hat : ∀ g, v'.ownBlock = some g → bv.ownBlock = some g ∨ w.heap.size ≤ g) (hz : out' = [] → v' = .slice none 0 0) : TalkIn N S (fun g => fp g ∧ g < w.heap.size) (w'.setCell ⟨T, 4, none⟩ v') T R va vw pv v' ah wait F told out' over := by
  have hs : ∀ g, g ≠ T → (w'.setCell ⟨T, 4, none⟩ v').heap[g]? = w'.heap[g]? := fun g hg => Below.heap_setCell _ _ _ _ hg
  have hT : Blk w' T 66 #[.pointer (some ⟨R, 0, none⟩), va, vw, pv, bv, .bool over] := (hk T h.blk.lt (own_blk h.buf h.blk (by decide))).trans h.blk
  have hlow := h.low
  refine ⟨h.tight.tell.keep (fun g hg hl => (hs g fun e => h.tn (show fp T from (show g = T from e) ▸ hg.1)).trans (hk g hl fun e => (h.bn g e).1 hg.1)) (by rw [size_set]; exact hsz), hT.set_ 4 v',
    ((h.ahead.grown h.buf hk) fun g hg => ⟨fun h1 => hg.1 h1.1, hg.2⟩).setT hT 4 v', ((h.waits.grown h.buf hk) fun g hg => ⟨fun h1 => hg.1 h1.1, hg.2⟩).setT hT 4 v', fun h1 => h.tn h1.1, h.ts, fun g hg => h.fs g hg.1, h.addr,
    own_keep ho fun g hg => hs g fun e => own_blk ho hT (by decide) ((show g = T from e) ▸ hg), fun g hg => ?_, hz, by rw [size_set]; omega⟩
  rcases hat g hg with e | e
  · exact ⟨fun h1 => (h.bn g e).1 h1.1, (h.bn g e).2⟩
  · exact ⟨fun h1 => by have := h1.2; omega, .inr (by omega)⟩
end
def WrPost (N : Nat) (S : Nat → Prop) (w : World) (T R : Nat) (va vw : Value) (ah wait : Option (Rq × Int)) (F : List UInt8) (told : List Rq) (out : List UInt8) (over : Bool) (n : Nat) (e : Ending) (w' : World) : Prop :=
  e = .returned (.tuple #[.int .i64 n, .nilIface]) ∧ Turned N S w w' ∧ ∃ fp bv', TalkIn N S fp w' T R va vw (.pointer (some ⟨T, 3, none⟩)) bv' ah wait F told out over
set_option maxRecDepth 100000 in
set_option maxHeartbeats 1600000 in
theorem tk_write (N : Nat) (S fp : Nat → Prop) (w : World) (T R : Nat) (va vw pv bv : Value) (ah wait : Option (Rq × Int)) (F : List UInt8) (told : List Rq) (out : List UInt8) (over : Bool) (x : ByteArray) (h : TalkIn N S fp w T R va vw pv bv ah wait F told out over) (hl : out.length + x.size ≤ 1000000000000) :
    Calls Tryz.prog 56 #[.pointer (some ⟨T, 3, none⟩), .string x] w (WrPost N S w T R va vw ah wait F told (out ++ x.data.toList) over x.size) := by
  obtain ⟨i0, hi, hz0, hz1, hz2⟩ := info_parts info_u8
  have HC := Lib.hid (bd_check h.blk h.addr)
  have HQ : Hid (∀ W, Checked w T pv (.returned (.tuple #[])) W → Turned N S w W ∧ TalkIn N S fp W T R va vw (.pointer (some ⟨T, 3, none⟩)) bv ah wait F told out over) := fun W hW => by
    rcases hW with ⟨_, ⟨hp, rfl⟩ | ⟨hp, rfl⟩⟩
    · exact ⟨h.turnT (Turned.refl _ _ _) 3 _, h.setAddr (.inr rfl)⟩
    · exact ⟨Turned.refl _ _ _, hp ▸ h⟩
  have HP : Hid (∀ W, Turned N S w W → (∃ fp bv', TalkIn N S fp W T R va vw (.pointer (some ⟨T, 3, none⟩)) bv' ah wait F told (out ++ x.data.toList) over) → WrPost N S w T R va vw ah wait F told (out ++ x.data.toList) over x.size (.returned (.tuple #[.int .i64 x.size, .nilIface])) W) := fun W h1 h2 => ⟨rfl, h1, h2⟩
  generalize WrPost N S w T R va vw ah wait F told (out ++ x.data.toList) over x.size = Q at HP ⊢
  clear h
  go_enter Tryz.func56, Tryz.ntmps56
  go_wp2_with fail
  refine HC.out.mono ?_
  rintro en w1 hc
  obtain rfl : en = .returned (.tuple #[]) := hc.1
  obtain ⟨hT1, h1⟩ := HQ.out w1 hc
  have k4 : w1.cell? ⟨T, 4, none⟩ = some bv := h1.blk.cell 4
  have HT1 := Lib.hid hT1
  have H1 := Lib.hid h1
  clear hc hT1 h1
  go_wp2_with (at_builtin; refine wpList_write rfl (.tmp 12) (.tmp 13) 48 9 rfl i0 Tryz.underlying48 Tryz.underlying9 hi hz0 hz1 hz2 bv out rfl H1.out.buf x rfl hl ?_)
  intro v' w2 q1 q2 q3 q4
  rw [show out.length + x.size = (out ++ x.data.toList).length by simp] at q1
  have hbt : bv.ownBlock ≠ some T := own_blk H1.out.buf H1.out.blk (by decide)
  have hb2 : Blk w2 T 66 #[.pointer (some ⟨R, 0, none⟩), va, vw, .pointer (some ⟨T, 3, none⟩), bv, .bool over] := (q2.block T H1.out.blk.lt (fun e => hbt e.symm)).trans H1.out.blk
  have HFIN : Hid (Q (.returned (.tuple #[.int .i64 x.size, .nilIface])) (w2.setCell ⟨T, 4, none⟩ v')) := by
    refine HP.out _ ?_ ⟨_, v', H1.out.wrote q1 (fun g hl hne => q2.block g hl (fun e => hne e.symm)) q2.size (fun g hg => ?_) (fun ho => ?_)⟩
    · exact (HT1.out.grown q2 H1.out.low (fun g hg => (H1.out.bn g hg).2)).set_ (a := ⟨T, 4, none⟩) H1.out.ts _
    · rcases q3 with e | e
      · exact .inl (e ▸ hg)
      · rw [e] at hg
        cases hg
        exact .inr (Nat.le_refl _)
    · have h1 := List.append_eq_nil_iff.1 ho
      refine q4.2 ⟨H1.out.bz h1.1, ?_⟩
      have := congrArg List.length h1.2
      simpa using this
  obtain ⟨X', c', rfl⟩ := own_slice q1
  rw [show (out ++ x.data.toList).length = out.length + x.size by simp] at HFIN
  have k4' : w2.cell? ⟨T, 4, none⟩ = some bv := hb2.cell 4
  have f4' := hb2.frozen 4
  have hlt2 : T < w2.heap.size := hb2.lt
  clear q1 q2 q3 q4 hbt hb2 k4
  go_wp2_with fail
  exact HFIN.out
/-! ### what was written, as text -/
theorem freeze_other (w : World) (p : Addr) (n k : Nat) (hk : k ≠ p.block) : (w.freeze p n).heap[k]? = w.heap[k]? := by
  unfold World.freeze
  split
  · rfl
  · simp only [Array.getElem?_modify]
    rw [if_neg (fun e => hk e.symm)]
theorem freeze_size (w : World) (p : Addr) (n : Nat) : (w.freeze p n).heap.size = w.heap.size := by
  unfold World.freeze
  split <;> simp
theorem freeze_rest (w : World) (p : Addr) (n : Nat) : (w.freeze p n).os = w.os ∧ (w.freeze p n).tape = w.tape ∧ (w.freeze p n).output = w.output := by
  unfold World.freeze
  split <;> exact ⟨rfl, rfl, rfl⟩
theorem cells_u8 : Tryz.prog.cellsOf 5 = 1 := by kernel_rfl
def StrPost (w : World) (bv : Value) (out : List UInt8) (e : Ending) (w' : World) : Prop := e = .returned (.string ⟨out.toArray⟩) ∧ Turned w.heap.size (fun g => bv.ownBlock = some g) w w'
set_option maxRecDepth 100000 in
set_option maxHeartbeats 1600000 in
theorem bd_string {w : World} {T : Nat} {c0 c1 c2 c5 pv bv : Value} {out : List UInt8} (h : Blk w T 66 #[c0, c1, c2, pv, bv, c5]) (hb : w.ownsRow 0 5 1 bv out.length (u8s out)) (hz : out = [] → bv = .slice none 0 0) :
    Calls Tryz.prog 57 #[.pointer (some ⟨T, 3, none⟩)] w (StrPost w bv out) := by
  have k4 : w.drew.cell? ⟨T, 4, none⟩ = some bv := h.cell 4
  by_cases h0 : out = []
  · obtain rfl := hz h0
    subst h0
    have hSD : (Builtin.unsafeSliceData_ #[48] 129 #[.slice none 0 0]).run Tryz.prog w.drew = .ok (.pointer none) w.drew := rfl
    have hUS := Lib.run_unsafeString_none (P := Tryz.prog) (w := w.drew) 129 3 9 none
    have HP : Hid (StrPost w (.slice none 0 0) [] (.returned (.string .empty)) w.drew) := ⟨rfl, rfl, rfl, rfl, Nat.le_refl _, fun _ _ _ => rfl⟩
    generalize StrPost w (.slice none 0 0) [] = Q at HP ⊢
    clear h hb hz
    go_enter Tryz.func57, Tryz.ntmps57
    go_wp2_with fail
    go_region
    all_goals (go_wp2_with fail; exact HP.out)
  · have hl0 : out.length ≠ 0 := by simpa using h0
    rcases hb.2 with ⟨_, hz2⟩ | ⟨g, cap, cur, rfl, _, hg, hnc, hcm, hcs, htake⟩
    · exact absurd hz2 hl0
    · have hSD : (Builtin.unsafeSliceData_ #[48] 129 #[.slice (some ⟨g, 0, none⟩) out.length cap]).run Tryz.prog w.drew = .ok (.pointer (some ⟨g, 0, none⟩)) w.drew :=
        Lib.run_unsafeSliceData_row _ _ _ _ _ _ (by omega)
      have hUS : (Builtin.unsafeString_ #[129, 3] 9 #[.pointer (some ⟨g, 0, none⟩), .int .i64 out.length]).run Tryz.prog w.drew = .ok (.string ⟨out.toArray⟩) (w.drew.freeze ⟨g, 0, none⟩ out.length) := by
        refine Lib.run_unsafeString_row w.drew 129 3 9 5 Tryz.underlying129 cells_u8 g cur.size (by have hg' : w.drew.heap[g]? = some (.cells cur 5 (0, 0)) := hg; simp [World.shape?, hg']) out h0 (by omega) (by unfold maxLen at hcm; omega) ?_
        intro j x hx
        exact hb.cells (g := g) rfl j (.int .u8 x.toNat) (by simp [u8s, hx])
      have HP : Hid (StrPost w (.slice (some ⟨g, 0, none⟩) out.length cap) out (.returned (.string ⟨out.toArray⟩)) (w.drew.freeze ⟨g, 0, none⟩ out.length)) :=
        ⟨rfl, (freeze_rest _ _ _).1, (freeze_rest _ _ _).2.1, (freeze_rest _ _ _).2.2, by rw [freeze_size]; exact Nat.le_refl _, fun k _ hk => (freeze_other _ _ _ _ (fun e => hk (by rw [show k = g from e]; rfl))).trans rfl⟩
      generalize StrPost w (.slice (some ⟨g, 0, none⟩) out.length cap) out = Q at HP ⊢
      have HL := Lib.hid hl0
      clear h hb hz h0 hl0 hg hcs htake hnc
      go_enter Tryz.func57, Tryz.ntmps57
      go_wp2_with fail
      go_region
      all_goals (go_wp2_with fail; exact HP.out)
theorem bd_reset {w : World} {T : Nat} {c0 c1 c2 c5 pv bv : Value} (h : Blk w T 66 #[c0, c1, c2, pv, bv, c5]) :
    Calls Tryz.prog 58 #[.pointer (some ⟨T, 3, none⟩)] w fun e w' => e = .returned (.tuple #[]) ∧ w' = (w.setCell ⟨T, 3, none⟩ (.pointer none)).setCell ⟨T, 4, none⟩ (.slice none 0 0) := by
  have k3 : w.cell? ⟨T, 3, none⟩ = some pv := h.cell 3
  have k4 : w.cell? ⟨T, 4, none⟩ = some bv := h.cell 4
  have f3 := h.frozen 3
  have f4 := h.frozen 4
  have hlt : T < w.heap.size := h.lt
  clear h
  go_enter Tryz.func58, Tryz.ntmps58
  go_wp2_with fail
  go_end0
  exact ⟨rfl, rfl⟩
end Go.Proofs.YtnicmdlicbnlgaaGreatDoor
