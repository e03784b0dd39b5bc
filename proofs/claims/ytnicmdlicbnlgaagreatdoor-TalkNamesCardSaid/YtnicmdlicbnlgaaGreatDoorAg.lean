/-
  A reader with the list of what it has told: what is fed, what is told, step by step.
-/
import Derived.Test.YtnicmdlicbnlgaaGreatDoorFe
import Derived.Test.YtnicmdlicbnlgaaGreatDoorLm
namespace Go.Proofs.YtnicmdlicbnlgaaGreatDoor
open Go.RowKit
set_option linter.unusedVariables false
set_option linter.unusedSimpArgs false

theorem tell_idem {s s' : RS} {b b' : List UInt8} (h : tellP s b = .wait s' b') : tellP s' b' = .wait s' b' := by
  induction s, b using tellP.induct with
  | case1 s b h1 => rw [tell_wait h1] at h; cases h; exact tell_wait h1
  | case2 s b e h1 => rw [tell_fail h1] at h; cases h
  | case3 s b q1 r1 h1 => rw [tell_whole h1] at h; cases h
  | case4 s b s1 r1 h1 ih => rw [tell_on h1] at h; exact ih h
/-- The reader has been fed F and has told 'told'. -/
def Story (F : List UInt8) (told : List Rq) (s : RS) (b : List UInt8) (wrong : Int) : Prop :=
  (wrong = 0 ∧ s.wf ∧ ∃ x, tellP RS.init x = tellP s b ∧ ∀ c, allP (F ++ c) = (told ++ (allP (x ++ c)).1, (allP (x ++ c)).2)) ∨
  (¬ wrong = 0 ∧ ∀ c, (allP (F ++ c)).1 = told ∧ (allP (F ++ c)).2.2 = wrong)
theorem Story.start : Story [] [] RS.init [] 0 := .inl ⟨rfl, wf_init, [], rfl, fun c => by simp⟩
theorem Story.feed {F : List UInt8} {told : List Rq} {s : RS} {b : List UInt8} {wrong : Int} (h : Story F told s b wrong) (c : List UInt8) : Story (F ++ c) told s (b ++ c) wrong := by
  rcases h with ⟨h1, h2, x, h3, h4⟩ | ⟨h1, h2⟩
  · refine .inl ⟨h1, h2, x ++ c, by rw [tell_more, h3, ← tell_more], fun d => ?_⟩
    rw [List.append_assoc, List.append_assoc]; exact h4 (c ++ d)
  · exact .inr ⟨h1, fun d => by rw [List.append_assoc]; exact h2 (c ++ d)⟩
theorem Story.wait {F : List UInt8} {told : List Rq} {s s' : RS} {b b' : List UInt8} (h : Story F told s b 0) (ht : tellP s b = .wait s' b') (hw : s'.wf) : Story F told s' b' 0 ∧ (allP F).1 = told ∧ (allP F).2.2 = 0 := by
  rcases h with ⟨h1, h2, x, h3, h4⟩ | ⟨h1, h2⟩
  · have h5 := h4 []
    rw [List.append_nil, List.append_nil, all_wait (h3.trans ht)] at h5
    refine ⟨.inl ⟨rfl, hw, x, by rw [h3, ht, tell_idem ht], h4⟩, by rw [h5]; simp, by rw [h5]⟩
  · exact absurd rfl h1
theorem Story.refuse {F : List UInt8} {told : List Rq} {s : RS} {b : List UInt8} {e : Int} (h : Story F told s b 0) (ht : tellP s b = .refuse e) (s' : RS) (b' : List UInt8) : Story F told s' b' e ∧ (allP F).1 = told ∧ (allP F).2.2 = e := by
  rcases h with ⟨h1, h2, x, h3, h4⟩ | ⟨h1, h2⟩
  · have he := tell_err ht
    have h5 : ∀ c, (allP (F ++ c)).1 = told ∧ (allP (F ++ c)).2.2 = e := fun c => by
      have : tellP RS.init (x ++ c) = .refuse e := by rw [tell_more, h3, ht]; rfl
      rw [h4 c, all_refuse this]
      simp
    have h6 := h5 []
    rw [List.append_nil] at h6
    exact ⟨.inr ⟨by omega, h5⟩, h6⟩
  · exact absurd rfl h1
theorem Story.done {F : List UInt8} {told : List Rq} {s : RS} {b r : List UInt8} {q : Rq} (h : Story F told s b 0) (ht : tellP s b = .done q r) : Story F (told ++ [q]) RS.init r 0 ∧ ∃ l, (allP F).1 = told ++ q :: l := by
  rcases h with ⟨h1, h2, x, h3, h4⟩ | ⟨h1, h2⟩
  · have h5 : ∀ c, allP (x ++ c) = (q :: (allP (r ++ c)).1, (allP (r ++ c)).2) := fun c => all_done (by rw [tell_more, h3, ht]; rfl)
    refine ⟨.inl ⟨rfl, wf_init, r, rfl, fun c => by rw [h4 c, h5 c]; simp⟩, (allP (r ++ [])).1, ?_⟩
    have h6 := h4 []
    rw [List.append_nil] at h6
    rw [h6, h5 []]
  · exact absurd rfl h1
theorem Story.wrong {F : List UInt8} {told : List Rq} {s : RS} {b : List UInt8} {e : Int} (h : Story F told s b e) (he : ¬ e = 0) : (allP F).1 = told ∧ (allP F).2.2 = e := by
  rcases h with ⟨h1, _⟩ | ⟨h1, h2⟩
  · exact absurd h1 he
  · have := h2 []; rwa [List.append_nil] at this

/-- A reader and its list: all its blocks are of S, or N and above. -/
def AgentAt (N : Nat) (S : Nat → Prop) (w : World) (R : Nat) (v : Value) (F : List UInt8) (told : List Rq) : Prop :=
  ∃ (s : RS) (b : List UInt8) (bv hv yv : Value) (wrong used taken : Int) (ts : List (Rq × Value)), RdAt N S w R true s b bv hv yv wrong used taken ∧ Story F told s b wrong ∧ 0 ≤ used ∧ 0 ≤ taken ∧ used + taken + b.length = F.length ∧
    ToldAt w v ts ∧ ts.map Prod.fst = told ∧ (∀ k, v.ownBlock = some k → S k ∨ N ≤ k) ∧ (∀ x ∈ ts, ∀ k, x.2.ownBlock = some k → (S k ∨ N ≤ k) ∧ ¬ foot R bv hv yv k)
theorem AgentAt.keep {N : Nat} {S : Nat → Prop} {w w' : World} {R : Nat} {v : Value} {F : List UInt8} {told : List Rq} (h : AgentAt N S w R v F told) (hk : ∀ k, k < w.heap.size → (S k ∨ N ≤ k) → w'.heap[k]? = w.heap[k]?) (hz : w.heap.size ≤ w'.heap.size) : AgentAt N S w' R v F told := by
  obtain ⟨s, b, bv, hv, yv, wrong, used, taken, ts, h1, h2, h3, h4, h5, h6, h7, h8, h9⟩ := h
  refine ⟨s, b, bv, hv, yv, wrong, used, taken, ts, h1.keep (fun k hkf => hk k (h1.lt hkf) (h1.mine k hkf)) hz, h2, h3, h4, h5, h6.keep (fun g t cs hg _ hw => hk g (Array.getElem?_eq_some_iff.1 hg).1 ?_), h7, h8, h9⟩
  rcases hw with hw | ⟨x, hx, hw⟩
  · exact h8 g hw
  · exact (h9 x hx g hw).1
theorem AgentAt.below {N : Nat} {S : Nat → Prop} {w w' : World} {R : Nat} {v : Value} {F : List UInt8} {told : List Rq} (h : AgentAt N S w R v F told) (hb : Below w.heap.size w w') : AgentAt N S w' R v F told := h.keep (fun k hk _ => hb.block k hk) hb.size
/-- Seen from later on. -/
theorem AgentAt.rebase {N N' : Nat} {S S' : Nat → Prop} {w : World} {R : Nat} {v : Value} {F : List UInt8} {told : List Rq} (h : AgentAt N S w R v F told) (hS : ∀ k, k < w.heap.size → (S k ∨ N ≤ k) → S' k ∨ N' ≤ k) (hN : N' ≤ w.heap.size) : AgentAt N' S' w R v F told := by
  obtain ⟨s, b, bv, hv, yv, wrong, used, taken, ts, h1, h2, h3, h4, h5, h6, h7, h8, h9⟩ := h
  exact ⟨s, b, bv, hv, yv, wrong, used, taken, ts, ⟨h1.blk, h1.bytes, h1.heads, h1.body, h1.apart, fun k hk => hS k (h1.lt hk) (h1.mine k hk), hN⟩, h2, h3, h4, h5, h6, h7, fun k hk => hS k (h6.1.lt k hk).2 (h8 k hk), fun x hx k hk => ⟨hS k ((h6.2 x hx).lt k hk).2 (h9 x hx k hk).1, (h9 x hx k hk).2⟩⟩
/-- A new one. -/
theorem AgentAt.new (w : World) : AgentAt w.heap.size (fun _ => False) (w.alloc (.cells (rdCells RS.init (.slice none 0 0) (.slice none 0 0) (.slice none 0 0) 0 0 0) 50)) w.heap.size (.slice none 0 0) [] [] :=
  ⟨RS.init, [], _, _, _, 0, 0, 0, [], new_rd w true, Story.start, by omega, by omega, rfl, ⟨World.ownsRow_nil _ _ _ _, fun x hx => by cases hx⟩, rfl, fun k hk => by simp [Value.ownBlock] at hk, fun x hx => by cases hx⟩
theorem ag_feed (N : Nat) (S : Nat → Prop) (w : World) (R : Nat) (v : Value) (F : List UInt8) (told : List Rq) (x : ByteArray) (h : AgentAt N S w R v F told) (hx : x.size ≤ 16384) (hF : F.length ≤ 1000000) :
    Calls Tryz.prog 14 #[.pointer (some ⟨R, 0, none⟩), .string x] w fun e w' => e = .returned (.int .i64 0) ∧ Turned N S w w' ∧ AgentAt N S w' R v (F ++ x.data.toList) told := by
  obtain ⟨s, b, bv, hv, yv, wrong, used, taken, ts, h1, h2, h3, h4, h5, h6, h7, h8, h9⟩ := h
  have hc := rk_feed w.heap.size (foot R bv hv yv) R s b bv hv yv wrong used taken x w h1.rebase hx (by omega)
  refine hc.mono ?_
  rintro e w' ⟨rfl, hT, bv', hR⟩
  have hfoot : ∀ k, foot R bv' hv yv k → foot R bv hv yv k ∨ w.heap.size ≤ k := hR.mine
  have hT2 : Turned N S w w' := hT.more h1.low (fun k hk hf => (h1.mine k hf).resolve_right (by omega))
  refine ⟨rfl, hT2, s, b ++ x.data.toList, bv', hv, yv, wrong, used, taken, ts, ⟨hR.blk, hR.bytes, hR.heads, hR.body, hR.apart, fun k hk => ?_, Nat.le_trans h1.low hR.low⟩, h2.feed _, h3, h4, by rw [List.length_append, List.length_append]; omega, ?_, h7, h8, fun y hy k hk => ⟨(h9 y hy k hk).1, fun hf => ?_⟩⟩
  · rcases hfoot k hk with q | q
    · exact h1.mine k q
    · exact .inr (Nat.le_trans h1.low q)
  · refine h6.keep fun g t cs hg ht hw => hT.block g (Array.getElem?_eq_some_iff.1 hg).1 (fun hf => ?_)
    rcases hw with hw | ⟨y, hy, hw⟩
    · rcases hf with rfl | hf | hf | hf
      · exact own_blk h6.1 h1.blk (by decide) hw
      · exact h1.bytes.own h6.1 (by decide) hf hw
      · exact own_ne h6.1 h1.heads (by decide) hw hf
      · exact own_ne h6.1 h1.body (by decide) hw hf
    · exact (h9 y hy g hw).2 hf
  · rcases hfoot k hf with q | q
    · exact (h9 y hy k hk).2 q
    · have := ((h6.2 y hy).lt k hk).2
      omega

/-- A request has been told, and is not yet on the list. -/
def AgGot (N : Nat) (S : Nat → Prop) (w : World) (R : Nat) (v : Value) (F : List UInt8) (told : List Rq) (ts : List (Rq × Value)) (q : Rq) (hq : Value) : Prop :=
  ∃ (s : RS) (b : List UInt8) (bv hv yv : Value) (wrong used taken : Int), RdAt N S w R true s b bv hv yv wrong used taken ∧ Story F (told ++ [q]) s b wrong ∧ 0 ≤ used ∧ 0 ≤ taken ∧ used + taken + b.length = F.length ∧
    ToldAt w v ts ∧ ts.map Prod.fst = told ∧ (∀ k, v.ownBlock = some k → S k ∨ N ≤ k) ∧ (∀ x ∈ ts, ∀ k, x.2.ownBlock = some k → (S k ∨ N ≤ k) ∧ ¬ foot R bv hv yv k) ∧
    w.ownsRow 0 88 2 hq q.hs.length (headCells q.hs) ∧ (∀ k, hq.ownBlock = some k → (S k ∨ N ≤ k) ∧ ¬ foot R bv hv yv k) ∧ ∃ l, (allP F).1 = told ++ q :: l
theorem AgGot.below {N : Nat} {S : Nat → Prop} {w w' : World} {R : Nat} {v : Value} {F : List UInt8} {told : List Rq} {ts : List (Rq × Value)} {q : Rq} {hq : Value} (h : AgGot N S w R v F told ts q hq) (hb : Below w.heap.size w w') : AgGot N S w' R v F told ts q hq := by
  obtain ⟨s, b, bv, hv, yv, wrong, used, taken, h1, h2, h3, h4, h5, h6, h7, h8, h9, h10, h11, h12⟩ := h
  exact ⟨s, b, bv, hv, yv, wrong, used, taken, h1.below hb, h2, h3, h4, h5, h6.below hb, h7, h8, h9, own_keep h10 fun g hg => hb.block g (h10.lt g hg).2, h11, h12⟩
theorem AgGot.push {N : Nat} {S : Nat → Prop} {w w' : World} {R : Nat} {v v' : Value} {F : List UInt8} {told : List Rq} {ts : List (Rq × Value)} {q : Rq} {hq : Value} (h : AgGot N S w R v F told ts q hq)
    (hown : w'.ownsRow 0 33 5 v' (ts.length + 1) (toldCells ts ++ toldCells [(q, hq)])) (hg : w.grownBy w' v.ownBlock) (hat : v'.ownBlock = v.ownBlock ∨ v'.ownBlock = some w.heap.size) :
    AgentAt N S w' R v' F (told ++ [q]) ∧ Turned N S w w' := by
  obtain ⟨s, b, bv, hv, yv, wrong, used, taken, h1, h2, h3, h4, h5, h6, h7, h8, h9, h10, h11, h12⟩ := h
  refine ⟨⟨s, b, bv, hv, yv, wrong, used, taken, ts ++ [(q, hq)], h1.toldGrow h6.1 hg, h2, h3, h4, h5, ⟨by rw [List.length_append, List.length_singleton, toldCells_append]; exact hown, fun x hx => ?_⟩, by rw [List.map_append, h7]; rfl, fun k hk => ?_, fun x hx => ?_⟩, (Turned.refl N S w).grown hg h1.low h8⟩
  · have hx2 : w.ownsRow 0 88 2 x.2 x.1.hs.length (headCells x.1.hs) := by
      rcases List.mem_append.1 hx with q1 | q1
      · exact h6.2 x q1
      · rw [List.mem_singleton] at q1; subst q1; exact h10
    exact own_keep hx2 fun g hgb => hg.block g (hx2.lt g hgb).2 (fun e => own_ne hx2 h6.1 (by decide) hgb e.symm)
  · rcases hat with e | e
    · exact h8 k (e ▸ hk)
    · rw [e] at hk
      cases hk
      exact .inr h1.low
  · rcases List.mem_append.1 hx with q1 | q1
    · exact h9 x q1
    · rw [List.mem_singleton] at q1; subst q1; exact h11
def AgNext (N : Nat) (S : Nat → Prop) (w : World) (R : Nat) (v : Value) (F : List UInt8) (told : List Rq) (en : Ending) (w' : World) : Prop :=
  Turned N S w w' ∧ ((∃ e, en = .returned (.tuple #[zeroReq, .bool false, .int .i64 e]) ∧ AgentAt N S w' R v F told ∧ (allP F).1 = told ∧ (allP F).2.2 = e) ∨
    (∃ q hq ts, en = .returned (.tuple #[rqVal q hq, .bool true, .int .i64 0]) ∧ AgGot N S w' R v F told ts q hq))
theorem ag_next (N : Nat) (S : Nat → Prop) (w : World) (R : Nat) (v : Value) (F : List UInt8) (told : List Rq) (B : Nat) (he : EnvAt B w) (hBN : B ≤ N) (hBS : ∀ k, S k → B ≤ k) (h : AgentAt N S w R v F told) (hF : F.length ≤ 1000000) :
    Calls Tryz.prog 16 #[.pointer (some ⟨R, 0, none⟩)] w (AgNext N S w R v F told) := by
  obtain ⟨s, b, bv, hv, yv, wrong, used, taken, ts, h1, h2, h3, h4, h5, h6, h7, h8, h9⟩ := h
  by_cases hw : wrong = 0
  · subst hw
    have hwf : s.wf := by
      rcases h2 with ⟨_, q, _⟩ | ⟨q, _⟩
      · exact q
      · exact absurd rfl q
    have hc := rk_next w.heap.size (foot R bv hv yv) R true s b bv hv yv used taken w h1.rebase B he (Nat.le_trans hBN h1.low) (fun k hk => by
      rcases h1.mine k hk with q | q
      · exact hBS k q
      · omega) h4 h3 (by omega) hwf
    refine hc.mono ?_
    rintro en w' ⟨hT, hcase⟩
    have hT2 : Turned N S w w' := hT.more h1.low (fun k hk hf => (h1.mine k hf).resolve_right (by omega))
    have hTold : ToldAt w' v ts := h6.keep fun g t cs hg ht hwh => hT.block g (Array.getElem?_eq_some_iff.1 hg).1 (fun hf => by
      rcases hwh with hwh | ⟨y, hy, hwh⟩
      · rcases hf with rfl | hf | hf | hf
        · exact own_blk h6.1 h1.blk (by decide) hwh
        · exact h1.bytes.own h6.1 (by decide) hf hwh
        · exact own_ne h6.1 h1.heads (by decide) hwh hf
        · exact own_ne h6.1 h1.body (by decide) hwh hf
      · exact (h9 y hy g hwh).2 hf)
    have hback : ∀ k, (foot R bv hv yv k ∨ w.heap.size ≤ k) → S k ∨ N ≤ k := fun k hk => by
      rcases hk with q | q
      · exact h1.mine k q
      · exact .inr (Nat.le_trans h1.low q)
    have hno : ∀ y ∈ ts, ∀ k, y.2.ownBlock = some k → ¬ (foot R bv hv yv k ∨ w.heap.size ≤ k) := fun y hy k hk hf => by
      rcases hf with q | q
      · exact (h9 y hy k hk).2 q
      · have := ((h6.2 y hy).lt k hk).2; omega
    refine ⟨hT2, ?_⟩
    cases htl : tellP s b with
    | wait s' b' =>
      rw [htl] at hcase
      obtain ⟨rfl, hwf', bv', hv', yv', t', hR, q0, q1⟩ := hcase
      obtain ⟨a1, a2, a3⟩ := h2.wait htl hwf'
      exact .inl ⟨0, rfl, ⟨s', b', bv', hv', yv', 0, used, t', ts, ⟨hR.blk, hR.bytes, hR.heads, hR.body, hR.apart, fun k hk => hback k (hR.mine k hk), Nat.le_trans h1.low hR.low⟩, a1, h3, q0, by omega, hTold, h7, h8, fun y hy k hk => ⟨(h9 y hy k hk).1, fun hf => hno y hy k hk (hR.mine k hf)⟩⟩, a2, a3⟩
    | refuse e =>
      rw [htl] at hcase
      obtain ⟨rfl, s', b', bv', hv', yv', t', hR, q0, q1⟩ := hcase
      obtain ⟨a1, a2, a3⟩ := h2.refuse htl s' b'
      exact .inl ⟨e, rfl, ⟨s', b', bv', hv', yv', e, used, t', ts, ⟨hR.blk, hR.bytes, hR.heads, hR.body, hR.apart, fun k hk => hback k (hR.mine k hk), Nat.le_trans h1.low hR.low⟩, a1, h3, q0, by omega, hTold, h7, h8, fun y hy k hk => ⟨(h9 y hy k hk).1, fun hf => hno y hy k hk (hR.mine k hf)⟩⟩, a2, a3⟩
    | done q r =>
      rw [htl] at hcase
      obtain ⟨bv', hq, rfl, hR, hH, hap⟩ := hcase
      obtain ⟨a1, a2⟩ := h2.done htl
      have hlen := done_len htl
      exact .inr ⟨q, hq, ts, rfl, RS.init, r, bv', _, _, 0, used + (taken + b.length - r.length), 0, ⟨hR.blk, hR.bytes, hR.heads, hR.body, hR.apart, fun k hk => hback k (hR.mine k hk), Nat.le_trans h1.low hR.low⟩, a1, by omega, by omega, by omega, hTold, h7, h8, fun y hy k hk => ⟨(h9 y hy k hk).1, fun hf => hno y hy k hk (hR.mine k hf)⟩, hH, fun k hk => ⟨hback k (hap k hk).1, (hap k hk).2⟩, a2⟩
  · refine (rk_next_wrong N S R true s b bv hv yv wrong used taken w h1 hw).mono ?_
    rintro en w' ⟨rfl, hb⟩
    obtain ⟨a2, a3⟩ := h2.wrong hw
    exact ⟨Turned.of_below hb h1.low, .inl ⟨wrong, rfl, ⟨s, b, bv, hv, yv, wrong, used, taken, ts, h1.below hb, h2, h3, h4, h5, h6.below hb, h7, h8, h9⟩, a2, a3⟩⟩
end Go.Proofs.YtnicmdlicbnlgaaGreatDoor
