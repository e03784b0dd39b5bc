/-
  A reader in memory: its block, its bytes, its heads, its body; what a step leaves alone.
-/
import Derived.Test.YtnicmdlicbnlgaaGreatDoorPo
import Derived.Test.YtnicmdlicbnlgaaGreatDoorMem
import Derived.Maps.AppendAt
import Derived.Deep.AppendLies
import Derived.Deep.Draws
import Derived.Laws.Rows
import Derived.Laws.IdiomCopy
import Derived.RegionTactic
import Derived.OwnWalk
import Derived.Lib.Hide
import Derived.Lib.AppendStr
import Derived.Lib.ConvBytes
import Derived.Laws.BytesArg
namespace Go.Proofs.YtnicmdlicbnlgaaGreatDoor
open Go.RowKit
set_option linter.unusedVariables false

/-! ### words for memory (turned from howto/extra-words.md) -/
theorem block_of_add (a : Addr) (n : Nat) : (a.add n).block = a.block := by unfold Addr.add; split <;> rfl
theorem add_of_add (a : Addr) (i j : Nat) : (a.add i).add j = a.add (i + j) := by
  unfold Addr.add
  by_cases hi : i = 0 <;> by_cases hj : j = 0 <;> simp [hi, hj, Nat.add_assoc]
def Blk (w : World) (g : Nat) (t : TypeId) (cs : Array Value) : Prop := w.heap[g]? = some (.cells cs t (0, 0))
section
variable {w w' : World} {g : Nat} {t : TypeId} {cs : Array Value}
theorem Blk.lt (h : Blk w g t cs) : g < w.heap.size := by
  rcases Nat.lt_or_ge g w.heap.size with hlt | hge
  · exact hlt
  · unfold Blk at h; rw [Array.getElem?_eq_none hge] at h; cases h
theorem Blk.cell (h : Blk w g t cs) (i : Nat) : w.cell? ⟨g, i, none⟩ = cs[i]? := cell_of_row w g i cs t (0, 0) h
theorem Blk.frozen (h : Blk w g t cs) (i : Nat) : w.frozen? ⟨g, i, none⟩ = false := by
  unfold Blk at h
  simp [World.frozen?, h]
theorem Blk.new (w : World) (t : TypeId) (cs : Array Value) : Blk (w.alloc (.cells cs t)) w.heap.size t cs := heap_alloc_new w _
theorem Blk.set_ (h : Blk w g t cs) (i : Nat) (u : Value) : Blk (w.setCell ⟨g, i, none⟩ u) g t (cs.setIfInBounds i u) := by
  unfold Blk at h ⊢
  simp [World.setCell, Array.getElem?_modify, h]
end

def Reads (w : World) (B size : Nat) (A : Option Addr) (n : Nat) (xs : List Value) : Prop :=
  xs.length = n * size ∧ (0 < n → ∃ ad, A = some ad ∧ ad.block < B ∧ ∀ j u, xs[j]? = some u → w.cell? (ad.add j) = some u)

section
variable {w w' : World} {B B' size n : Nat} {A : Option Addr} {xs : List Value}
theorem Reads.keep (h : Reads w B size A n xs) (hk : ∀ p : Addr, p.block < B → w'.cell? p = w.cell? p) : Reads w' B size A n xs :=
  ⟨h.1, fun hn => by
    obtain ⟨ad, e, hb, hc⟩ := h.2 hn
    exact ⟨ad, e, hb, fun j u hu => (hk _ (by rw [block_of_add]; exact hb)).trans (hc j u hu)⟩⟩
theorem Reads.below (h : Reads w B size A n xs) (hb : Below B w w') : Reads w' B size A n xs := h.keep fun _ hp => hb.cell hp
theorem Reads.drewN (h : Reads w B size A n xs) (k : Nat) : Reads (w.drewN k) B size A n xs := h
theorem Reads.alloc (h : Reads w B size A n xs) (hB : B ≤ w.heap.size) (o : Obj) : Reads (w.alloc o) B size A n xs := h.keep fun p hp => World.cell?_alloc_lt w o p (by omega)
theorem Reads.grown (h : Reads w B size A n xs) {row : Option Nat} (hg : w.grownBy w' row) (hB : B ≤ w.heap.size) (hr : ∀ g, row = some g → B ≤ g) : Reads w' B size A n xs :=
  h.keep fun p hp => World.cell?_of_block (hg.block p.block (by omega) (fun e => by have := hr _ e.symm; omega))
end
section
variable {P : Program} (w : World)

theorem run_append_of_nil (base : Nat) (t ty e : TypeId) (i : TypeInfo) (size : Nat) (ht : P.underlying t = some (.slice e)) (hi : P.info? e = some i)
    (v : Value) (n : Nat) (xs : List Value) (hown : w.ownsRow base e size v n xs) (c : Nat) : (Builtin.append_ #[t, t] ty #[v, .slice none 0 c]).run P w = .ok v w := by
  rcases hown.2 with ⟨rfl, rfl⟩ | ⟨g, cap, cur, rfl, _, _, hnc, _⟩
  · simp [Builtin.append_, run_underlying ht, sizeOf, typeInfo, hi, Builtin.lenOf, Builtin.firstCells]
  · simp [Builtin.append_, run_underlying ht, sizeOf, typeInfo, hi, Builtin.lenOf, Builtin.firstCells, hnc, storeCells]

theorem run_append_any (base : Nat) (t ty e : TypeId) (i : TypeInfo) (z : Value) (size bytes : Nat) (ht : P.underlying t = some (.slice e)) (hi : P.info? e = some i) (hz : i.zero = some z)
    (hsize : i.size = size) (hby : i.bytes = bytes) (hzs : z.cells.size = size) (hsz : 0 < size)
    (v : Value) (n : Nat) (xs : List Value) (hown : w.ownsRow base e size v n xs)
    (B : Nat) (A : Option Addr) (m c : Nat) (news : List Value) (hr : Reads w B size A m news) (h1 : ∀ u ∈ news, u.oneCell' = true)
    (h63 : n + m ≤ maxLen) (hbytes : (n + m) * bytes ≤ 140737488355328) (hbase : base ≤ w.heap.size) :
    ∃ v' w', (Builtin.append_ #[t, t] ty #[v, .slice A m c]).run P w = .ok v' w' ∧ w'.ownsRow base e size v' (n + m) (xs ++ news) ∧ w.grownBy w' v.ownBlock ∧
      (v'.ownBlock = v.ownBlock ∨ v'.ownBlock = some w.heap.size) := by
  rcases A with _ | ad
  · have hm : m = 0 := by
      rcases Nat.eq_zero_or_pos m with h0 | h0
      · exact h0
      · obtain ⟨ad, h, _⟩ := hr.2 h0
        cases h
    subst hm
    have hn : news = [] := List.eq_nil_of_length_eq_zero (by simpa using hr.1)
    subst hn
    exact ⟨v, w, run_append_of_nil w base t ty e i size ht hi v n xs hown c, by simpa using hown, World.grownBy.refl w _, .inl rfl⟩
  · have hcells : ∀ j u, news[j]? = some u → w.cell? (ad.add j) = some u := by
      intro j u hu
      rcases Nat.eq_zero_or_pos m with h0 | h0
      · subst h0
        have hn : news = [] := List.eq_nil_of_length_eq_zero (by simpa using hr.1)
        subst hn
        simp at hu
      · obtain ⟨ad', h, _, hc⟩ := hr.2 h0
        injection h with h
        subst h
        exact hc j u hu
    obtain ⟨v', w', hrun, h2, h3, _, h5⟩ := run_append_own_at (P := P) w base t ty e i z size bytes ht hi hz hsize hby hzs hsz v n xs hown ad m c news hr.1 hcells h1 h63 hbytes hbase
    exact ⟨v', w', hrun, h2, h3, h5⟩

theorem wp_append_any {o : Oper} {a : Act} {K : Act → World → Prop} {Q : Exit → Act → World → Prop} (s x : Operand) (t : TypeId)
    (ho : o.op = .call { callee := .builtin .append, args := #[s, x], argTypes := #[t, t] })
    (base : Nat) (e : TypeId) (i : TypeInfo) (z : Value) (size bytes : Nat) (ht : P.underlying t = some (.slice e)) (hi : P.info? e = some i) (hz : i.zero = some z)
    (hsize : i.size = size) (hby : i.bytes = bytes) (hzs : z.cells.size = size) (hsz : 0 < size)
    (v : Value) (n : Nat) (xs : List Value) (hs : a.eval s = v) (hown : w.ownsRow base e size v n xs)
    (B : Nat) (A : Option Addr) (m c : Nat) (news : List Value) (hx : a.eval x = .slice A m c) (hr : Reads w B size A m news) (h1 : ∀ u ∈ news, u.oneCell' = true)
    (h63 : n + m ≤ maxLen) (hbytes : (n + m) * bytes ≤ 140737488355328) (hbase : base ≤ w.heap.size)
    (h : ∀ v' w', w'.ownsRow base e size v' (n + m) (xs ++ news) → w.grownBy w' v.ownBlock → (v'.ownBlock = v.ownBlock ∨ v'.ownBlock = some w.heap.size) → K (a.put o.dst v') w') : o.wp P a w K Q := by
  obtain ⟨v', w', hrun, h2, h3, h4⟩ := run_append_any (P := P) w base t o.type e i z size bytes ht hi hz hsize hby hzs hsz v n xs hown B A m c news hr h1 h63 hbytes hbase
  unfold Oper.wp execOp
  simp only [ho, resolve, invoke, builtin, Sem.run_bind, Sem.run_pure, Result.andThen_ok, List.map_toArray, List.map_cons, List.map_nil, hs, hx, hrun]
  exact h v' w' h2 h3 h4

theorem wpList_append_any {ops : Array Oper} {rest : List Oper} {o : Oper} {a : Act} {Q : Exit → Act → World → Prop} (hgd : o.guard = none) (s x : Operand) (t : TypeId)
    (ho : o.op = .call { callee := .builtin .append, args := #[s, x], argTypes := #[t, t] })
    (base : Nat) (e : TypeId) (i : TypeInfo) (z : Value) (size bytes : Nat) (ht : P.underlying t = some (.slice e)) (hi : P.info? e = some i) (hz : i.zero = some z)
    (hsize : i.size = size) (hby : i.bytes = bytes) (hzs : z.cells.size = size) (hsz : 0 < size)
    (v : Value) (n : Nat) (xs : List Value) (hs : a.eval s = v) (hown : w.ownsRow base e size v n xs)
    (B : Nat) (A : Option Addr) (m c : Nat) (news : List Value) (hx : a.eval x = .slice A m c) (hr : Reads w B size A m news) (h1 : ∀ u ∈ news, u.oneCell' = true)
    (h63 : n + m ≤ maxLen) (hbytes : (n + m) * bytes ≤ 140737488355328) (hbase : base ≤ w.heap.size)
    (h : ∀ v' w', w'.ownsRow base e size v' (n + m) (xs ++ news) → w.grownBy w' v.ownBlock → (v'.ownBlock = v.ownBlock ∨ v'.ownBlock = some w.heap.size) → wpList P ops Q rest (a.put o.dst v') w') : wpList P ops Q (o :: rest) a w :=
  wpList_plain hgd fun _ hK => wp_append_any w s x t ho base e i z size bytes ht hi hz hsize hby hzs hsz v n xs hs hown B A m c news hx hr h1 h63 hbytes hbase fun v' w' h2 h3 h4 => hK _ _ (h v' w' h2 h3 h4)

theorem step_append_any {ops : Array Oper} {o : Oper} {a : Act} {K : Act → World → Prop} {Q : Exit → Act → World → Prop} {E : Prop} (hgd : o.guard = none) (s x : Operand) (t : TypeId)
    (ho : o.op = .call { callee := .builtin .append, args := #[s, x], argTypes := #[t, t] })
    (base : Nat) (e : TypeId) (i : TypeInfo) (z : Value) (size bytes : Nat) (ht : P.underlying t = some (.slice e)) (hi : P.info? e = some i) (hz : i.zero = some z)
    (hsize : i.size = size) (hby : i.bytes = bytes) (hzs : z.cells.size = size) (hsz : 0 < size)
    (v : Value) (n : Nat) (xs : List Value) (hs : a.eval s = v) (hown : w.ownsRow base e size v n xs)
    (B : Nat) (A : Option Addr) (m c : Nat) (news : List Value) (hx : a.eval x = .slice A m c) (hr : Reads w B size A m news) (h1 : ∀ u ∈ news, u.oneCell' = true)
    (h63 : n + m ≤ maxLen) (hbytes : (n + m) * bytes ≤ 140737488355328) (hbase : base ≤ w.heap.size)
    (h : ∀ v' w', w'.ownsRow base e size v' (n + m) (xs ++ news) → w.grownBy w' v.ownBlock → (v'.ownBlock = v.ownBlock ∨ v'.ownBlock = some w.heap.size) → K (a.put o.dst v') w') :
    if Region.wanted o (yielded ops a.tmps) = true then Oper.wp P o a w K Q else E := by
  have hw : Region.wanted o (yielded ops a.tmps) = true := by simp [Region.wanted, hgd]
  rw [if_pos hw]
  exact wp_append_any w s x t ho base e i z size bytes ht hi hz hsize hby hzs hsz v n xs hs hown B A m c news hx hr h1 h63 hbytes hbase h
end

/-! ### what is left alone -/
/-- Below N all blocks but those of K are as they were. -/
structure Turned (N : Nat) (K : Nat → Prop) (w w' : World) : Prop where
  os : w'.os = w.os
  tape : w'.tape = w.tape
  output : w'.output = w.output
  size : w.heap.size ≤ w'.heap.size
  block : ∀ k, k < N → ¬ K k → w'.heap[k]? = w.heap[k]?
section
variable {N : Nat} {K : Nat → Prop} {w w' w'' : World}
theorem Turned.refl (N : Nat) (K : Nat → Prop) (w : World) : Turned N K w w := ⟨rfl, rfl, rfl, Nat.le_refl _, fun _ _ _ => rfl⟩
theorem Turned.trans (h : Turned N K w w') (k : Turned N K w' w'') : Turned N K w w'' :=
  ⟨k.os.trans h.os, k.tape.trans h.tape, k.output.trans h.output, Nat.le_trans h.size k.size, fun i hi hn => (k.block i hi hn).trans (h.block i hi hn)⟩
theorem Turned.below (h : Turned N K w w') (k : Below N w' w'') : Turned N K w w'' :=
  h.trans ⟨k.os, k.tape, k.output, k.size, fun i hi _ => k.block i hi⟩
theorem Turned.set_ (h : Turned N K w w') {a : Addr} (ha : K a.block ∨ N ≤ a.block) (u : Value) : Turned N K w (w'.setCell a u) :=
  h.trans ⟨rfl, rfl, rfl, by simp [World.setCell], fun i hi hn => Below.heap_setCell _ _ _ _ (by rintro rfl; rcases ha with h | h; exact hn h; omega)⟩
theorem Turned.grown (h : Turned N K w w') {row : Option Nat} (hg : w'.grownBy w'' row) (hN : N ≤ w'.heap.size) (hr : ∀ k, row = some k → K k ∨ N ≤ k) : Turned N K w w'' :=
  h.trans ⟨hg.os, hg.tape, hg.output, hg.size, fun i hi hn => hg.block i (by omega) (fun e => by rcases hr i e.symm with h | h; exact hn h; omega)⟩
theorem Turned.more (h : Turned N K w w') {N' : Nat} {K' : Nat → Prop} (hN : N' ≤ N) (hK : ∀ k, k < N' → K k → K' k) : Turned N' K' w w' :=
  ⟨h.os, h.tape, h.output, h.size, fun i hi hn => h.block i (by omega) (fun hk => hn (hK i hi hk))⟩
theorem Turned.to_below (h : Turned N K w w') {B : Nat} (hB : B ≤ N) (hK : ∀ k, K k → B ≤ k) : Below B w w' :=
  ⟨h.os, h.tape, h.output, h.size, fun i hi => h.block i (by omega) (fun hk => by have := hK i hk; omega)⟩
theorem Turned.of_below {B : Nat} (h : Below B w w') (hN : N ≤ B) : Turned N K w w' := ⟨h.os, h.tape, h.output, h.size, fun i hi _ => h.block i (by omega)⟩
end
theorem own_keep {w w' : World} {base : Nat} {e : TypeId} {size : Nat} {v : Value} {n : Nat} {xs : List Value} (h : w.ownsRow base e size v n xs) (hk : ∀ g, v.ownBlock = some g → w'.heap[g]? = w.heap[g]?) : w'.ownsRow base e size v n xs := by
  obtain ⟨h1, h2⟩ := h
  refine ⟨h1, ?_⟩
  rcases h2 with h2 | ⟨g, cap, cur, a, b, c, d⟩
  · exact .inl h2
  · subst a
    exact .inr ⟨g, cap, cur, rfl, b, (hk g rfl).trans c, d⟩
theorem own_base {w : World} {base base' : Nat} {e : TypeId} {size : Nat} {v : Value} {n : Nat} {xs : List Value} (h : w.ownsRow base e size v n xs) (hk : ∀ g, v.ownBlock = some g → base' ≤ g) : w.ownsRow base' e size v n xs := by
  obtain ⟨h1, h2⟩ := h
  refine ⟨h1, ?_⟩
  rcases h2 with h2 | ⟨g, cap, cur, a, b, c, d⟩
  · exact .inl h2
  · subst a
    exact .inr ⟨g, cap, cur, rfl, hk g rfl, c, d⟩
theorem own_ne {w : World} {base base' : Nat} {e e' : TypeId} {size size' : Nat} {v v' : Value} {n n' : Nat} {xs xs' : List Value} (h : w.ownsRow base e size v n xs) (h' : w.ownsRow base' e' size' v' n' xs') (hne : e ≠ e') {g : Nat} (hg : v.ownBlock = some g) : v'.ownBlock ≠ some g := by
  intro hg'
  rcases h.2 with ⟨rfl, _⟩ | ⟨g1, cap, cur, rfl, _, hh, _⟩
  · cases hg
  · rcases h'.2 with ⟨rfl, _⟩ | ⟨g2, cap2, cur2, rfl, _, hh2, _⟩
    · cases hg'
    · simp only [Value.ownBlock, Option.some.injEq] at hg hg'
      subst hg; subst hg'
      rw [hh] at hh2
      injection hh2 with h2
      injection h2 with _ h3
      exact hne h3
theorem own_blk {w : World} {base g : Nat} {e t : TypeId} {size n : Nat} {v : Value} {xs : List Value} {cs : Array Value} (h : w.ownsRow base e size v n xs) (hg : Blk w g t cs) (hne : e ≠ t) : v.ownBlock ≠ some g := by
  intro hg'
  rcases h.2 with ⟨rfl, _⟩ | ⟨g1, cap, cur, rfl, _, hh, _⟩
  · cases hg'
  · simp only [Value.ownBlock, Option.some.injEq] at hg'
    subst hg'
    unfold Blk at hg
    rw [hh] at hg
    injection hg with h2
    injection h2 with _ h3
    exact hne h3

/-! ### bytes at a place of a block -/
/-- The slice reads as b; what lies behind, up to its capacity, is there too; fed: the block has been made by an append. -/
def BAt (w : World) (fed : Bool) (v : Value) (b : List UInt8) : Prop :=
  ∃ (A : Option Addr) (cap : Nat), v = .slice A b.length cap ∧ b.length ≤ cap ∧ cap ≤ maxLen ∧ (A = none → cap = 0) ∧
    ∀ ad, A = some ad → ∃ (g off : Nat) (cur : Array Value) (fz : Nat × Nat), ad = ⟨g, off, none⟩ ∧ w.heap[g]? = some (.cells cur 5 fz) ∧ off + cap ≤ cur.size ∧ (cur.toList.drop off).take b.length = u8s b ∧ (fed = true → fz = (0, 0))
theorem BAt.keep {w w' : World} {fed : Bool} {v : Value} {b : List UInt8} (h : BAt w fed v b) (hk : ∀ g, v.ownBlock = some g → w'.heap[g]? = w.heap[g]?) : BAt w' fed v b := by
  obtain ⟨A, cap, rfl, h1, h2, h3, h4⟩ := h
  refine ⟨A, cap, rfl, h1, h2, h3, fun ad had => ?_⟩
  obtain ⟨g, off, cur, fz, rfl, c, d⟩ := h4 ad had
  subst had
  exact ⟨g, off, cur, fz, rfl, (hk g rfl).trans c, d⟩
theorem BAt.nil (w : World) (fed : Bool) : BAt w fed (.slice none 0 0) [] := ⟨none, 0, rfl, Nat.le_refl _, by simp [maxLen], fun _ => rfl, fun ad h => by cases h⟩
/-- What the slice is cut to behind its first k bytes. -/
def cutV (A : Option Addr) (n cap k : Nat) : Value := .slice (if cap = k then A else A.map (·.add k)) (n - k) (cap - k)
theorem cutV_block (A : Option Addr) (n cap k : Nat) : (cutV A n cap k).ownBlock = (Value.slice A n cap).ownBlock := by
  unfold cutV
  cases A with
  | none => by_cases h : cap = k <;> simp [h, Value.ownBlock]
  | some a => by_cases h : cap = k <;> simp [h, Value.ownBlock, block_of_add]
theorem BAt.cut {w : World} {fed : Bool} {A : Option Addr} {n cap k : Nat} {b : List UInt8} (h : BAt w fed (.slice A n cap) b) (hk : k ≤ b.length) : BAt w fed (cutV A n cap k) (b.drop k) := by
  obtain ⟨A', cap', e, h1, h2, h3, h4⟩ := h
  injection e with e1 e2 e3
  subst e1; subst e2; subst e3
  unfold cutV
  by_cases hc : cap = k
  · subst hc
    rw [if_pos rfl]
    have hb : b.drop cap = [] := List.drop_eq_nil_of_le (by omega)
    refine ⟨A, 0, by rw [hb]; simp; omega, by simp; omega, by simp [maxLen], fun _ => rfl, fun ad had => ?_⟩
    obtain ⟨g, off, cur, fz, e1, c, d, e, f⟩ := h4 ad had
    exact ⟨g, off, cur, fz, e1, c, by omega, by rw [hb]; simp [u8s], f⟩
  · rw [if_neg hc]
    refine ⟨A.map (·.add k), cap - k, by simp, by simp; omega, by omega, fun hn => ?_, fun ad had => ?_⟩
    · cases A with
      | none => have := h3 rfl; omega
      | some a => cases hn
    · obtain ⟨a, ha, rfl⟩ := Option.map_eq_some_iff.1 had
      obtain ⟨g, off, cur, fz, rfl, c, d, e, f⟩ := h4 a ha
      refine ⟨g, off + k, cur, fz, by unfold Addr.add; split <;> simp_all, c, by omega, ?_, f⟩
      have : u8s (b.drop k) = (u8s b).drop k := by simp [u8s, List.map_drop]
      rw [this, ← e, List.length_drop, List.drop_take, List.drop_drop]
theorem u8s_get (l : List UInt8) (i : Nat) (h : i < l.length) : (u8s l)[i]? = some (.int .u8 (l[i].toNat : Int)) := by simp [u8s, h]
/-- A byte of it. -/
theorem BAt.byte {w : World} {fed : Bool} {A : Option Addr} {n cap i : Nat} {b : List UInt8} (h : BAt w fed (.slice A n cap) b) (hi : i < b.length) : ∃ g off, A = some ⟨g, off, none⟩ ∧ w.cell? ⟨g, off + i, none⟩ = some (.int .u8 (b[i].toNat : Int)) := by
  obtain ⟨A', cap', e, h1, h2, h3, h4⟩ := h
  injection e with e1 e2 e3
  subst e1; subst e2; subst e3
  cases A with
  | none => have := h3 rfl; omega
  | some a =>
    obtain ⟨g, off, cur, fz, rfl, c, d, e, f⟩ := h4 a rfl
    refine ⟨g, off, rfl, ?_⟩
    rw [cell_of_row w g (off + i) cur _ fz c]
    have := u8s_get b i hi
    rw [← e, List.getElem?_take, if_pos hi, List.getElem?_drop] at this
    simpa using this
theorem BAt.len {w : World} {fed : Bool} {A : Option Addr} {n cap : Nat} {b : List UInt8} (h : BAt w fed (.slice A n cap) b) : n = b.length ∧ n ≤ cap ∧ cap ≤ maxLen := by
  obtain ⟨A', cap', e, h1, h2, h3, h4⟩ := h
  injection e with e1 e2 e3
  subst e1; subst e2; subst e3
  exact ⟨rfl, h1, h2⟩
theorem BAt.block_lt {w : World} {fed : Bool} {v : Value} {b : List UInt8} (h : BAt w fed v b) {g : Nat} (hg : v.ownBlock = some g) : g < w.heap.size := by
  obtain ⟨A, cap, rfl, h1, h2, h3, h4⟩ := h
  cases A with
  | none => cases hg
  | some a =>
    obtain ⟨g', off, cur, fz, rfl, c, d, e, f⟩ := h4 a rfl
    simp only [Value.ownBlock, Option.some.injEq] at hg
    subst hg
    exact (Array.getElem?_eq_some_iff.1 c).1
theorem BAt.blk {w : World} {fed : Bool} {v : Value} {b : List UInt8} (h : BAt w fed v b) {g : Nat} {t : TypeId} {cs : Array Value} (hg : Blk w g t cs) (hne : 5 ≠ t) : v.ownBlock ≠ some g := by
  intro hg'
  obtain ⟨A, cap, rfl, h1, h2, h3, h4⟩ := h
  cases A with
  | none => cases hg'
  | some a =>
    obtain ⟨g', off, cur, fz, rfl, c, d, e, f⟩ := h4 a rfl
    simp only [Value.ownBlock, Option.some.injEq] at hg'
    subst hg'
    unfold Blk at hg
    rw [c] at hg
    injection hg with h2
    injection h2 with _ h3
    exact hne h3
theorem BAt.own {w : World} {fed : Bool} {v v' : Value} {b : List UInt8} {base size n : Nat} {e : TypeId} {xs : List Value} (h : BAt w fed v b) (h' : w.ownsRow base e size v' n xs) (hne : 5 ≠ e) {g : Nat} (hg : v.ownBlock = some g) : v'.ownBlock ≠ some g := by
  intro hg'
  obtain ⟨A, cap, rfl, h1, h2, h3, h4⟩ := h
  cases A with
  | none => cases hg
  | some a =>
    obtain ⟨g', off, cur, fz, rfl, c, d, e, f⟩ := h4 a rfl
    rcases h'.2 with ⟨rfl, _⟩ | ⟨g2, cap2, cur2, rfl, _, hh2, _⟩
    · cases hg'
    · simp only [Value.ownBlock, Option.some.injEq] at hg hg'
      subst hg; subst hg'
      rw [c] at hh2
      injection hh2 with h2
      injection h2 with _ h3
      exact hne h3

/-! ### the reader -/
def headCells (hs : List Hd) : List Value := hs.flatMap fun h => [.string h.n, .string h.v]
theorem headCells_len (hs : List Hd) : (headCells hs).length = hs.length * 2 := by
  unfold headCells
  induction hs with
  | nil => rfl
  | cons h t ih => simp only [List.flatMap_cons, List.length_append, ih, List.length_cons, List.length_nil]; omega
theorem headCells_append (a b : List Hd) : headCells (a ++ b) = headCells a ++ headCells b := by simp [headCells]
def rdCells (s : RS) (bv hv yv : Value) (wrong used taken : Int) : Array Value :=
  #[.bool true, bv, .int .i64 (s.state : Int), .string s.m, .string s.p, hv, .string ⟨#[]⟩, .bool s.close, .int .i64 (s.many : Int), .int .i64 (s.left : Int), .int .i64 s.long, .bool s.chunks, yv, .int .i64 wrong, .int .i64 used, .int .i64 taken]
def foot (R : Nat) (bv hv yv : Value) (k : Nat) : Prop := k = R ∨ bv.ownBlock = some k ∨ hv.ownBlock = some k ∨ yv.ownBlock = some k
/-- A reader. -/
structure RdAt (N : Nat) (K : Nat → Prop) (w : World) (R : Nat) (fed : Bool) (s : RS) (b : List UInt8) (bv hv yv : Value) (wrong used taken : Int) : Prop where
  blk : Blk w R 50 (rdCells s bv hv yv wrong used taken)
  bytes : BAt w fed bv b
  heads : w.ownsRow 0 88 2 hv s.hs.length (headCells s.hs)
  body : w.ownsRow 0 5 1 yv s.body.length (u8s s.body)
  apart : ∀ g, bv.ownBlock = some g → yv.ownBlock ≠ some g
  mine : ∀ k, foot R bv hv yv k → K k ∨ N ≤ k
  low : N ≤ w.heap.size
section
variable {N : Nat} {K : Nat → Prop} {w w' : World} {R : Nat} {fed : Bool} {s : RS} {b : List UInt8} {bv hv yv : Value} {wrong used taken : Int}
theorem RdAt.keep (h : RdAt N K w R fed s b bv hv yv wrong used taken) (hk : ∀ k, foot R bv hv yv k → w'.heap[k]? = w.heap[k]?) (hz : w.heap.size ≤ w'.heap.size) : RdAt N K w' R fed s b bv hv yv wrong used taken :=
  ⟨(hk R (.inl rfl)).trans h.blk, h.bytes.keep fun g hg => hk g (.inr (.inl hg)), own_keep h.heads fun g hg => hk g (.inr (.inr (.inl hg))), own_keep h.body fun g hg => hk g (.inr (.inr (.inr hg))), h.apart, h.mine, Nat.le_trans h.low hz⟩
theorem RdAt.lt (h : RdAt N K w R fed s b bv hv yv wrong used taken) {k : Nat} (hk : foot R bv hv yv k) : k < w.heap.size := by
  rcases hk with rfl | hk | hk | hk
  · exact h.blk.lt
  · exact h.bytes.block_lt hk
  · exact (h.heads.lt k hk).2
  · exact (h.body.lt k hk).2
theorem RdAt.below (h : RdAt N K w R fed s b bv hv yv wrong used taken) (hb : Below w.heap.size w w') : RdAt N K w' R fed s b bv hv yv wrong used taken :=
  h.keep (fun k hk => hb.block k (h.lt hk)) hb.size
theorem RdAt.turned {N' : Nat} {K' : Nat → Prop} (h : RdAt N K w R fed s b bv hv yv wrong used taken) (hb : Turned N' K' w w') (hN : w.heap.size ≤ N') (hK : ∀ k, foot R bv hv yv k → ¬ K' k) : RdAt N K w' R fed s b bv hv yv wrong used taken :=
  h.keep (fun k hk => hb.block k (Nat.lt_of_lt_of_le (h.lt hk) hN) (hK k hk)) hb.size
/-- Seen from here. -/
theorem RdAt.rebase (h : RdAt N K w R fed s b bv hv yv wrong used taken) : RdAt w.heap.size (foot R bv hv yv) w R fed s b bv hv yv wrong used taken :=
  ⟨h.blk, h.bytes, h.heads, h.body, h.apart, fun k hk => .inl hk, Nat.le_refl _⟩
theorem RdAt.inR (h : RdAt N K w R fed s b bv hv yv wrong used taken) : K R ∨ N ≤ R := h.mine R (.inl rfl)
end
/-! ### appending a string to the bytes; reading them as a string -/
section
variable {P : Program}
theorem run_feed (w : World) (t u ty : TypeId) (i : TypeInfo) (ht : P.underlying t = some (.slice 5)) (hu : P.underlying u = some .string) (hi : P.info? 5 = some i) (hz : i.zero = some (.int .u8 0)) (hsize : i.size = 1) (hby : i.bytes = 1)
    {v : Value} {b : List UInt8} (h : BAt w true v b) (x : ByteArray) (h63 : b.length + x.size ≤ 1000000000000) :
    ∃ v' w', (Builtin.append_ #[t, u] ty #[v, .string x]).run P w = .ok v' w' ∧ BAt w' true v' (b ++ x.data.toList) ∧ w.grownBy w' v.ownBlock ∧ (v'.ownBlock = v.ownBlock ∨ v'.ownBlock = some w.heap.size) := by
  obtain ⟨A, cap, rfl, h1, h2, h3, h4⟩ := h
  have hx : x.data.toList.length = x.size := by simp
  have hge := grownCap_ge w (b.length + x.size) cap 5
  have hcm : grownCap w (b.length + x.size) cap 5 ≤ maxLen := grownCap_le_maxLen w (b.length + x.size) cap 5 (by simp only [maxLen]; omega)
  have zc : (Builtin.zeroCells (Value.int .u8 0).cells (grownCap w (b.length + x.size) cap 5 - (b.length + x.size))).size = grownCap w (b.length + x.size) cap 5 - (b.length + x.size) := by
    rw [size_zeroCells]; exact Nat.mul_one _
  cases A with
  | none =>
    have hc := h3 rfl
    subst hc
    obtain rfl : b = [] := List.eq_nil_of_length_eq_zero (by omega)
    by_cases hm : x.size = 0
    · have hn : x.data.toList = [] := List.eq_nil_of_length_eq_zero (by omega)
      have hr := Lib.run_append_own_string (P := P) w 0 t u ty 5 i ht hu hi hz hsize hby (.slice none 0 0) 0 [] (World.ownsRow_nil w 0 _ 1) x (by simp only [maxLen]; omega) (by omega) (by omega)
      obtain ⟨v', w', hr, e1, e2, e3⟩ := hr
      obtain rfl := e3.2 ⟨rfl, hm⟩
      refine ⟨_, _, hr, ?_, e2, .inl rfl⟩
      rw [hn]
      exact BAt.nil _ _
    · have hr := run_append_nil_string (P := P) w t u ty 5 i (.int .u8 0) ht hu hi hz x (by omega) (by omega) (by rw [hby]; omega)
      simp only [List.length_nil, Nat.zero_add] at hge hcm zc
      refine ⟨_, _, hr, ⟨some ⟨w.heap.size, 0, none⟩, grownCap w x.size 0 5, by simp, by simpa using hge, hcm, (fun h => by cases h), fun ad had => ?_⟩, ⟨rfl, rfl, rfl, by simp, fun k hk _ => Below.heap_alloc w.drew _ k hk⟩, .inr rfl⟩
      obtain rfl := Option.some.inj had
      refine ⟨w.heap.size, 0, _, (0, 0), rfl, heap_alloc_new w.drew _, ?_, ?_, fun _ => rfl⟩
      · rw [Array.size_append, zc, Array.size_map]
        have : x.data.size = x.size := rfl
        omega
      · simp [u8s]
  | some a =>
    obtain ⟨g, off, cur, fz, rfl, c, d, e, f⟩ := h4 a rfl
    obtain rfl := f rfl
    have hlt : g < w.heap.size := (Array.getElem?_eq_some_iff.1 c).1
    by_cases hroom : b.length + x.size ≤ cap
    · have hst := run_storeCells_at P g (off + b.length) 5 (Lib.strCells x) 0 cur w c (by simp only [Lib.strCells_length]; omega) (Lib.strCells_oneCell x)
      have hf := Lib.run_firstCells_string (P := P) w 1 x
      simp only [Nat.add_zero, Lib.strCells_length] at hst
      have hr : (Builtin.append_ #[t, u] ty #[.slice (some ⟨g, off, none⟩) b.length cap, .string x]).run P w = .ok (.slice (some ⟨g, off, none⟩) (b.length + x.size) cap) (w.setRow g (cur.toList.take (off + b.length) ++ Lib.strCells x ++ cur.toList.drop (off + b.length + x.size)).toArray) := by
        simp [Builtin.append_, run_underlying ht, run_underlying hu, sizeOf, typeInfo, hi, hsize, Builtin.lenOf, hroom, hf, Addr.add_lit, hst]
      refine ⟨_, _, hr, ⟨some ⟨g, off, none⟩, cap, by simp, by simpa using hroom, h2, (fun h => by cases h), fun ad had => ?_⟩, ⟨rfl, rfl, rfl, by simp, fun k hk hne => setRow_other w g k _ (fun e => hne (by simp [Value.ownBlock, e]))⟩, .inl rfl⟩
      obtain rfl := Option.some.inj had
      refine ⟨g, off, _, (0, 0), rfl, setRow_heap w g cur _ _ _ c, ?_, ?_, fun _ => rfl⟩
      · simp only [List.size_toArray, List.length_append, List.length_take, List.length_drop, Array.length_toList, Lib.strCells_length]
        omega
      · have hlen : (cur.toList.take (off + b.length)).length = off + b.length := by
          have : cur.toList.length = cur.size := Array.length_toList
          rw [List.length_take, this]; omega
        have e2 : (cur.toList.take (off + b.length)).drop off = u8s b := by rw [List.drop_take, show off + b.length - off = b.length by omega]; exact e
        simp only [List.append_assoc]
        rw [List.drop_append_of_le_length (by omega), e2, u8s_append, ← List.append_assoc]
        have e3 : (u8s b ++ Lib.strCells x).length = (b ++ x.data.toList).length := by simp [u8s, Lib.strCells_length]
        rw [← e3]
        exact List.take_left
    · have holds : ∀ j v, (u8s b)[j]? = some v → w.cell? ((⟨g, off, none⟩ : Addr).add j) = some v := by
        intro j v hv
        have hj : j < b.length := by
          have := (List.getElem?_eq_some_iff.1 hv).1
          simpa [u8s] using this
        rw [Addr.add_lit, cell_of_row w g (off + j) cur _ _ c]
        rw [← e, List.getElem?_take, if_pos hj, List.getElem?_drop] at hv
        simpa using hv
      have hr := Lib.run_append_grow_string (P := P) w t u ty 5 i (.int .u8 0) ht hu hi hz ⟨g, off, none⟩ b.length cap (u8s b) (by simp [u8s, hsize]) holds x (by omega) (by omega) (by rw [hby]; exact growslice_fits (by omega) (by omega))
      refine ⟨_, _, hr, ⟨some ⟨w.heap.size, 0, none⟩, _, by simp, by simpa using hge, hcm, (fun h => by cases h), fun ad had => ?_⟩, ⟨rfl, rfl, rfl, by simp, fun k hk _ => Below.heap_alloc w.drew _ k hk⟩, .inr rfl⟩
      obtain rfl := Option.some.inj had
      refine ⟨w.heap.size, 0, _, (0, 0), rfl, heap_alloc_new w.drew _, ?_, ?_, fun _ => rfl⟩
      · rw [Array.size_append, Array.size_append, zc, List.size_toArray, List.size_toArray, Lib.strCells_length]
        simp only [u8s, List.length_map]
        omega
      · have e3 : (u8s b ++ Lib.strCells x).length = (b ++ x.data.toList).length := by simp [u8s, Lib.strCells_length]
        rw [u8s_append, List.drop_zero, ← e3]
        simp only [Array.toList_append]
        exact List.take_left
theorem at_string {w : World} {fed : Bool} {A : Option Addr} {n cap : Nat} {b : List UInt8} (h : BAt w fed (.slice A n cap) b) (k c : Nat) (hk : k ≤ b.length) (src dst : TypeId) (hs : P.underlying src = some (.slice 5)) (hu : P.underlying 5 = some (.int .u8)) (hd : P.underlying dst = some .string) :
    (convert src dst (.slice A k c)).run P w = .ok (.string ⟨(b.take k).toArray⟩) w := by
  obtain ⟨A', cap', e, h1, h2, h3, h4⟩ := h
  injection e with e1 e2 e3
  subst e1; subst e2; subst e3
  cases A with
  | none =>
    have := h3 rfl
    obtain rfl : k = 0 := by omega
    exact run_convert_bytes_nil w src 5 hs hu 0 c dst hd
  | some a =>
    obtain ⟨g, off, cur, fz, rfl, c1, d, e, f⟩ := h4 a rfl
    have hcell : ∀ i, i < k → w.cell? ⟨g, off + i, none⟩ = some (.int .u8 (((b.take k).map fun b => (b.toNat : Int)).getD i 0)) := by
      intro i hi
      rw [cell_of_row w g (off + i) cur _ _ c1]
      have := u8s_get b i (by omega)
      rw [← e, List.getElem?_take, if_pos (by omega), List.getElem?_drop] at this
      rw [← Array.getElem?_toList, this]
      simp [List.getD, hi, show i < b.length by omega]
    have := run_convert_bytes_arg w src 5 hs hu g off k c ((b.take k).map fun b => (b.toNat : Int)) (by simp; omega) hcell dst hd
    rw [strOf_u8] at this
    exact this
end
/-- Bytes that a string was turned to. -/
theorem BAt.made (w : World) (s : ByteArray) (h : s.size ≤ 1000000000000) : BAt (Lib.bytesWorld w 5 s) false (.slice (some ⟨w.heap.size, 0, none⟩) s.size (grownCap w s.size 0 5)) s.data.toList := by
  have hx : s.data.toList.length = s.size := by simp
  refine ⟨some ⟨w.heap.size, 0, none⟩, grownCap w s.size 0 5, by rw [hx], by rw [hx]; exact grownCap_ge _ _ _ _, grownCap_le_maxLen _ _ _ _ (by simp only [maxLen]; omega), (fun h => by cases h), fun ad had => ?_⟩
  obtain rfl := Option.some.inj had
  refine ⟨w.heap.size, 0, _, _, rfl, Lib.bytesWorld_at_new w _ s, ?_, ?_, fun h => by cases h⟩
  · have hge := grownCap_ge w s.size 0 5
    unfold Lib.bytesCells
    rw [Array.size_append, Array.size_map, Array.size_replicate]
    have : s.data.size = s.size := rfl
    omega
  · unfold Lib.bytesCells
    simp [u8s]
/-! ### stores into the reader -/
section
variable {N : Nat} {K : Nat → Prop} {w w' : World} {R : Nat} {fed : Bool} {s : RS} {b : List UInt8} {bv hv yv : Value} {wrong used taken : Int}
theorem RdAt.ne_b (h : RdAt N K w R fed s b bv hv yv wrong used taken) : bv.ownBlock ≠ some R := h.bytes.blk h.blk (by decide)
theorem RdAt.ne_h (h : RdAt N K w R fed s b bv hv yv wrong used taken) : hv.ownBlock ≠ some R := own_blk h.heads h.blk (by decide)
theorem RdAt.ne_y (h : RdAt N K w R fed s b bv hv yv wrong used taken) : yv.ownBlock ≠ some R := own_blk h.body h.blk (by decide)
theorem RdAt.store (h : RdAt N K w R fed s b bv hv yv wrong used taken) (i : Nat) (v : Value) {s' : RS} {wrong' used' taken' : Int}
    (e : (rdCells s bv hv yv wrong used taken).setIfInBounds i v = rdCells s' bv hv yv wrong' used' taken') (e1 : s'.hs = s.hs) (e2 : s'.body = s.body) : RdAt N K (w.setCell ⟨R, i, none⟩ v) R fed s' b bv hv yv wrong' used' taken' := by
  have hk : ∀ g, g ≠ R → (w.setCell ⟨R, i, none⟩ v).heap[g]? = w.heap[g]? := fun g hg => Below.heap_setCell _ _ _ _ hg
  have hb := h.blk.set_ i v
  rw [e] at hb
  refine ⟨hb, h.bytes.keep fun g hg => hk g (fun e => h.ne_b (e ▸ hg)), ?_, ?_, h.apart, h.mine, by simpa using h.low⟩
  · rw [e1]; exact own_keep h.heads fun g hg => hk g (fun e => h.ne_h (e ▸ hg))
  · rw [e2]; exact own_keep h.body fun g hg => hk g (fun e => h.ne_y (e ▸ hg))
theorem RdAt.setB (h : RdAt N K w R fed s b bv hv yv wrong used taken) {bv' : Value} {b' : List UInt8} (hb : BAt w fed bv' b') (ho : bv'.ownBlock = bv.ownBlock ∨ ∃ g, bv'.ownBlock = some g ∧ N ≤ g ∧ yv.ownBlock ≠ some g) : RdAt N K (w.setCell ⟨R, 1, none⟩ bv') R fed s b' bv' hv yv wrong used taken := by
  have hk : ∀ g, g ≠ R → (w.setCell ⟨R, 1, none⟩ bv').heap[g]? = w.heap[g]? := fun g hg => Below.heap_setCell _ _ _ _ hg
  have hB := h.blk.set_ 1 bv'
  refine ⟨hB, hb.keep fun g hg => hk g (fun e => hb.blk h.blk (by decide) (e ▸ hg)), own_keep h.heads fun g hg => hk g (fun e => h.ne_h (e ▸ hg)), own_keep h.body fun g hg => hk g (fun e => h.ne_y (e ▸ hg)), ?_, ?_, by simpa using h.low⟩
  · intro g hg
    rcases ho with ho | ⟨g', h1, h2, h3⟩
    · exact h.apart g (ho ▸ hg)
    · rw [h1] at hg
      cases hg
      exact h3
  · rintro k (hk | hk | hk | hk)
    · exact h.mine k (.inl hk)
    · rcases ho with ho | ⟨g', h1, h2, h3⟩
      · exact h.mine k (.inr (.inl (ho ▸ hk)))
      · rw [h1] at hk
        cases hk
        exact .inr h2
    · exact h.mine k (.inr (.inr (.inl hk)))
    · exact h.mine k (.inr (.inr (.inr hk)))
theorem RdAt.skip {A : Option Addr} {n cap : Nat} (h : RdAt N K w R fed s b (.slice A n cap) hv yv wrong used taken) (k : Nat) (hk : k ≤ b.length) :
    RdAt N K ((w.setCell ⟨R, 1, none⟩ (cutV A n cap k)).setCell ⟨R, 15, none⟩ (.int .i64 (taken + k))) R fed s (b.drop k) (cutV A n cap k) hv yv wrong used (taken + k) :=
  (h.setB (h.bytes.cut hk) (.inl (cutV_block A n cap k))).store 15 _ rfl rfl rfl
theorem RdAt.wrong_ (h : RdAt N K w R fed s b bv hv yv wrong used taken) (e : Int) : RdAt N K (w.setCell ⟨R, 13, none⟩ (.int .i64 e)) R fed s b bv hv yv e used taken := h.store 13 _ rfl rfl rfl
theorem Turned.setR {W : World} (h : RdAt N K w R fed s b bv hv yv wrong used taken) (ht : Turned N K W w') (i : Nat) (v : Value) : Turned N K W (w'.setCell ⟨R, i, none⟩ v) := ht.set_ (a := ⟨R, i, none⟩) h.inR v
end
section
variable {N : Nat} {K : Nat → Prop} {w w' : World} {R : Nat} {fed : Bool} {s : RS} {b : List UInt8} {bv hv yv : Value} {wrong used taken : Int}
theorem RdAt.setY (h : RdAt N K w R fed s b bv hv yv wrong used taken) {v' : Value} {body' : List UInt8} (hg : w.grownBy w' yv.ownBlock) (ho : w'.ownsRow 0 5 1 v' body'.length (u8s body')) (hat : v'.ownBlock = yv.ownBlock ∨ v'.ownBlock = some w.heap.size) :
    RdAt N K (w'.setCell ⟨R, 12, none⟩ v') R fed { s with body := body' } b bv hv v' wrong used taken := by
  have hR : w'.heap[R]? = w.heap[R]? := hg.block R h.blk.lt (fun e => h.ne_y e.symm)
  have hB : Blk w' R 50 (rdCells s bv hv yv wrong used taken) := hR.trans h.blk
  have hk : ∀ g, g ≠ R → (w'.setCell ⟨R, 12, none⟩ v').heap[g]? = w'.heap[g]? := fun g hg => Below.heap_setCell _ _ _ _ hg
  have hB2 := hB.set_ 12 v'
  have ky : ∀ g, bv.ownBlock = some g → w'.heap[g]? = w.heap[g]? := fun g hgb => hg.block g (h.bytes.block_lt hgb) (fun e => h.apart g hgb e.symm)
  have kh : ∀ g, hv.ownBlock = some g → w'.heap[g]? = w.heap[g]? := fun g hgb => hg.block g (h.heads.lt g hgb).2 (fun e => own_ne h.heads h.body (by decide) hgb e.symm)
  refine ⟨hB2, h.bytes.keep fun g hgb => (hk g (fun e => h.ne_b (e ▸ hgb))).trans (ky g hgb), own_keep h.heads fun g hgb => (hk g (fun e => h.ne_h (e ▸ hgb))).trans (kh g hgb), own_keep ho fun g hgb => hk g (fun e => own_blk ho hB (by decide) (e ▸ hgb)), ?_, ?_, ?_⟩
  · intro g hgb hy
    rcases hat with e | e
    · exact h.apart g hgb (e ▸ hy)
    · rw [e] at hy
      cases hy
      exact absurd (h.bytes.block_lt hgb) (Nat.lt_irrefl _)
  · rintro k (hk | hk | hk | hk)
    · exact h.mine k (.inl hk)
    · exact h.mine k (.inr (.inl hk))
    · exact h.mine k (.inr (.inr (.inl hk)))
    · rcases hat with e | e
      · exact h.mine k (.inr (.inr (.inr (e ▸ hk))))
      · rw [e] at hk
        cases hk
        exact .inr h.low
  · have := hg.size
    have := h.low
    simp [World.setCell]
    omega
theorem RdAt.setH (h : RdAt N K w R fed s b bv hv yv wrong used taken) {v' : Value} {hs' : List Hd} (hg : w.grownBy w' hv.ownBlock) (ho : w'.ownsRow 0 88 2 v' hs'.length (headCells hs')) (hat : v'.ownBlock = hv.ownBlock ∨ ∃ g, v'.ownBlock = some g ∧ w.heap.size ≤ g) :
    RdAt N K (w'.setCell ⟨R, 5, none⟩ v') R fed { s with hs := hs' } b bv v' yv wrong used taken := by
  have hR : w'.heap[R]? = w.heap[R]? := hg.block R h.blk.lt (fun e => h.ne_h e.symm)
  have hB : Blk w' R 50 (rdCells s bv hv yv wrong used taken) := hR.trans h.blk
  have hk : ∀ g, g ≠ R → (w'.setCell ⟨R, 5, none⟩ v').heap[g]? = w'.heap[g]? := fun g hg => Below.heap_setCell _ _ _ _ hg
  have hB2 := hB.set_ 5 v'
  have kb : ∀ g, bv.ownBlock = some g → w'.heap[g]? = w.heap[g]? := fun g hgb => hg.block g (h.bytes.block_lt hgb) (fun e => h.bytes.own h.heads (by decide) hgb e.symm)
  have ky : ∀ g, yv.ownBlock = some g → w'.heap[g]? = w.heap[g]? := fun g hgb => hg.block g (h.body.lt g hgb).2 (fun e => own_ne h.body h.heads (by decide) hgb e.symm)
  refine ⟨hB2, h.bytes.keep fun g hgb => (hk g (fun e => h.ne_b (e ▸ hgb))).trans (kb g hgb), own_keep ho fun g hgb => hk g (fun e => own_blk ho hB (by decide) (e ▸ hgb)), own_keep h.body fun g hgb => (hk g (fun e => h.ne_y (e ▸ hgb))).trans (ky g hgb), h.apart, ?_, ?_⟩
  · rintro k (hk | hk | hk | hk)
    · exact h.mine k (.inl hk)
    · exact h.mine k (.inr (.inl hk))
    · rcases hat with e | ⟨g, e, hge⟩
      · exact h.mine k (.inr (.inr (.inl (e ▸ hk))))
      · rw [e] at hk
        cases hk
        exact .inr (Nat.le_trans h.low hge)
    · exact h.mine k (.inr (.inr (.inr hk)))
  · have := hg.size
    have := h.low
    simp [World.setCell]
    omega
theorem RdAt.grownY (h : RdAt N K w R fed s b bv hv yv wrong used taken) (hg : w.grownBy w' yv.ownBlock) : Turned N K w w' := (Turned.refl N K w).grown hg h.low fun k hk => h.mine k (.inr (.inr (.inr hk)))
theorem RdAt.grownH (h : RdAt N K w R fed s b bv hv yv wrong used taken) (hg : w.grownBy w' hv.ownBlock) : Turned N K w w' := (Turned.refl N K w).grown hg h.low fun k hk => h.mine k (.inr (.inr (.inl hk)))
end
end Go.Proofs.YtnicmdlicbnlgaaGreatDoor
