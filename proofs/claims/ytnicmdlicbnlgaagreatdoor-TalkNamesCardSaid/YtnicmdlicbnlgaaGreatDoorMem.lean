/-
  Memory: bytes that a call owns; strings out of them.
-/
import Derived.Test.YtnicmdlicbnlgaaGreatDoorEnv
import Derived.Laws.BytesArg
import Derived.Laws.BytesString
namespace Go.Proofs.YtnicmdlicbnlgaaGreatDoor
open Go.RowKit
set_option linter.unusedVariables false

def u8s (l : List UInt8) : List Value := l.map fun b => .int .u8 (b.toNat : Int)
theorem u8s_len (l : List UInt8) : (u8s l).length = l.length := by simp [u8s]
theorem u8s_append (l m : List UInt8) : u8s (l ++ m) = u8s l ++ u8s m := by simp [u8s]
def strSize : Value → Nat | .string t => t.size | _ => 0
theorem u8s_one (c : UInt8) : u8s [c] = [.int .u8 (c.toNat : Int)] := rfl
theorem oneCell_int (k : IntKind) (n : Int) : ∀ u ∈ [Value.int k n], u.oneCell' = true := by simp; rfl
theorem strOf_u8 (l : List UInt8) : strOfNums (l.map fun b => (b.toNat : Int)) = ⟨l.toArray⟩ := by
  have : (strOfNums (l.map fun b => (b.toNat : Int))).data = l.toArray := by
    apply Array.ext'
    rw [strOfNums_data]
    simp [List.map_map, Function.comp_def]
  cases h : strOfNums (l.map fun b => (b.toNat : Int)) with
  | mk d => rw [h] at this; simp only at this; rw [this]
theorem oneCell_str (s : ByteArray) : ∀ u ∈ [Value.string s], u.oneCell' = true := by simp; rfl
theorem own_below {w w' : World} {base : Nat} {e : TypeId} {size : Nat} {v : Value} {n : Nat} {xs : List Value} (h : w.ownsRow base e size v n xs) (hb : Below w.heap.size w w') : w'.ownsRow base e size v n xs := by
  have hl := h.lt
  obtain ⟨h1, h2⟩ := h
  refine ⟨h1, ?_⟩
  rcases h2 with h2 | ⟨g, cap, cur, a, b, c, d⟩
  · exact .inl h2
  · subst a
    exact .inr ⟨g, cap, cur, rfl, b, by rw [hb.block g (hl g rfl).2]; exact c, d⟩
theorem own_string {w : World} {base : Nat} {v : Value} {l : List UInt8} (h : w.ownsRow base 5 1 v l.length (u8s l)) (dst : TypeId) (hd : Tryz.prog.underlying dst = some .string) :
    (convert 48 dst v).run Tryz.prog w = .ok (.string ⟨l.toArray⟩) w := by
  have hc := fun g hg => h.cells (g := g) hg
  obtain ⟨h1, h2⟩ := h
  rcases h2 with ⟨rfl, h0⟩ | ⟨g, cap, cur, rfl, h3⟩
  · have : l = [] := List.eq_nil_of_length_eq_zero h0
    subst this
    exact run_convert_bytes_nil w 48 5 Tryz.underlying48 Tryz.underlying5 0 0 dst hd
  · have hcell : ∀ i, i < l.length → w.cell? ⟨g, 0 + i, none⟩ = some (.int .u8 ((l.map fun b => (b.toNat : Int)).getD i 0)) := by
      intro i hi
      have := hc g rfl i (.int .u8 ((l.map fun b => (b.toNat : Int)).getD i 0)) (by simp [u8s, hi])
      rw [← this]
      simp only [Addr.add]
      split
      · rename_i h; subst h; rfl
      · rfl
    have := run_convert_bytes_arg w 48 5 Tryz.underlying48 Tryz.underlying5 g 0 l.length cap (l.map fun b => (b.toNat : Int)) (by simp) hcell dst hd
    rw [strOf_u8] at this
    exact this
end Go.Proofs.YtnicmdlicbnlgaaGreatDoor
