/-
  What the row's list gives (the library's own variables), and an argument that is an api.Request, opened.
-/
import Derived.Test.YtnicmdlicbnlgaaGreatDoorSm
import Derived.Test.YtnicmdlicbnlgaaGreatDoorShelf
import Derived.Test.YtnicmdlicbnlgaaGreatDoorRows
import Derived.WalkKit
import Derived.ProofKit
import Derived.OpenShut
import Derived.Deep.DeepHandedRow
import Derived.Deep.Slices
import Derived.Deep.Fields
import Derived.ChangeSame
import Derived.Lib.SmallJoins
import Derived.Lib.LaidTab
import Derived.Lib.LaidU8
import Derived.Lib.LaidCase
import Derived.Shelf.Vars
import Derived.PinnedBridge
import Derived.Lay
import Derived.WideWitness
import Derived.MakeChecks
namespace Go.Proofs.YtnicmdlicbnlgaaGreatDoor
open Go.RowKit Go.ChangeShapes Go.WideShapes Go.ChangeAt Go.Joins Go.Deep
set_option linter.unusedVariables false

theorem laidOut : laidOutB Tryz.prog = true := by kernel_rfl
theorem ownK : ownKnob Tryz.prog.godebug = none := by kernel_rfl

/-! ### the listed variables -/
theorem tabIs_of_reads {P : Program} {W : World} {name : String} {k : IntKind} {zs : List Int} {g : Nat} {t e : TypeId} {n : Nat}
    (hg : P.globalNamed name = some g) (hty : (P.globals[g]?).map (·.type) = some t) (ht : P.underlying t = some (.array n e)) (he : P.underlying e = some (.int k)) (hce : P.cellsOf e = 1) (hct : P.cellsOf t = n)
    (h : Lib.VarReads P W name (Lib.tabData k zs)) : Lib.TabIs P W name k zs := by
  obtain ⟨g', t', cs, fuel, p, hg', ht', hvar, hd⟩ := h
  obtain rfl := Option.some.inj (hg.symm.trans hg')
  obtain rfl := Option.some.inj (hty.symm.trans ht')
  unfold Lib.TabIs
  rw [hvar, ← Lib.cells_of_tab ht he hce hct hd]

theorem pow_eq : (Rows.laid_internal_strconv_uint64pow10 : DataW Unit) = Lib.tabData .u64 Lib.pow10Tab := by kernel_rfl
theorem acc_eq : (Rows.laid_unicode_utf8_acceptRanges : DataW Unit) = Lib.acceptData := by kernel_rfl
theorem first_eq : Rows.laid_unicode_utf8_first = Lib.firstData := Pinned.utf8First_eq
theorem cases_eq : Rows.laid_unicode_CaseRanges = Lib.caseData := Pinned.caseRanges_eq
theorem u8Extra : U8Extra Tryz.prog Tryz.lays159_ren := ⟨by kernel_rfl, by kernel_rfl, by kernel_rfl, by kernel_rfl, by kernel_rfl, by kernel_rfl, by kernel_rfl⟩
theorem caseExtra : CaseExtra Tryz.prog Tryz.lays159_ren := ⟨by kernel_rfl, by kernel_rfl, by kernel_rfl, by kernel_rfl, by kernel_rfl, by kernel_rfl⟩

/-- The environment out of a list that names the four tables. -/
theorem env_of {W : World} {laid : List (String × DataW Unit)} (hp : (laid.all fun x => x.2.handleName?.isNone) = true)
    (h1 : ("unicode.CaseRanges", Rows.laid_unicode_CaseRanges) ∈ laid) (h2 : ("unicode/utf8.first", Rows.laid_unicode_utf8_first) ∈ laid)
    (h3 : ("unicode/utf8.acceptRanges", (Rows.laid_unicode_utf8_acceptRanges : DataW Unit)) ∈ laid) (h4 : ("internal/strconv.uint64pow10", (Rows.laid_internal_strconv_uint64pow10 : DataW Unit)) ∈ laid)
    (hL : laidMetH Tryz.prog laid W) (hS : W.ShapedOpen Tryz.prog) : Env W := by
  rw [MakeChecks.laidMetH_plain _ _ _ hp] at hL
  refine ⟨?_, ?_, ?_, ?_⟩
  · exact caseVar_of_reads { Tryz.lays159 with } (by kernel_rfl) caseExtra (cases_eq ▸ Lib.laidMet.reads hL h1)
  · exact utf8Tabs_of_reads { Tryz.lays159 with } u8Extra (first_eq ▸ Lib.laidMet.reads hL h2) (acc_eq ▸ Lib.laidMet.reads hL h3)
  · exact tabIs_of_reads (g := 4) (t := 191) (e := 167) (n := 20) (by kernel_rfl) (by kernel_rfl) (by kernel_rfl) (by kernel_rfl) (by kernel_rfl) (by kernel_rfl) (pow_eq ▸ Lib.laidMet.reads hL h4)
  · exact cell_of_shapedOpen_int (P := Tryz.prog) (g := 0) (t := 3) (zero := #[.int .i64 0]) hS (of_decide_eq_true (by kernel_rfl)) (by kernel_rfl) rfl (by kernel_rfl) (by kernel_rfl) Tryz.underlying3

/-! ### bulk -/
theorem bulk_mem {H : Type} {d : DataW H} {l : List (DataW H)} (h : d ∈ l) : Rows.uptoBulk d ≤ Rows.uptoBulkAll l := by
  induction l with
  | nil => cases h
  | cons x r ih =>
    have e : Rows.uptoBulkAll (x :: r) = Rows.uptoBulk x + Rows.uptoBulkAll r := by simp only [Rows.uptoBulkAll]
    rcases List.mem_cons.1 h with rfl | h
    · omega
    · have := ih h
      omega
theorem bulk_str {H : Type} (s : ByteArray) : Rows.uptoBulk (DataW.lit (H := H) (.string s.data.toList)) = s.size + 1 := by
  simp only [Rows.uptoBulk, Array.length_toList]
  rfl
theorem bulk_agg {H : Type} (l : List (DataW H)) : Rows.uptoBulk (.agg l) = Rows.uptoBulkAll l + 1 := by simp only [Rows.uptoBulk]
theorem bulk_slice {H : Type} (l r : List (DataW H)) : Rows.uptoBulk (.slice l r) = Rows.uptoBulkAll l + Rows.uptoBulkAll r + 1 := by simp only [Rows.uptoBulk]
theorem bulk_cons {H : Type} (d : DataW H) (l : List (DataW H)) : Rows.uptoBulkAll (d :: l) = Rows.uptoBulk d + Rows.uptoBulkAll l := by simp only [Rows.uptoBulkAll]
theorem bulk_nil {H : Type} : Rows.uptoBulkAll ([] : List (DataW H)) = 0 := by simp only [Rows.uptoBulkAll]
theorem bulk_count {H : Type} (l : List (DataW H)) : l.length ≤ Rows.uptoBulkAll l := by
  have one : ∀ d : DataW H, 1 ≤ Rows.uptoBulk d := fun d => by
    cases d with
    | lit x => cases x <;> simp [Rows.uptoBulk]
    | nil => simp [Rows.uptoBulk]
    | ptr d => simp [Rows.uptoBulk]
    | slice a b => simp [Rows.uptoBulk]
    | agg a => simp [Rows.uptoBulk]
    | iface a b => simp [Rows.uptoBulk]
    | map a => simp [Rows.uptoBulk]
    | held a => simp [Rows.uptoBulk]
  induction l with
  | nil => simp
  | cons x r ih =>
    have := one x
    rw [bulk_cons, List.length_cons]
    omega

/-! ### arguments opened -/
section
variable {H : Type} {enc : TypeId × Value → H} {P : Program} {w : World} {base : Nat} {spare : Nat → Bool} {held : Bool}
/-- A slice of structs of one-cell fields. -/
theorem open_slice_fields {t e : TypeId} {fs : Array Field} {fuel : Nat} {cs : List Value} {x : DataW H × List MemPlace} (ht : P.underlying t = some (.slice e)) (he : P.underlying e = some (.struct fs))
    (hone : oneCellFields P fs = true) (hC : P.cellsOf e = fs.size) (h : DataW.trod enc P w base spare held fuel t cs = some x) :
    (cs = [.slice none 0 0] ∧ x = (.nil, [])) ∨
    ∃ (a : Addr) (len cap m : Nat) (D : Nat → DataW H) (Pl : Nat → List MemPlace), cs = [.slice (some a) len cap] ∧ base ≤ a.block ∧ len ≤ cap ∧ cap ≤ maxLen ∧ m = (if spare a.block then cap else len) ∧
      x = (.slice ((List.range len).map D) ((List.range (m - len)).map fun j => D (len + j)), MemPlace.row a (m * fs.size) ++ (List.range m).flatMap Pl) ∧
      ∀ i, i < m → ∃ (ys : List (DataW H × List MemPlace)) (n : Nat), D i = .agg (ys.map (·.1)) ∧ Pl i = ys.flatMap (·.2) ∧ ys.length = fs.size ∧
        ∀ (j : Nat) (f : Field), fs[j]? = some f → ∃ (v : Value) (y : DataW H × List MemPlace), w.cell? (a.add (i * fs.size + j)) = some v ∧ ys[j]? = some y ∧ DataW.trod enc P w base spare held n f.type [v] = some y := by
  rcases open_slice ht h with h0 | ⟨a, len, cap, m, n, D, Pl, hcs, hb, hl, hm, hmm, hx, hi⟩
  · exact .inl h0
  · refine .inr ⟨a, len, cap, m, D, Pl, hcs, hb, hl, hm, hmm, by rw [hC] at hx; exact hx, fun i him => ?_⟩
    obtain ⟨cs', hc, ht'⟩ := hi i him
    rw [hC] at hc
    obtain ⟨ys, n', hn', hy, hlen, hyl, hf⟩ := DataW.trod_struct he ht'
    obtain ⟨_, hcl, hat⟩ := World.cells?_some hc
    simp only [Prod.mk.injEq] at hy
    refine ⟨ys, n', hy.1, hy.2, hyl, fun j f hj => ?_⟩
    obtain ⟨ho, hk⟩ := hone_of hone j f hj
    have hjl : j < fs.size := (Array.getElem?_eq_some_iff.1 hj).1
    have hcell := hat j hjl
    have hv : cs'[j]? = some (cs'[j]'(by omega)) := List.getElem?_eq_getElem (by omega)
    have h1 := hf j f hj
    rw [ho, hk] at h1
    have hone' : (cs'.drop j).take 1 = [cs'[j]'(by omega)] := by
      rw [List.drop_eq_getElem_cons (by omega)]
      rfl
    rw [hone'] at h1
    have hys : ys[j]? = some (ys[j]'(by omega)) := List.getElem?_eq_getElem (by omega)
    refine ⟨_, _, ?_, hys, h1.trans hys⟩
    rw [← Go.Deep.add_add, hcell, hv]
/-- A struct of five one-cell fields, by value. -/
theorem open_agg5 {r : Reach} {b0 : Nat} {t : TypeId} {f0 f1 f2 f3 f4 : Field} {v : Value} {d : DataW H} {p : List MemPlace} (hs : P.underlying t = some (.struct #[f0, f1, f2, f3, f4])) (hone : oneCellFields P #[f0, f1, f2, f3, f4] = true) (hC : P.cellsOf t = 5)
    (hv : Value.okWide P w r b0 t v) (h : DataW.Trod enc P w base spare held t v d p) :
    ∃ (v0 v1 v2 v3 v4 : Value) (y0 y1 y2 y3 y4 : DataW H × List MemPlace) (n : Nat), v = .agg #[v0, v1, v2, v3, v4] ∧ d = .agg [y0.1, y1.1, y2.1, y3.1, y4.1] ∧
      DataW.trod enc P w base spare held n f0.type [v0] = some y0 ∧ DataW.trod enc P w base spare held n f1.type [v1] = some y1 ∧ DataW.trod enc P w base spare held n f2.type [v2] = some y2 ∧ DataW.trod enc P w base spare held n f3.type [v3] = some y3 ∧ DataW.trod enc P w base spare held n f4.type [v4] = some y4 := by
  obtain ⟨cs, rfl, hsz⟩ := okWide_struct hs hv
  obtain ⟨l⟩ := cs
  match l, hsz.trans hC with
  | [c0, c1, c2, c3, c4], _ =>
    obtain ⟨fuel, hf⟩ := h
    obtain ⟨xs, n, _, hx, _, hlen, hg⟩ := DataW.trod_struct hs hf
    obtain ⟨o0, k0⟩ := hone_of hone 0 f0 rfl
    obtain ⟨o1, k1⟩ := hone_of hone 1 f1 rfl
    obtain ⟨o2, k2⟩ := hone_of hone 2 f2 rfl
    obtain ⟨o3, k3⟩ := hone_of hone 3 f3 rfl
    obtain ⟨o4, k4⟩ := hone_of hone 4 f4 rfl
    match xs, hlen with
    | [y0, y1, y2, y3, y4], _ =>
      simp only [Prod.mk.injEq] at hx
      exact ⟨c0, c1, c2, c3, c4, y0, y1, y2, y3, y4, n, rfl, by simpa using hx.1, by simpa [Value.cells, o0, k0] using hg 0 f0 rfl, by simpa [Value.cells, o1, k1] using hg 1 f1 rfl, by simpa [Value.cells, o2, k2] using hg 2 f2 rfl, by simpa [Value.cells, o3, k3] using hg 3 f3 rfl, by simpa [Value.cells, o4, k4] using hg 4 f4 rfl⟩
end

/-- Heads that are read: where they lie. -/
theorem open_heads {H : Type} {enc : TypeId × Value → H} {W : World} {spare : Nat → Bool} {held : Bool} {fuel : Nat} {v : Value} {x : DataW H × List MemPlace}
    (h : DataW.trod enc Tryz.prog W 0 spare held fuel 31 [v] = some x) :
    ∃ (a : Option Addr) (b off n cap : Nat) (hs : List Hd), v = .slice a n cap ∧ n = hs.length ∧ n ≤ cap ∧ (0 < n → a = some ⟨b, off, none⟩) ∧ HeadsAt W b off hs ∧
      ∀ h ∈ hs, h.n.size + h.v.size ≤ Rows.uptoBulk x.1 := by
  rcases open_slice_fields Tryz.underlying31 Tryz.underlying88 (by kernel_rfl) (by kernel_rfl) h with ⟨hcs, rfl⟩ | ⟨a, len, cap, m, D, Pl, hcs, _, hl, _, hm, rfl, hi⟩
  · obtain rfl : v = .slice none 0 0 := by simpa using hcs
    exact ⟨none, 0, 0, 0, 0, [], rfl, rfl, Nat.le_refl _, fun h => absurd h (by omega), (fun i h => by simp at h), by simp⟩
  · obtain rfl : v = .slice (some a) len cap := by simpa using hcs
    have hlm : len ≤ m := by rw [hm]; split <;> omega
    have one : ∀ i, i < len → ∃ hd : Hd, W.cell? (a.add (i * 2)) = some (.string hd.n) ∧ W.cell? (a.add (i * 2 + 1)) = some (.string hd.v) ∧ hd.n.size + hd.v.size ≤ Rows.uptoBulk (D i) := by
      intro i hil
      obtain ⟨ys, n, hD, _, hy, hf⟩ := hi i (by omega)
      obtain ⟨v0, y0, hc0, hy0, ht0⟩ := hf 0 _ rfl
      obtain ⟨v1, y1, hc1, hy1, ht1⟩ := hf 1 _ rfl
      obtain ⟨s0, e0, rfl, _⟩ := DataW.trod_string Tryz.underlying9 ht0
      obtain ⟨s1, e1, rfl, _⟩ := DataW.trod_string Tryz.underlying9 ht1
      obtain rfl : v0 = .string s0 := by simpa using e0
      obtain rfl : v1 = .string s1 := by simpa using e1
      refine ⟨⟨s0, s1⟩, hc0, hc1, ?_⟩
      obtain ⟨z0, z1, rfl⟩ : ∃ z0 z1, ys = [z0, z1] := by
        match ys, hy with
        | [z0, z1], _ => exact ⟨z0, z1, rfl⟩
      obtain rfl : z0 = _ := Option.some.inj hy0
      obtain rfl : z1 = _ := Option.some.inj hy1
      rw [hD]
      simp only [List.map_cons, List.map_nil, bulk_agg, bulk_cons, bulk_nil, bulk_str]
      omega
    have hch : ∃ F : Nat → Hd, ∀ i, i < len → W.cell? (a.add (i * 2)) = some (.string (F i).n) ∧ W.cell? (a.add (i * 2 + 1)) = some (.string (F i).v) ∧ (F i).n.size + (F i).v.size ≤ Rows.uptoBulk (D i) :=
      ⟨fun i => if hil : i < len then Classical.choose (one i hil) else ⟨⟨#[]⟩, ⟨#[]⟩⟩, fun i hil => by
        simp only [hil, dif_pos]
        exact Classical.choose_spec (one i hil)⟩
    obtain ⟨F, hF⟩ := hch
    obtain ⟨b, off, spot⟩ := a
    have hnone : 0 < len → spot = none := fun h0 => by
      have := (hF 0 h0).1
      have e : (Addr.add ⟨b, off, spot⟩ (0 * 2)) = ⟨b, off, spot⟩ := by simp [Addr.add]
      rw [e] at this
      exact cell_spot this
    refine ⟨some ⟨b, off, spot⟩, b, off, len, cap, (List.range len).map F, rfl, by simp, hl, fun h0 => by rw [hnone h0], fun i hil => ?_, fun h hh => ?_⟩
    · have hil' : i < len := by simpa using hil
      obtain ⟨k0, k1, _⟩ := hF i hil'
      obtain rfl := hnone (by omega)
      rw [Addr.add_lit] at k0 k1
      simp only [List.getElem_map, List.getElem_range]
      exact ⟨k0, by rw [Nat.add_assoc]; exact k1⟩
    · obtain ⟨i, hi', rfl⟩ := List.mem_map.1 hh
      have hil : i < len := List.mem_range.1 hi'
      refine Nat.le_trans (hF i hil).2.2 ?_
      rw [bulk_slice]
      have := bulk_mem (H := H) (d := D i) (l := (List.range len).map D) (List.mem_map.2 ⟨i, hi', rfl⟩)
      omega

set_option maxRecDepth 100000 in
/-- An api.Request that is read. -/
theorem open_req {H : Type} {enc : TypeId × Value → H} {W : World} {r : Reach} {b0 : Nat} {spare : Nat → Bool} {held : Bool} {v : Value} {d : DataW H} {p : List MemPlace}
    (hv : Value.okWide Tryz.prog W r b0 33 v) (h : DataW.Trod enc Tryz.prog W 0 spare held 33 v d p) :
    ∃ (mt pt rb : ByteArray) (close : Bool) (a : Option Addr) (b off n cap : Nat) (hs : List Hd), v = .agg #[.string mt, .string pt, .slice a n cap, .string rb, .bool close] ∧ n = hs.length ∧ n ≤ cap ∧
      (0 < n → a = some ⟨b, off, none⟩) ∧ HeadsAt W b off hs ∧ mt.size + pt.size + rb.size ≤ Rows.uptoBulk d ∧ ∀ h ∈ hs, h.n.size + h.v.size ≤ Rows.uptoBulk d := by
  obtain ⟨v0, v1, v2, v3, v4, y0, y1, y2, y3, y4, n, rfl, rfl, h0, h1, h2, h3, h4⟩ := open_agg5 Tryz.underlying33 (by kernel_rfl) (by kernel_rfl) hv h
  obtain ⟨s0, e0, rfl, _⟩ := DataW.trod_string Tryz.underlying9 h0
  obtain ⟨s1, e1, rfl, _⟩ := DataW.trod_string Tryz.underlying9 h1
  obtain ⟨s3, e3, rfl, _⟩ := DataW.trod_string Tryz.underlying9 h3
  obtain ⟨cl, e4, rfl⟩ := DataW.trod_bool Tryz.underlying4 h4
  obtain rfl : v0 = .string s0 := by simpa using e0
  obtain rfl : v1 = .string s1 := by simpa using e1
  obtain rfl : v3 = .string s3 := by simpa using e3
  obtain rfl : v4 = .bool cl := by simpa using e4
  obtain ⟨a, b, off, n, cap, hs, rfl, hn, hcap, ha, hH, hz⟩ := open_heads h2
  simp only [bulk_agg, bulk_cons, bulk_nil, bulk_str]
  exact ⟨s0, s1, s3, cl, a, b, off, n, cap, hs, rfl, hn, hcap, ha, hH, by omega, fun h hh => by have := hz h hh; omega⟩
end Go.Proofs.YtnicmdlicbnlgaaGreatDoor
