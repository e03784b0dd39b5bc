/-
  Walk: the law that bytes are read as the requests that the document says.
-/
import Derived.Test.YtnicmdlicbnlgaaGreatDoorRp
import Derived.Test.YtnicmdlicbnlgaaGreatDoorLm
namespace Go.Proofs.YtnicmdlicbnlgaaGreatDoor
open Go.RowKit
set_option linter.unusedVariables false
set_option linter.unusedSimpArgs false

set_option maxRecDepth 100000 in
set_option maxHeartbeats 3200000 in
theorem lw_reads (b : ByteArray) (w : World) (he : EnvZ w) :
    Calls Tryz.prog 4 #[.string b] w fun e w' => e = .returned (.bool true) ∧ Below w.heap.size w w' := by
  have HE := Lib.hid he; clear he
  by_cases hb : 30000 < b.size
  · go_enter Tryz.func4, Tryz.ntmps4
    go_wp2_with fail
    go_ret
    exact ⟨rfl, Below.refl _ _⟩
  · have hA1 : Hid (∀ W, EnvZ W → Calls Tryz.prog 18 #[.string b] W (AllPost W b.data.toList)) := fun W hW => rk_all b W hW (by omega)
    have hA2 : Hid (∀ W, Calls Tryz.prog 15 #[.string b] W (AllPost W b.data.toList)) := fun W => rf_All b W (by omega)
    have hh := all_heads b.data.toList
    have hl1 := (all_len b.data.toList).2
    have hbl : b.data.toList.length = b.size := by simp
    unfold AllPost at hA1 hA2
    generalize (b.data.toList.length : Int) - (allP b.data.toList).2.1.length = n1 at hA1 hA2
    generalize (allP b.data.toList).2.2 = e1 at hA1 hA2
    generalize (allP b.data.toList).1 = l1 at hA1 hA2 hh hl1
    have HH := Lib.hid hh; clear hh
    have HL1 : Hid (l1.length ≤ 30000) := by show l1.length ≤ 30000; omega
    clear hl1 hbl
    go_enter Tryz.func4, Tryz.ntmps4
    go_wp2_with fail
    refine (hA1.out _ HE.out).mono ?_
    rintro en w2 ⟨v1, t1, rfl, ht1, hm1, hb2⟩
    have HB2 := Lib.hid hb2; clear hb2
    have HT1 := Lib.hid ht1; clear ht1
    have HM1 := Lib.hid hm1; clear hm1
    go_wp2_with fail
    refine (hA2.out _).mono ?_
    rintro en w3 ⟨v2, t2, rfl, ht2, hm2, hb3⟩
    have HT1' := Lib.hid (HT1.out.below hb3)
    have HB3 := Lib.hid (bl_trans HB2.out hb3); clear hb3
    obtain ⟨X1, c1, g1, rfl, hc1, hn1, hx1, hr1⟩ := told_any HT1'.out
    obtain ⟨X2, c2, g2, rfl, hc2, hn2, hx2, hr2⟩ := told_any ht2
    have hl1 : t1.length = l1.length := by rw [← HM1.out]; simp
    have hl2 : t2.length = t1.length := by rw [hl1, ← hm2]; simp
    rw [hl2] at hx2 ⊢
    have HS := Lib.hid (lw_same X1 X2 g1 0 g2 0 t1.length c1 c2 t1 t2 w3 rfl hl2 hx1 hx2 hr1 hr2 (by rw [HM1.out, hm2]) (by rw [HM1.out]; exact HH.out) (by have := HL1.out; omega))
    clear hx1 hx2 hr1 hr2 ht2 hn1 hn2 hm2 hl2 hl1 hc1 hc2
    go_wp2_with fail
    refine HS.out.mono ?_
    rintro en w4 ⟨rfl, hb4⟩
    go_wp2_with fail
    go_ret
    exact ⟨rfl, bl_trans HB3.out hb4⟩
end Go.Proofs.YtnicmdlicbnlgaaGreatDoor
