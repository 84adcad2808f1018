/-
  The walk of horologelaw07.known.
-/
import Derived.Test.YtnckmaieghlpmaaUs
import Derived.Test.YtnckmaieghlpmaaRsum
namespace Go.Proofs.Ytnckmaieghlpmaa
open Go.RowKit
set_option linter.unusedVariables false

set_option maxHeartbeats 400000 in
theorem known7 (w : World) :
    Calls Try.prog 23 #[] w fun e w' => e = .returned (.bool true) ∧ Below w.heap.size w w' := by
  have hB0 : Bs (w.alloc (Obj.cells #[Value.int IntKind.u8 1, Value.int IntKind.u8 2] 5)) (.slice (some ⟨w.heap.size, 0, none⟩) 2 2) [1, 2] := bs_new w [1, 2] _ 5 _ rfl (by decide)
  have n1 : getN false [1, 2] 0 2 = 258 := by decide
  have n2 : getN true [1, 2] 0 2 = 513 := by decide
  have n3 : pad 5 = 3 := by decide
  have n4 : pad 8 = 0 := by decide
  have n5 : csum [[0, 1, 242, 3, 244, 245, 246, 247]].flatten = 8717 := by decide
  have N5 := Lib.hid n5
  have N1 := Lib.hid n1
  have N2 := Lib.hid n2
  have N3 := Lib.hid n3
  have N4 := Lib.hid n4
  clear n5 n1 n2 n3 n4
  go_enter Try.func23, Try.ntmps23
  go_wp2_with fail
  refine (u16_any _ _ [1, 2] false 0 hB0).mono ?_; rintro e w1 ⟨rfl, hb1⟩
  rw [N1.out]
  have hB1 := hB0.below hb1
  have hc1 := below_past hb1
  clear hb1 hB0
  go_wp2_with fail
  refine (u16_any _ _ [1, 2] true 0 hB1).mono ?_; rintro e w2 ⟨rfl, hb2⟩
  rw [N2.out]
  have hc2 := hc1.trans (hb2.mono hc1.size)
  clear hb2 hB1 hc1
  go_wp2_with fail
  refine (pad_any _ 5 (by omega)).mono ?_; rintro e w3 ⟨rfl, rfl⟩
  rw [N3.out]
  go_wp2_with fail
  refine (pad_any _ 8 (by omega)).mono ?_; rintro e w3 ⟨rfl, rfl⟩
  rw [N4.out]
  go_wp2_with fail
  refine (sum_any _ _ _ [[0, 1, 242, 3, 244, 245, 246, 247]] (by decide) (by decide) (rows2_one _ _ (bs_new w2 [0, 1, 242, 3, 244, 245, 246, 247] _ 5 _ rfl (by decide)) (by simp))).mono ?_; rintro e w3 ⟨rfl, rfl⟩
  rw [N5.out]
  go_wp2_with fail
  go_ret
  exact ⟨rfl, (hc2.trans ((below_alloc _ _).mono hc2.size)).trans ((below_alloc _ _).mono (by have := hc2.size; simp; omega))⟩
end Go.Proofs.Ytnckmaieghlpmaa
