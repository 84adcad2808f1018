/-
  The law FragOldest on arguments as they come.
-/
import Derived.Test.YtnckmaieghlpmaaLawFold
namespace Go.Proofs.Ytnckmaieghlpmaa
open Go.RowKit
set_option linter.unusedVariables false
theorem law_fold' (W : World) (y : PartD) (u : Value) (x1 : Int) (F0 : y.nm.fit ∧ Bs W u y.bs ∧ -9223372036854775808 ≤ y.pos ∧ y.pos ≤ 9223372036854775807) (F1 : (Lit.int .u8 x1).wf = true) :
    Calls Try.prog 22 #[.agg (partA y u), .int .u8 x1] W fun e W' => e = .returned (.bool true) ∧ Below W.heap.size W W' := by
  have hx : 0 ≤ x1 ∧ x1 ≤ 255 := by simpa [Lit.wf, IntKind.min, IntKind.max, IntKind.signed, IntKind.bits] using F1
  obtain ⟨n, rfl⟩ := Int.eq_ofNat_of_zero_le hx.1
  obtain ⟨a, c, rfl, _⟩ := F0.2.1
  exact law_fold W y _ n F0.1 rfl (by omega)
end Go.Proofs.Ytnckmaieghlpmaa
