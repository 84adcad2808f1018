/-
  The law FragWhole on arguments as they come.
-/
import Derived.Test.YtnckmaieghlpmaaLawFwh2
namespace Go.Proofs.Ytnckmaieghlpmaa
open Go.RowKit
set_option linter.unusedVariables false
theorem law_fwh' (W : World) (x0 x1 : Int) (y : PartD) (u v3 v4 v5 : Value) (t : Bool) (F1 : (Lit.int .i64 x1).wf = true) (F2 : y.nm.fit ∧ Bs W u y.bs ∧ -9223372036854775808 ≤ y.pos ∧ y.pos ≤ 9223372036854775807) (F3 : ∃ bs, Bs W v3 bs) (F4 : ∃ bs, Bs W v4 bs) (F5 : ∃ bs, Bs W v5 bs) :
    Calls Try.prog 19 #[.int .i64 x0, .int .i64 x1, .agg (partA y u), v3, v4, v5, .bool t] W fun e W' => e = .returned (.bool true) ∧ Below W.heap.size W W' := by
  have hx : -9223372036854775808 ≤ x1 ∧ x1 ≤ 9223372036854775807 := by simpa [Lit.wf, IntKind.min, IntKind.max, IntKind.signed, IntKind.bits] using F1
  obtain ⟨b, hb⟩ := F3
  obtain ⟨s, hs⟩ := F4
  obtain ⟨w, hw⟩ := F5
  have hu : u.oneCell' = true := by obtain ⟨a, c, rfl, _⟩ := F2.2.1; rfl
  exact law_fwh W x0 x1 y u v3 v4 v5 b s w t F2.1 hu hb hs hw hx.2
end Go.Proofs.Ytnckmaieghlpmaa
