/-
  The law FragBound on arguments as they come.
-/
import Derived.Test.YtnckmaieghlpmaaLawFbound
namespace Go.Proofs.Ytnckmaieghlpmaa
open Go.RowKit
set_option linter.unusedVariables false
theorem i64_rng {x : Int} (F : (Lit.int .i64 x).wf = true) : -9223372036854775808 ≤ x ∧ x ≤ 9223372036854775807 := by
  simpa [Lit.wf, IntKind.min, IntKind.max, IntKind.signed, IntKind.bits] using F
theorem law_fbound' (W : World) (x0 x1 : Int) (v2 : Value) (F0 : (Lit.int .i64 x0).wf = true) (F1 : (Lit.int .i64 x1).wf = true) (F2 : ∃ a L c, v2 = .slice a L.length c ∧ L.length ≤ c ∧ c ≤ 9223372036854775807 ∧ PsAt W a L ∧ PsArg W L) :
    Calls Try.prog 21 #[.int .i64 x0, .int .i64 x1, v2] W fun e W' => e = .returned (.bool true) ∧ Below W.heap.size W W' := by
  obtain ⟨a, L, c, rfl, hl, hc, hL, hA⟩ := F2
  exact law_fbound W x0 x1 a c L hl hc hL hA (i64_rng F0).1 (i64_rng F0).2 (i64_rng F1).2
end Go.Proofs.Ytnckmaieghlpmaa
