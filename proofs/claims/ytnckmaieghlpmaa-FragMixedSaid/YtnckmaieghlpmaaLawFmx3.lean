/-
  The law FragMixed on arguments as they come.
-/
import Derived.Test.YtnckmaieghlpmaaLawFmx2
namespace Go.Proofs.Ytnckmaieghlpmaa
open Go.RowKit
set_option linter.unusedVariables false
theorem law_fmx' (W : World) (y : PartD) (u : Value) (x1 : Int) (v2 v3 v4 v5 : Value) (F0 : y.nm.fit ∧ Bs W u y.bs ∧ -9223372036854775808 ≤ y.pos ∧ y.pos ≤ 9223372036854775807) (F1 : (Lit.int .u8 x1).wf = true) (F2 : ∃ bs, Bs W v2 bs) (F3 : ∃ bs, Bs W v3 bs) (F4 : ∃ bs, Bs W v4 bs) (F5 : ∃ bs, Bs W v5 bs) :
    Calls Try.prog 20 #[.agg (partA y u), .int .u8 x1, v2, v3, v4, v5] W fun e W' => e = .returned (.bool true) ∧ Below W.heap.size W W' := by
  have hx : 0 ≤ x1 ∧ x1 ≤ 255 := by simpa [Lit.wf, IntKind.min, IntKind.max, IntKind.signed, IntKind.bits] using F1
  obtain ⟨k, rfl⟩ := Int.eq_ofNat_of_zero_le hx.1
  obtain ⟨a, ha⟩ := F2
  obtain ⟨b, hb⟩ := F3
  obtain ⟨s, hs⟩ := F4
  obtain ⟨w, hw⟩ := F5
  have hu : u.oneCell' = true := by obtain ⟨a, c, rfl, _⟩ := F0.2.1; rfl
  exact law_fmx W y u k v2 v3 v4 v5 a b s w F0.1 hu (by omega) ha hb hs hw
end Go.Proofs.Ytnckmaieghlpmaa
