/-
  Closed facts of the whole program that every row asks, each proved once.
-/
import Derived.Test.YtnckmaieghlpmaaZ8
namespace Go.Proofs.Ytnckmaieghlpmaa
theorem fMayEnter : Try.prog.mayEnter = true := by kernel_rfl
theorem fLifts : Try.prog.liftsFinal = false := by kernel_rfl
theorem fMake : Try.prog.make = some .cut := by kernel_rfl
theorem fRowed : mapsRowed Try.prog = true := by kernel_rfl
theorem fHeard : Try.prog.stopsHeard = true := by kernel_rfl
end Go.Proofs.Ytnckmaieghlpmaa
