/-
  Addresses as values: a flag and sixteen bytes; udp.mixed.
-/
import Derived.Test.YtnckmaieghlpmaaUs
import Derived.Test.YtnckmaieghlpmaaOwn
import Derived.Laws.StructEq
import Derived.Deep.MidRow
import Derived.Outline
namespace Go.Proofs.Ytnckmaieghlpmaa
open Go.RowKit
set_option linter.unusedVariables false

/-- the cells of an address -/
def adrC (six : Bool) (A : List UInt8) : Array Value := (Value.bool six :: A.map byteV).toArray
theorem adr_size (six : Bool) (A : List UInt8) : (adrC six A).size = A.length + 1 := by simp [adrC]
theorem adr_list (six : Bool) (A : List UInt8) : (adrC six A).toList = Value.bool six :: A.map byteV := rfl
theorem adr_zero (six : Bool) (A : List UInt8) : (adrC six A)[0]? = some (.bool six) := by simp [adrC]

set_option maxHeartbeats 400000 in
theorem mixed_any (w : World) (s t : Bool) (A B : List UInt8) :
    Calls Try.prog 58 #[(.agg (adrC s A)), (.agg (adrC t B))] w fun e w' => e = .returned (.bool (s != t)) ∧ Below w.heap.size w w' := by
  have h1 := adr_zero s A
  have h2 := adr_zero t B
  cases s
  all_goals
    cases t
    all_goals
      go_enter Try.func58, Try.ntmps58
      go_wp2_with fail
      go_ret
      exact ⟨rfl, ((Below.refl _ _).alloc (Nat.le_refl _) _).alloc (by simp) _⟩
end Go.Proofs.Ytnckmaieghlpmaa
