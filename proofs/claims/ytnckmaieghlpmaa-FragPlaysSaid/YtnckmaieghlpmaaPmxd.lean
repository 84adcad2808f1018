/-
  Two addresses, compared by ==; a part's name with one of its fields turned.
-/
import Derived.Test.YtnckmaieghlpmaaFmix
import Derived.Test.YtnckmaieghlpmaaFpart
namespace Go.Proofs.Ytnckmaieghlpmaa
open Go.RowKit
set_option linter.unusedVariables false

theorem keyT54 : Try.prog.keyTypeAt 4 54 = true := by kernel_rfl
theorem adr_eq (w : World) (s t : Bool) (A B : List UInt8) (hA : A.length = 16) (hB : B.length = 16) :
    (binOp .eql 54 (.agg (adrC s A)) (.agg (adrC t B))).run Try.prog w = .ok (.bool (decide (s = t ∧ A = B))) w := by
  have fm : ∀ (s : Bool) (A : List UInt8), A.length = 16 → (Value.agg (adrC s A)).formed Try.prog 54 = true := fun s A hA => by
    simp [Value.formed, Try.underlying54, adr_size, hA, ncells54]
  obtain ⟨r, hr, hiff⟩ := run_equalIn_deep 9996 4 54 keyT54 w 4 4 (.agg (adrC s A)) (.agg (adrC t B)) _ _ (fm s A hA) (fm t B hB) (lits_adr 1 s A hA) (lits_adr 1 t B hB)
  rw [run_eql_struct, show (10000 : Nat) = 9996 + 4 from rfl, hr]
  simp only [Result.andThen_ok]
  have : r = decide (s = t ∧ A = B) := by
    rw [Bool.eq_iff_iff, hiff, decide_eq_true_eq]
    constructor
    · intro h
      simp only [List.cons.injEq, Lit.bool.injEq] at h
      exact ⟨h.1, byteLit_inj h.2⟩
    · rintro ⟨rfl, rfl⟩; rfl
  rw [this]
end Go.Proofs.Ytnckmaieghlpmaa
