/-
  The walk of Row.Cut.
-/
import Derived.Test.YtnckmaieghlpmaaKit
namespace Go.Proofs.Ytnckmaieghlpmaa
open Go.RowKit
set_option linter.unusedVariables false

/-- what Cut returns where the bytes are there -/
def CutYes (w : World) (bs : List UInt8) (n m : Nat) (e : Ending) (w' : World) : Prop :=
  ∃ v, e = .returned (.tuple #[v, .bool true]) ∧ Bsc w' v ((bs.drop n).take m) m ∧ Below w.heap.size w w'
def CutNo (w : World) (e : Ending) (w' : World) : Prop :=
  e = .returned (.tuple #[.slice none 0 0, .bool false]) ∧ Below w.heap.size w w'

set_option maxHeartbeats 400000 in
theorem cut_yes (w : World) (v : Value) (bs : List UInt8) (lit : Bool) (n m : Nat) (hb : Bs w v bs) (h : n + m ≤ bs.length) :
    Calls Try.prog 28 #[.agg #[v, .bool lit], .int .i64 n, .int .i64 m] w (CutYes w bs n m) := by
  obtain ⟨a, c, rfl, hl1, hl2, hat⟩ := hb
  have HAT := Lib.hid hat
  clear hat
  unfold maxLen at hl2
  go_enter Try.func28, Try.ntmps28
  go_wp2
  · go_ret2
    have hb : Below w.heap.size w (w.alloc (Obj.cells #[Value.slice a bs.length c, Value.bool lit] 30)) := (Below.refl _ _).alloc (Nat.le_refl _) _
    exact ⟨_, rfl, by obtain rfl : m = 0 := by omega
                      exact bsc_nothing _ _ _ (by simp) _ (Nat.zero_le _), hb⟩
  · go_ret2
    have hb : Below w.heap.size w (w.alloc (Obj.cells #[Value.slice a bs.length c, Value.bool lit] 30)) := (Below.refl _ _).alloc (Nat.le_refl _) _
    exact ⟨_, rfl, bsc_piece (HAT.out.same (below_cells hb)) (by omega) (Nat.le_refl _) (by unfold maxLen; omega), hb⟩

set_option maxHeartbeats 400000 in
theorem cut_no (w : World) (v : Value) (bs : List UInt8) (lit : Bool) (n m : Int) (hb : Bs w v bs) (h : ¬ (0 ≤ n ∧ 0 ≤ m ∧ n + m ≤ bs.length)) :
    Calls Try.prog 28 #[.agg #[v, .bool lit], .int .i64 n, .int .i64 m] w (CutNo w) := by
  obtain ⟨a, c, rfl, hl1, hl2, hat⟩ := hb
  have HAT := Lib.hid hat
  clear hat
  unfold maxLen at hl2
  by_cases h1 : n < 0
  · go_enter Try.func28, Try.ntmps28
    go_wp2
    go_ret2
    exact ⟨rfl, (Below.refl _ _).alloc (Nat.le_refl _) _⟩
  · by_cases h2 : m < 0
    · go_enter Try.func28, Try.ntmps28
      go_wp2
      go_ret2
      exact ⟨rfl, (Below.refl _ _).alloc (Nat.le_refl _) _⟩
    · by_cases h3 : (bs.length : Int) < n
      · go_enter Try.func28, Try.ntmps28
        go_wp2
        go_ret2
        exact ⟨rfl, (Below.refl _ _).alloc (Nat.le_refl _) _⟩
      · have h4 : (bs.length : Int) - n < m := by omega
        go_enter Try.func28, Try.ntmps28
        go_wp2
        go_ret2
        exact ⟨rfl, (Below.refl _ _).alloc (Nat.le_refl _) _⟩
end Go.Proofs.Ytnckmaieghlpmaa
