/-
  Numbers out of bytes, either end first: plain.
-/
import Derived.WalkKit
namespace Go.Proofs.Ytnckmaieghlpmaa
open Go.RowKit
set_option linter.unusedVariables false

def le : List UInt8 → Nat
  | [] => 0
  | x :: r => x.toNat + 256 * le r
def be (l : List UInt8) : Nat := le l.reverse
def num (little : Bool) (l : List UInt8) : Nat := if little then le l else be l

theorem le_append (a b : List UInt8) : le (a ++ b) = le a + 256 ^ a.length * le b := by
  induction a with
  | nil => simp [le]
  | cons x r ih => simp only [List.cons_append, le, ih, List.length_cons, Nat.pow_succ]; rw [Nat.mul_add, Nat.mul_comm (256 ^ r.length) 256, Nat.mul_assoc]; omega
theorem le_lt (a : List UInt8) : le a < 256 ^ a.length := by
  induction a with
  | nil => simp [le]
  | cons x r ih =>
    have hx : x.toNat < 256 := x.toNat_lt
    simp only [le, List.length_cons, Nat.pow_succ]; omega
theorem be_lt (a : List UInt8) : be a < 256 ^ a.length := by have := le_lt a.reverse; simpa [be] using this
theorem le_snoc (a : List UInt8) (x : UInt8) : le (a ++ [x]) = le a + x.toNat * 256 ^ a.length := by
  rw [le_append]; simp [le, Nat.mul_comm]
theorem be_snoc (a : List UInt8) (x : UInt8) : be (a ++ [x]) = be a * 256 + x.toNat := by
  simp [be, le]; omega
theorem be_cons (x : UInt8) (a : List UInt8) : be (x :: a) = x.toNat * 256 ^ a.length + be a := by
  unfold be; rw [List.reverse_cons, le_snoc, List.length_reverse]; omega
theorem be_reverse (a : List UInt8) : be a.reverse = le a := by simp [be]
theorem le_reverse (a : List UInt8) : le a.reverse = be a := rfl
theorem num_lt (little : Bool) (a : List UInt8) : num little a < 256 ^ a.length := by
  unfold num; split
  · exact le_lt a
  · exact be_lt a
theorem pow256_le {k n : Nat} (h : k ≤ n) : 256 ^ k ≤ 256 ^ n := Nat.pow_le_pow_right (by decide) h

/-- the bytes of a number, the lowest first -/
def leB : Nat → Nat → List UInt8
  | _, 0 => []
  | n, m + 1 => UInt8.ofNat (n % 256) :: leB (n / 256) m
def numB (little : Bool) (n m : Nat) : List UInt8 := if little then leB n m else (leB n m).reverse

theorem leB_length (n m : Nat) : (leB n m).length = m := by
  induction m generalizing n with
  | zero => rfl
  | succ m ih => simp [leB, ih]
theorem numB_length (little : Bool) (n m : Nat) : (numB little n m).length = m := by
  unfold numB; split <;> simp [leB_length]
theorem leB_get (n m i : Nat) (h : i < m) : (leB n m)[i]? = some (UInt8.ofNat (n / 256 ^ i % 256)) := by
  induction m generalizing n i with
  | zero => omega
  | succ m ih =>
    cases i with
    | zero => simp [leB]
    | succ i =>
      simp only [leB, List.getElem?_cons_succ]
      rw [ih (n / 256) i (by omega), Nat.div_div_eq_div_mul, Nat.pow_succ, Nat.mul_comm 256]
theorem leB_snoc (n m : Nat) : leB n (m + 1) = leB n m ++ [UInt8.ofNat (n / 256 ^ m % 256)] := by
  induction m generalizing n with
  | zero => simp [leB]
  | succ m ih =>
    rw [leB, ih (n / 256), leB, List.cons_append, Nat.div_div_eq_div_mul, Nat.pow_succ, Nat.mul_comm (256 ^ m) 256]
theorem le_leB (n m : Nat) : le (leB n m) = n % 256 ^ m := by
  induction m generalizing n with
  | zero => simp [leB, le, Nat.mod_one]
  | succ m ih =>
    simp only [leB, le, ih]
    have hx : (UInt8.ofNat (n % 256)).toNat = n % 256 := by simp
    rw [hx, Nat.pow_succ, Nat.mul_comm (256 ^ m) 256, Nat.mod_mul]
theorem num_numB (little : Bool) (n m : Nat) : num little (numB little n m) = n % 256 ^ m := by
  unfold num numB
  cases little
  · simp only [Bool.false_eq_true, if_false]; rw [be_reverse, le_leB]
  · simp only [if_true]; exact le_leB n m
theorem numB_get (little : Bool) (n m k : Nat) (h : k < m) : (numB little n m)[k]? = some (UInt8.ofNat (n / 256 ^ (if little then k else m - 1 - k) % 256)) := by
  unfold numB
  cases little
  · simp only [Bool.false_eq_true, if_false]
    rw [List.getElem?_reverse (by rw [leB_length]; exact h), leB_length, leB_get _ _ _ (by omega)]
  · simp only [if_true]; exact leB_get n m k h
end Go.Proofs.Ytnckmaieghlpmaa
