/-
  Small laws on bits: what and, or, xor make of natural numbers, in the walk's spelling.
-/
import Derived.WalkKit
import Derived.Lib.EndianBits
namespace Go.Proofs.Ytnckmaieghlpmaa
open Go.RowKit
set_option linter.unusedVariables false

theorem and64_16 (t : Nat) (h : t < 18446744073709551616) : bits BinOp.and IntKind.u64 (t : Int) 65535 = ((t % 65536 : Nat) : Int) := by
  have := bits_mask .u64 64 (by decide) (fun n a b => Go.wraps_u64 n a b) 16 (by decide) (t : Int) (by omega) (by omega)
  rw [show (65535 : Int) = 2 ^ 16 - 1 from rfl, this]
  simp

theorem not16 (t : Nat) (h : t ≤ 65535) : bits BinOp.xor IntKind.u16 IntKind.u16.max (t : Int) = ((65535 - t : Nat) : Int) := by
  have h1 : (BitVec.ofInt 16 (t : Int)).toNat = t := by
    rw [BitVec.ofInt_natCast, BitVec.toNat_ofNat]; exact Nat.mod_eq_of_lt (by omega)
  have h0 : (BitVec.ofInt 16 IntKind.u16.max) = BitVec.allOnes 16 := by decide
  show IntKind.u16.wrap ((BitVec.ofInt 16 IntKind.u16.max ^^^ BitVec.ofInt 16 (t : Int)).toNat : Int) = _
  rw [h0, BitVec.allOnes_xor, BitVec.toNat_not, h1, IntKind.wrap_u16]
  omega

/-- or of what lies apart: the low part below 2^i, the high part a multiple of it -/
theorem or64_add (i a b : Nat) (hb : b < 2 ^ i) (ha : a % 2 ^ i = 0) (h : a + b < 18446744073709551616) :
    bits BinOp.or IntKind.u64 (a : Int) (b : Int) = ((a + b : Nat) : Int) := by
  have := bits_join .u64 64 (by decide) (fun n a b => Go.wraps_u64 n a b) i (a : Int) (b : Int) (by omega) (by exact_mod_cast ha) (by omega) (by omega) (by exact_mod_cast hb) (by omega)
  rw [this]; simp
theorem or64_comm (x y : Int) : bits BinOp.or IntKind.u64 x y = bits BinOp.or IntKind.u64 y x := by
  simp only [bits, BitVec.or_comm]
theorem pow256 (k : Nat) : 2 ^ (8 * k) = 256 ^ k := by rw [Nat.pow_mul]
theorem or64_little (s x k : Nat) (hs : s < 256 ^ k) (hk : k < 8) (hx : x < 256) :
    bits BinOp.or IntKind.u64 (s : Int) (IntKind.u64.wrap ((x : Int) * 2 ^ (8 * k))) = ((s + x * 256 ^ k : Nat) : Int) := by
  have h1 : 256 ^ (k + 1) ≤ 256 ^ 8 := Nat.pow_le_pow_right (by decide) (by omega)
  have h2 : x * 256 ^ k + 256 ^ k ≤ 256 ^ (k + 1) := by
    rw [Nat.pow_succ, ← Nat.succ_mul, Nat.mul_comm]; exact Nat.mul_le_mul_left _ hx
  have h3 : ((x : Int) * 2 ^ (8 * k)) = ((x * 256 ^ k : Nat) : Int) := by rw [← pow256]; simp
  have h4 : IntKind.u64.wrap ((x : Int) * 2 ^ (8 * k)) = ((x * 256 ^ k : Nat) : Int) := by
    rw [h3]; exact Go.wraps_u64 _ (by omega) (by omega)
  rw [h4, or64_comm, or64_add (8 * k) (x * 256 ^ k) s (by rw [pow256]; exact hs) (by rw [pow256]; simp) (by omega)]
  omega
theorem mask_many (n m : Nat) (hn : n < 18446744073709551616) (hm : m ≤ 8) :
    bits BinOp.and IntKind.u64 (n : Int) (IntKind.u64.wrap (IntKind.u64.wrap (2 ^ (8 * m)) - 1)) = ((n % 256 ^ m : Nat) : Int) := by
  have e : IntKind.u64.wrap (IntKind.u64.wrap ((2 : Int) ^ (8 * m)) - 1) = (2 : Int) ^ (8 * m) - 1 := by
    rw [IntKind.wrap_u64, IntKind.wrap_u64]
    match m, hm with
    | 0, _ => decide
    | 1, _ => decide
    | 2, _ => decide
    | 3, _ => decide
    | 4, _ => decide
    | 5, _ => decide
    | 6, _ => decide
    | 7, _ => decide
    | 8, _ => decide
  rw [e, bits_mask .u64 64 (by decide) (fun n a b => Go.wraps_u64 n a b) (8 * m) (by omega) (n : Int) (by omega) (by omega)]
  rw [← pow256]; simp
end Go.Proofs.Ytnckmaieghlpmaa
