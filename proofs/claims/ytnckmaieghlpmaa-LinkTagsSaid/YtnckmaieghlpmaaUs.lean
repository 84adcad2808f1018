/-
  Get at any place, U16, U32, U64, Pad.
-/
import Derived.Test.YtnckmaieghlpmaaRget
namespace Go.Proofs.Ytnckmaieghlpmaa
open Go.RowKit
set_option linter.unusedVariables false

def getOk (bs : List UInt8) (n m : Int) : Bool := decide (0 ≤ n ∧ 0 ≤ m ∧ m ≤ 8 ∧ n + m ≤ bs.length)
def getN (lit : Bool) (bs : List UInt8) (n m : Int) : Nat := if getOk bs n m = true then num lit ((bs.drop n.toNat).take m.toNat) else 0

def GetAny (w : World) (k : Nat) (ok : Bool) (e : Ending) (w' : World) : Prop := e = .returned (.tuple #[.int .u64 k, .bool ok]) ∧ Below w.heap.size w w'
def RGetAny (w : World) (k : Nat) (ok : Bool) (e : Ending) (w' : World) : Prop := e = .returned (.tuple #[.int .u64 k, .bool ok]) ∧ w = w'

theorem get_any (w : World) (v : Value) (bs : List UInt8) (lit : Bool) (n m : Int) (hb : Bs w v bs) :
    Calls Try.prog 26 #[.agg #[v, .bool lit], .int .i64 n, .int .i64 m] w (GetAny w (getN lit bs n m) (getOk bs n m)) := by
  by_cases h : 0 ≤ n ∧ 0 ≤ m ∧ m ≤ 8 ∧ n + m ≤ bs.length
  · have hok : getOk bs n m = true := by simp [getOk, h]
    unfold getN; rw [hok, if_pos rfl]
    obtain ⟨n, rfl⟩ := Int.eq_ofNat_of_zero_le h.1
    obtain ⟨m, rfl⟩ := Int.eq_ofNat_of_zero_le h.2.1
    exact get_yes w v bs lit n m hb (by omega) (by omega)
  · have hok : getOk bs n m = false := by simp only [getOk, decide_eq_false_iff_not]; exact h
    unfold getN; rw [hok, if_neg (by simp)]
    exact get_no w v bs lit n m hb h

theorem rget_any (w : World) (v : Value) (bs : List UInt8) (lit : Bool) (n m : Int) (hb : Bs w v bs) :
    Calls Try.prog 27 #[v, .bool lit, .int .i64 n, .int .i64 m] w (RGetAny w (getN lit bs n m) (getOk bs n m)) := by
  by_cases h : 0 ≤ n ∧ 0 ≤ m ∧ m ≤ 8 ∧ n + m ≤ bs.length
  · have hok : getOk bs n m = true := by simp [getOk, h]
    unfold getN; rw [hok, if_pos rfl]
    obtain ⟨n, rfl⟩ := Int.eq_ofNat_of_zero_le h.1
    obtain ⟨m, rfl⟩ := Int.eq_ofNat_of_zero_le h.2.1
    exact rget_yes w v bs lit n m hb (by omega) (by omega)
  · have hok : getOk bs n m = false := by simp only [getOk, decide_eq_false_iff_not]; exact h
    unfold getN; rw [hok, if_neg (by simp)]
    exact rget_no w v bs lit n m hb h

theorem getN_lt (lit : Bool) (bs : List UInt8) (n : Int) (m : Nat) : getN lit bs n m < 256 ^ m := by
  unfold getN
  split
  · have h1 := num_lt lit ((bs.drop n.toNat).take (m : Int).toNat)
    have h2 : 256 ^ ((bs.drop n.toNat).take (m : Int).toNat).length ≤ 256 ^ m := pow256_le (by simp; omega)
    omega
  · exact Nat.pow_pos (by decide)

def UAny (k : IntKind) (w : World) (n : Nat) (e : Ending) (w' : World) : Prop := e = .returned (.int k n) ∧ Below w.heap.size w w'

set_option maxHeartbeats 400000 in
theorem u16_any (w : World) (v : Value) (bs : List UInt8) (lit : Bool) (n : Int) (hb : Bs w v bs) :
    Calls Try.prog 29 #[.agg #[v, .bool lit], .int .i64 n] w (UAny .u16 w (getN lit bs n 2)) := by
  have hlt : getN lit bs n 2 < 65536 := getN_lt lit bs n 2
  have hw : IntKind.u16.wrap ((getN lit bs n 2 : Nat) : Int) = ((getN lit bs n 2 : Nat) : Int) := by
    rw [IntKind.wrap_u16]; omega
  obtain ⟨N, hN⟩ : ∃ N, N = getN lit bs n 2 := ⟨_, rfl⟩
  rw [← hN] at hlt hw ⊢
  have HN := Lib.hid hN
  have HB := Lib.hid hb
  have HW := Lib.hid hw
  clear hb hN hw
  go_enter Try.func29, Try.ntmps29
  go_wp2_with (go_at_call 26; refine (get_any _ v bs lit n 2 (HB.out.alloc _)).mono ?_; rintro e w1 ⟨rfl, hb1⟩; rw [← HN.out]; have HBE := Lib.hid (below_past hb1); clear hb1)
  go_ret
  exact ⟨rfl, HBE.out⟩

set_option maxHeartbeats 400000 in
theorem u32_any (w : World) (v : Value) (bs : List UInt8) (lit : Bool) (n : Int) (hb : Bs w v bs) :
    Calls Try.prog 30 #[.agg #[v, .bool lit], .int .i64 n] w (UAny .u32 w (getN lit bs n 4)) := by
  have hlt : getN lit bs n 4 < 4294967296 := getN_lt lit bs n 4
  obtain ⟨N, hN⟩ : ∃ N, N = getN lit bs n 4 := ⟨_, rfl⟩
  rw [← hN] at hlt ⊢
  have HN := Lib.hid hN
  have HB := Lib.hid hb
  clear hb hN
  go_enter Try.func30, Try.ntmps30
  go_wp2_with (go_at_call 26; refine (get_any _ v bs lit n 4 (HB.out.alloc _)).mono ?_; rintro e w1 ⟨rfl, hb1⟩; rw [← HN.out]; have HBE := Lib.hid (below_past hb1); clear hb1)
  go_ret
  exact ⟨rfl, HBE.out⟩

set_option maxHeartbeats 400000 in
theorem u64_any (w : World) (v : Value) (bs : List UInt8) (lit : Bool) (n : Int) (hb : Bs w v bs) :
    Calls Try.prog 31 #[.agg #[v, .bool lit], .int .i64 n] w (UAny .u64 w (getN lit bs n 8)) := by
  obtain ⟨N, hN⟩ : ∃ N, N = getN lit bs n 8 := ⟨_, rfl⟩
  rw [← hN]
  have HN := Lib.hid hN
  have HB := Lib.hid hb
  clear hb hN
  go_enter Try.func31, Try.ntmps31
  go_wp2_with (go_at_call 26; refine (get_any _ v bs lit n 8 (HB.out.alloc _)).mono ?_; rintro e w1 ⟨rfl, hb1⟩; rw [← HN.out]; have HBE := Lib.hid (below_past hb1); clear hb1)
  go_ret
  exact ⟨rfl, HBE.out⟩

/-- how many bytes are to be added -/
def pad (n : Int) : Nat := if n < 0 then 0 else ((4 - n % 4) % 4).toNat

set_option maxHeartbeats 400000 in
theorem pad_any (w : World) (n : Int) (h : -9223372036854775808 ≤ n ∧ n ≤ 9223372036854775807) :
    Calls Try.prog 32 #[.int .i64 n] w fun e w' => e = .returned (.int .i64 (pad n)) ∧ w = w' := by
  by_cases h0 : n < 0
  · have hp : pad n = 0 := by simp [pad, h0]
    rw [hp]
    go_enter Try.func32, Try.ntmps32
    go_wp2
    go_ret
    exact ⟨rfl, rfl⟩
  · have h1 : n % 4 = 0 ∨ n % 4 = 1 ∨ n % 4 = 2 ∨ n % 4 = 3 := by omega
    rcases h1 with h1 | h1 | h1 | h1
    · have hp : pad n = 0 := by simp [pad, h0, h1]
      rw [hp]; clear hp
      go_enter Try.func32, Try.ntmps32
      go_wp2
      go_ret
      exact ⟨rfl, rfl⟩
    · have hp : pad n = 3 := by simp [pad, h0, h1]
      rw [hp]; clear hp
      go_enter Try.func32, Try.ntmps32
      go_wp2
      go_ret
      exact ⟨rfl, rfl⟩
    · have hp : pad n = 2 := by simp [pad, h0, h1]
      rw [hp]; clear hp
      go_enter Try.func32, Try.ntmps32
      go_wp2
      go_ret
      exact ⟨rfl, rfl⟩
    · have hp : pad n = 1 := by simp [pad, h0, h1]
      rw [hp]; clear hp
      go_enter Try.func32, Try.ntmps32
      go_wp2
      go_ret
      exact ⟨rfl, rfl⟩
end Go.Proofs.Ytnckmaieghlpmaa
