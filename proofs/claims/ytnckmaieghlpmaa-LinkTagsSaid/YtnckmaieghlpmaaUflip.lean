/-
  One bit of a datagram another one: its checksum is wrong. Plain.
-/
import Derived.Test.YtnckmaieghlpmaaUturn
namespace Go.Proofs.Ytnckmaieghlpmaa
open Go.RowKit
set_option linter.unusedVariables false

theorem csum_zero (bs : List UInt8) : csum bs = 0 ↔ raw false bs ≠ 0 ∧ raw false bs % 65535 = 0 := by
  unfold csum fold16
  split <;> omega
theorem raw_numB (n : Nat) (h : n < 65536) : raw false (numB false n 2) = n := by
  rw [numB2]
  simp [raw]; omega
theorem raw_W (sp dp S : Nat) (data : List UInt8) (hS : S < 65536) : raw false (udpW sp dp S data) = raw false (udp0 sp dp data) + S := by
  rw [udp0_W]
  unfold udpW
  rw [raw_app2 (numB false sp 2) _ (by simp [numB_length]), raw_app2 (numB false dp 2) _ (by simp [numB_length]), raw_app2 (numB false (8 + data.length) 2) _ (by simp [numB_length]), raw_app2 (numB false S 2) _ (by simp [numB_length]),
    raw_app2 (numB false sp 2) _ (by simp [numB_length]), raw_app2 (numB false dp 2) _ (by simp [numB_length]), raw_app2 (numB false (8 + data.length) 2) _ (by simp [numB_length]), raw_app2 (numB false 0 2) _ (by simp [numB_length]), raw_numB S hS, raw_numB 0 (by omega)]
  omega
theorem fold_right (R S : Nat) (hS : S = if 65535 - fold16 R = 0 then 65535 else 65535 - fold16 R) : R + S ≠ 0 ∧ (R + S) % 65535 = 0 := by
  have hf : fold16 R = if R = 0 then 0 else (R - 1) % 65535 + 1 := rfl
  by_cases hR : R = 0
  · rw [if_pos hR] at hf
    rw [hf] at hS
    simp at hS
    omega
  · rw [if_neg hR] at hf
    rw [hf] at hS
    by_cases h : 65535 - ((R - 1) % 65535 + 1) = 0
    · rw [if_pos h] at hS; omega
    · rw [if_neg h] at hS; omega
/-- the checksum of a datagram that was put is right -/
theorem put_right (s : Bool) (A B : List UInt8) (sp dp : Nat) (data : List UInt8) (hA : A.length = 16) (hB : B.length = 16) :
    csum (aheadB s A B (8 + data.length) ++ udpW sp dp (udpS s A B sp dp data) data) = 0 := by
  have hp := udpS_pos s A B sp dp data
  have hl : (aheadB s A B (8 + data.length)).length % 2 = 0 := by rw [aheadB_len s A B _ hA hB]; cases s <;> rfl
  rw [csum_zero, raw_app2 _ _ hl, raw_W _ _ _ _ (by omega)]
  have h0 := raw_app2 (aheadB s A B (8 + data.length)) (udp0 sp dp data) hl
  have h1 := fold_right (raw false (aheadB s A B (8 + data.length) ++ udp0 sp dp data)) (udpS s A B sp dp data) rfl
  rw [h0] at h1
  rw [← Nat.add_assoc]; exact h1
/-- one bit of a byte another one -/
theorem flip_nat : ∀ x, x < 256 → ∀ j, j < 8 → (x ^^^ (128 >>> j) = x + 2 ^ (7 - j) ∨ (x ^^^ (128 >>> j)) + 2 ^ (7 - j) = x) := by decide +kernel
theorem pow_rest : ∀ j, j < 16 → 2 ^ j % 65535 ≠ 0 ∧ 2 ^ j < 65535 := by decide +kernel
theorem csum_moved (bs bs' : List UInt8) (d : Nat) (hd : raw false bs' = raw false bs + d ∨ raw false bs' + d = raw false bs) (hd2 : d % 65535 ≠ 0) (h0 : csum bs = 0) : csum bs' ≠ 0 := by
  rw [csum_zero] at h0
  intro h
  rw [csum_zero] at h
  omega
theorem wt_pow (i j : Nat) (hj : j < 8) : (wt false i * 2 ^ (7 - j)) % 65535 ≠ 0 := by
  have h : wt false i = 1 ∨ wt false i = 256 := by unfold wt; split <;> simp
  have e : ∀ j, j < 8 → (1 * 2 ^ (7 - j)) % 65535 ≠ 0 ∧ (256 * 2 ^ (7 - j)) % 65535 ≠ 0 := by decide +kernel
  rcases h with h | h
  · rw [h]; exact (e j hj).1
  · rw [h]; exact (e j hj).2
/-- one bit of one byte another one: the checksum is no longer 0 -/
theorem csum_flip (bs : List UInt8) (i j : Nat) (x x' : UInt8) (hj : j < 8) (hx : bs[i]? = some x) (hx' : x'.toNat = x.toNat ^^^ (128 >>> j)) (h0 : csum bs = 0) : csum (bs.set i x') ≠ 0 := by
  have hr := raw_set false bs i x' x hx
  have hf := flip_nat x.toNat x.toNat_lt j hj
  rw [← hx'] at hf
  refine csum_moved bs _ (wt false i * 2 ^ (7 - j)) ?_ (wt_pow i j hj) h0
  rcases hf with hf | hf
  · left
    rw [hf, Nat.mul_add] at hr; omega
  · right
    rw [← hf, Nat.mul_add] at hr; omega
end Go.Proofs.Ytnckmaieghlpmaa
