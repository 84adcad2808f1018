/-
  The walk of horologeref07.Sum: the checksum of bytes, by the rest modulo 65535.
-/
import Derived.Test.YtnckmaieghlpmaaSum
namespace Go.Proofs.Ytnckmaieghlpmaa
open Go.RowKit
set_option linter.unusedVariables false

theorem csum_rest (s : Nat) : 65535 - fold16 s = if decide (s ≠ 0) = true ∧ s % 65535 = 0 then 0 else 65535 - s % 65535 := by
  unfold fold16
  by_cases h : s = 0
  · simp [h]
  · rw [if_neg h]
    simp only [h, ne_eq, not_false_eq_true, decide_true, true_and]
    split <;> omega

theorem ret_u16 {a b : Int} (h : a = b) : Ending.returned (.int .u16 a) = .returned (.int .u16 b) := by rw [h]

theorem odds_len (bs : List UInt8) : odds bs = (bs.length % 2 == 1) := by simp [odds, par]

theorem rsum_step {r d A B : Nat} {sm : Bool} (h : r = A % 65535 ∧ sm = decide (A ≠ 0)) (hB : B = A + d) :
    Hid ((r + d) % 65535 = B % 65535 ∧ (sm || decide (d ≠ 0)) = decide (B ≠ 0)) := by
  obtain ⟨rfl, rfl⟩ := h
  refine ⟨by rw [hB]; omega, ?_⟩
  rw [hB, Bool.eq_iff_iff]; simp

theorem ret_bool {a b : Bool} (h : a = true ↔ b = true) : Value.bool a = .bool b := by rw [Bool.eq_iff_iff.2 h]

set_option maxHeartbeats 400000 in
theorem rsum_any (w : World) (v : Value) (bs : List UInt8) (hf : bs.length ≤ 1099511627776) (h : Bs w v bs) :
    Calls Try.prog 25 #[v] w fun e w' => e = .returned (.int .u16 (csum bs)) ∧ w = w' := by
  obtain ⟨a, c, rfl, hl1, hl2, hat⟩ := h
  have HAT := Lib.hid hat
  clear hat
  unfold maxLen at hl2
  obtain ⟨C, hC⟩ : ∃ C, C = csum bs := ⟨_, rfl⟩
  rw [← hC]
  have HC := Lib.hid hC
  clear hC
  go_enter Try.func25, Try.ntmps25
  go_wp2
  go_loop [3, 4, 5] (fun s so i => ∃ (k r : Nat) (sm : Bool), k ≤ bs.length ∧ i = .int .i64 k ∧ so = .bool sm ∧ s = .int .u64 r ∧ r < 65535 ∧ Hid (r = raw false (bs.take k) % 65535 ∧ sm = decide (raw false (bs.take k) ≠ 0))) (fun _ _ i => bs.length - (intOf i).toNat)
  case atStart => exact ⟨0, 0, false, Nat.zero_le _, rfl, rfl, rfl, by omega, by simp [Hid, raw]⟩
  case round =>
    obtain ⟨k, r, sm, hk, rfl, rfl, rfl, hr, HR⟩ := hrel
    by_cases hlt : k < bs.length
    · obtain ⟨b2, o2, rfl, hc2⟩ : ∃ b o, a = some ⟨b, o, none⟩ ∧ ∀ i x, bs[i]? = some x → w.cell? ⟨b, o + i, none⟩ = some (.int .u8 (x.toNat : Int)) := by
        rcases HAT.out with h | h
        · simp [h] at hlt
        · exact h
      obtain ⟨x, hx⟩ : ∃ x, bs[k]? = some x := ⟨bs[k], by simp [hlt]⟩
      have hcx := hc2 k x hx
      have hro := raw_snoc' (bs.take k) x
      rw [← take_snoc' hx, odds_len, List.length_take, Nat.min_eq_left hk] at hro
      have HRO := Lib.hid hro
      have hxb : x.toNat < 256 := x.toNat_lt
      clear hro hc2
      obtain ⟨xn, hxn⟩ : ∃ xn, xn = x.toNat := ⟨_, rfl⟩
      rw [← hxn] at HRO hcx hxb
      clear hxn hx
      obtain ⟨d, hd, HST⟩ : ∃ d, (d = if k % 2 = 0 then 256 * xn else xn) ∧ Hid ((r + d) % 65535 = raw false (bs.take (k + 1)) % 65535 ∧ (sm || decide (d ≠ 0)) = decide (raw false (bs.take (k + 1)) ≠ 0)) :=
        ⟨_, rfl, rsum_step HR.out (by rw [HRO.out]; by_cases hev : k % 2 = 0 <;> simp [hev] <;> omega)⟩
      have HD := Lib.hid hd
      clear hd
      cases sm
      all_goals
        by_cases hev : k % 2 = 0
        all_goals by_cases hx0 : xn = 0
        all_goals
          go_wp2
          go_round
          case rel =>
            have hd := HD.out
            simp only [hev, if_true, if_false] at hd
            subst hd
            refine ⟨k + 1, _, _, by omega, by go_num, ret_bool (by simp; try omega), by go_num, Nat.mod_lt _ (by omega), HST⟩
          case measure => simp [intOf]; omega
    · obtain rfl : k = bs.length := by omega
      rw [List.take_length] at *
      have hfin : C = if sm = true ∧ r = 0 then 0 else 65535 - r := by
        have h1 := csum_rest (raw false bs)
        have h2 : C = 65535 - fold16 (raw false bs) := HC.out
        rw [h2, h1, HR.out.1, HR.out.2]
      cases sm
      · simp only [Bool.false_eq_true, false_and, if_false] at hfin
        subst hfin
        go_wp2
        go_ret
        exact ⟨ret_u16 (by omega), rfl⟩
      · by_cases hr0 : r = 0
        · simp only [hr0, and_self, if_true] at hfin
          subst hfin hr0
          go_wp2
          go_ret
          exact ⟨rfl, rfl⟩
        · simp only [hr0, and_false, if_false] at hfin
          subst hfin
          go_wp2
          go_ret
          exact ⟨ret_u16 (by omega), rfl⟩
end Go.Proofs.Ytnckmaieghlpmaa
