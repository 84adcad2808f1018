/-
  The walk of octet.Sum: the checksum of rows of bytes.
-/
import Derived.Test.YtnckmaieghlpmaaKit
import Derived.Test.YtnckmaieghlpmaaBit
namespace Go.Proofs.Ytnckmaieghlpmaa
open Go.RowKit
set_option linter.unusedVariables false

theorem take_snoc' {α : Type} {l : List α} {k : Nat} {x : α} (h : l[k]? = some x) : l.take (k + 1) = l.take k ++ [x] := by
  rw [List.take_add_one, h]; rfl

/-- the bytes of the rows ahead of row k, and of the first j of row k -/
def upTo (L : List (List UInt8)) (k : Nat) : List UInt8 := (L.take k).flatten

theorem upTo_succ {L : List (List UInt8)} {k : Nat} {bs : List UInt8} (h : L[k]? = some bs) : upTo L (k + 1) = upTo L k ++ bs := by
  unfold upTo; rw [take_snoc' h]; simp
theorem upTo_all (L : List (List UInt8)) : upTo L L.length = L.flatten := by simp [upTo]
theorem upTo_len (L : List (List UInt8)) (k : Nat) : (upTo L k).length ≤ L.flatten.length := by
  have h : L.flatten = (L.take k).flatten ++ (L.drop k).flatten := by rw [← List.flatten_append, List.take_append_drop]
  rw [h]; simp [upTo]

/-- what the sum and its parity are behind so many bytes -/
def odds (bs : List UInt8) : Bool := par false bs.length
theorem odds_nil : odds [] = false := rfl
theorem odds_snoc (bs : List UInt8) (x : UInt8) : odds (bs ++ [x]) = !odds bs := by
  unfold odds; simp [par_succ]
theorem raw_snoc' (bs : List UInt8) (x : UInt8) : raw false (bs ++ [x]) = raw false bs + if odds bs then x.toNat else x.toNat * 256 := raw_snoc false bs x
theorem raw_le' (bs : List UInt8) : raw false bs ≤ 65280 * bs.length := raw_le _ _

set_option maxHeartbeats 400000 in
theorem sum_any (w : World) (a : Option Addr) (c : Nat) (L : List (List UInt8)) (hL : L.length ≤ 1099511627776) (hf : L.flatten.length ≤ 1099511627776) (h : Rows2 w a L) :
    Calls Try.prog 24 #[.slice a L.length c] w fun e w' => e = .returned (.int .u16 (csum L.flatten)) ∧ w = w' := by
  obtain ⟨C, hC⟩ : ∃ C, C = csum L.flatten := ⟨_, rfl⟩
  rw [← hC]
  have HC := Lib.hid hC
  clear hC
  go_enter Try.func24, Try.ntmps24
  go_wp2
  go_loop [3, 4, 11] (fun s od i => ∃ k : Nat, k ≤ L.length ∧ i = .int .i64 k ∧ od = .bool (odds (upTo L k)) ∧ s = .int .u64 (raw false (upTo L k) : Nat)) (fun _ _ i => L.length - (intOf i).toNat)
  case atStart => exact ⟨0, Nat.zero_le _, rfl, rfl, rfl⟩
  case round =>
    obtain ⟨k, hk, rfl, rfl, rfl⟩ := hrel
    have H := Lib.hid h; clear h
    by_cases hlt : k < L.length
    · obtain ⟨b, o, rfl, hc⟩ : ∃ b o, a = some ⟨b, o, none⟩ ∧ ∀ i bs, L[i]? = some bs → ∃ v, w.cell? ⟨b, o + i, none⟩ = some v ∧ Bs w v bs := by
        rcases H.out with h | h
        · simp [h] at hlt
        · exact h
      obtain ⟨bs, hbs⟩ : ∃ bs, L[k]? = some bs := ⟨L[k], by simp [hlt]⟩
      obtain ⟨v, hv, a1, c1, rfl, hl1, hl2, hat⟩ := hc k bs hbs
      have HAT := Lib.hid hat
      have hup := upTo_succ hbs
      have hlen := upTo_len L (k + 1)
      rw [hup, List.length_append] at hlen
      have HUP := Lib.hid hup
      clear hat hup hc
      obtain ⟨pre, hpre⟩ : ∃ pre, pre = upTo L k := ⟨_, rfl⟩
      rw [← hpre] at HUP hlen ⊢
      clear hpre H hbs
      unfold maxLen at hl2
      go_wp2
      go_loop [3, 4, 17] (fun s od i => ∃ j : Nat, j ≤ bs.length ∧ i = .int .i64 j ∧ od = .bool (odds (pre ++ bs.take j)) ∧ s = .int .u64 (raw false (pre ++ bs.take j) : Nat)) (fun _ _ i => bs.length - (intOf i).toNat)
      case atStart => exact ⟨0, Nat.zero_le _, rfl, by simp, by simp⟩
      case round =>
        obtain ⟨j, hj, rfl, rfl, rfl⟩ := hrel
        have hb := raw_le' (pre ++ bs.take j)
        have hlj : (pre ++ bs.take j).length ≤ 1099511627776 := by simp; omega
        by_cases hlt2 : j < bs.length
        · obtain ⟨b2, o2, rfl, hc2⟩ : ∃ b o, a1 = some ⟨b, o, none⟩ ∧ ∀ i x, bs[i]? = some x → w.cell? ⟨b, o + i, none⟩ = some (.int .u8 (x.toNat : Int)) := by
            rcases HAT.out with h | h
            · simp [h] at hlt2
            · exact h
          obtain ⟨x, hx⟩ : ∃ x, bs[j]? = some x := ⟨bs[j], by simp [hlt2]⟩
          have hcx := hc2 j x hx
          have hsn : pre ++ bs.take (j + 1) = (pre ++ bs.take j) ++ [x] := by rw [take_snoc' hx, List.append_assoc]
          have hro := raw_snoc' (pre ++ bs.take j) x
          have hod := odds_snoc (pre ++ bs.take j) x
          rw [← hsn] at hro hod
          have HRO := Lib.hid hro
          have HOD := Lib.hid hod
          have hxb : x.toNat < 256 := x.toNat_lt
          clear hro hod hsn hx hc2
          obtain ⟨s, hs⟩ : ∃ s, s = raw false (pre ++ bs.take j) := ⟨_, rfl⟩
          obtain ⟨od, ho⟩ : ∃ od, od = odds (pre ++ bs.take j) := ⟨_, rfl⟩
          rw [← hs, ← ho] at HRO
          rw [← ho] at HOD
          rw [← hs] at hb ⊢
          rw [← ho]
          clear hs ho
          obtain ⟨xn, hxn⟩ : ∃ xn, xn = x.toNat := ⟨_, rfl⟩
          rw [← hxn] at HRO hcx hxb
          clear hxn
          cases od
          · go_wp2
            go_round
            case rel => exact ⟨j + 1, by omega, by go_num, by rw [HOD.out]; rfl, by rw [HRO.out]; simp⟩
            case measure => simp [intOf]; omega
          · go_wp2
            go_round
            case rel => exact ⟨j + 1, by omega, by go_num, by rw [HOD.out]; rfl, by rw [HRO.out]; rfl⟩
            case measure => simp [intOf]; omega
        · obtain rfl : j = bs.length := by omega
          rw [List.take_length] at *
          go_wp2
          go_round
          case rel => exact ⟨k + 1, by omega, by go_num, by rw [HUP.out], by rw [HUP.out]⟩
          case measure => simp [intOf]; omega
    · obtain rfl : k = L.length := by omega
      have hb := raw_le' (upTo L L.length)
      rw [upTo_all] at *
      obtain ⟨s0, hs0⟩ : ∃ s0, s0 = raw false L.flatten := ⟨_, rfl⟩
      obtain ⟨o0, ho0⟩ : ∃ o0, o0 = odds L.flatten := ⟨_, rfl⟩
      have HS : Hid (C = 65535 - fold16 s0) := by unfold Hid; rw [HC.out, hs0]; rfl
      rw [← hs0] at hb ⊢
      rw [← ho0]
      clear hs0 ho0 HC
      go_wp2
      go_loop [3] (fun s => ∃ t : Nat, t ≤ 1099511627776 * 65280 ∧ s = .int .u64 t ∧ fold16 t = fold16 s0) (fun s => (intOf s).toNat)
      case atStart => exact ⟨s0, by omega, rfl, rfl⟩
      case round =>
        obtain ⟨t, ht, rfl, hft⟩ := hrel
        have HF := Lib.hid hft
        clear hft
        by_cases htt : 65535 < t
        · have e1 := and64_16 t (by omega)
          go_wp2
          go_round
          case rel => exact ⟨t / 65536 + t % 65536, by omega, by go_num, by rw [fold16_step t htt]; exact HF.out⟩
          case measure => simp [intOf]; omega
        · have e1 := not16 t (by omega)
          have hC : C = 65535 - t := by rw [HS.out, ← HF.out, fold16_small t (by omega)]
          subst hC
          go_wp2
          go_ret
          exact ⟨rfl, rfl⟩
end Go.Proofs.Ytnckmaieghlpmaa
