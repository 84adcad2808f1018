/-
  What Open makes of a datagram that was put: plain.
-/
import Derived.Test.YtnckmaieghlpmaaUany
import Derived.Test.YtnckmaieghlpmaaUput
namespace Go.Proofs.Ytnckmaieghlpmaa
open Go.RowKit
set_option linter.unusedVariables false
set_option linter.unusedSimpArgs false

theorem getN_mid (P M R : List UInt8) (hM : M.length = 2) (n : Nat) (hn : P.length = n) : getN false (P ++ (M ++ R)) n 2 = num false M := by
  have hok : getOk (P ++ (M ++ R)) n 2 = true := by
    simp only [getOk, decide_eq_true_eq, List.length_append]; omega
  unfold getN
  rw [if_pos hok]
  have h1 : ((n : Int)).toNat = P.length := by omega
  rw [h1, List.drop_left]
  have h2 : ((2 : Int)).toNat = M.length := by rw [hM]; rfl
  rw [h2, List.take_left]
theorem num2 (n : Nat) (h : n < 65536) : num false (numB false n 2) = n := by rw [num_numB]; exact Nat.mod_eq_of_lt h

/-- a datagram with such a checksum -/
def udpW (sp dp S : Nat) (data : List UInt8) : List UInt8 := numB false sp 2 ++ (numB false dp 2 ++ (numB false (8 + data.length) 2 ++ (numB false S 2 ++ data)))
theorem udpW_len (sp dp S : Nat) (data : List UInt8) : (udpW sp dp S data).length = 8 + data.length := by simp [udpW, numB_length]; omega
theorem udpB_W (six : Bool) (A B : List UInt8) (sp dp : Nat) (data : List UInt8) : udpB six A B sp dp data = udpW sp dp (udpS six A B sp dp data) data := by simp [udpB, udpW]
theorem udp0_W (sp dp : Nat) (data : List UInt8) : udp0 sp dp data = udpW sp dp 0 data := by
  have h : numB false 0 2 = [0, 0] := rfl
  simp [udp0, udpW, h]
theorem udpW_get (sp dp S : Nat) (data : List UInt8) (h1 : sp < 65536) (h2 : dp < 65536) (h3 : S < 65536) (h4 : data.length ≤ 300) :
    getN false (udpW sp dp S data) 0 2 = sp ∧ getN false (udpW sp dp S data) 2 2 = dp ∧ getN false (udpW sp dp S data) 4 2 = 8 + data.length ∧ getN false (udpW sp dp S data) 6 2 = S ∧ (udpW sp dp S data).drop 8 = data := by
  refine ⟨?_, ?_, ?_, ?_, ?_⟩
  · have := getN_mid [] (numB false sp 2) (numB false dp 2 ++ (numB false (8 + data.length) 2 ++ (numB false S 2 ++ data))) (numB_length ..) 0 rfl
    rw [num2 sp h1] at this; exact this
  · have := getN_mid (numB false sp 2) (numB false dp 2) (numB false (8 + data.length) 2 ++ (numB false S 2 ++ data)) (numB_length ..) 2 (numB_length ..)
    rw [num2 dp h2] at this; exact this
  · have := getN_mid (numB false sp 2 ++ numB false dp 2) (numB false (8 + data.length) 2) (numB false S 2 ++ data) (numB_length ..) 4 (by simp [numB_length])
    rw [num2 _ (by omega), List.append_assoc] at this; exact this
  · have := getN_mid (numB false sp 2 ++ (numB false dp 2 ++ numB false (8 + data.length) 2)) (numB false S 2) data (numB_length ..) 6 (by simp [numB_length])
    rw [num2 S h3] at this
    have e : udpW sp dp S data = numB false sp 2 ++ (numB false dp 2 ++ numB false (8 + data.length) 2) ++ (numB false S 2 ++ data) := by simp [udpW]
    rw [e]; exact this
  · have e : udpW sp dp S data = (numB false sp 2 ++ (numB false dp 2 ++ (numB false (8 + data.length) 2 ++ numB false S 2))) ++ data := by simp [udpW]
    rw [e, List.drop_append_of_le_length (by simp [numB_length])]
    rw [List.drop_of_length_le (by simp [numB_length])]; simp
theorem udpS_pos (six : Bool) (A B : List UInt8) (sp dp : Nat) (data : List UInt8) : 0 < udpS six A B sp dp data ∧ udpS six A B sp dp data ≤ 65535 := by
  unfold udpS
  split
  · omega
  · have : csum (aheadB six A B (8 + data.length) ++ udp0 sp dp data) ≤ 65535 := by unfold csum; omega
    omega
theorem none_four (A B : List UInt8) (sp dp : Nat) (data : List UInt8) (h1 : sp < 65536) (h2 : dp < 65536) (h4 : data.length ≤ 300) :
    udpWhy false false A B (udpW sp dp 0 data) = 0 ∧ udpFrom false false A B (udpW sp dp 0 data) = sp ∧ udpTo false false A B (udpW sp dp 0 data) = dp ∧ udpData false false A B (udpW sp dp 0 data) = data := by
  obtain ⟨g0, g2, g4, g6, gd⟩ := udpW_get sp dp 0 data h1 h2 (by omega) h4
  have hl := udpW_len sp dp 0 data
  have hw : udpWhy false false A B (udpW sp dp 0 data) = 0 := by
    unfold udpWhy
    rw [g4, g6, hl, if_neg (by simp), if_neg (by omega), if_neg (by omega), if_neg (by omega), if_pos ⟨rfl, rfl⟩]
  refine ⟨hw, ?_, ?_, ?_⟩
  · unfold udpFrom; rw [if_pos hw, g0]
  · unfold udpTo; rw [if_pos hw, g2]
  · unfold udpData; rw [if_pos hw, g4, gd, List.take_of_length_le (by omega)]
theorem none_six (A B : List UInt8) (sp dp : Nat) (data : List UInt8) (h1 : sp < 65536) (h2 : dp < 65536) (h4 : data.length ≤ 300) :
    udpWhy true true A B (udpW sp dp 0 data) = 5 ∧ udpFrom true true A B (udpW sp dp 0 data) = 0 ∧ udpTo true true A B (udpW sp dp 0 data) = 0 ∧ udpData true true A B (udpW sp dp 0 data) = [] := by
  obtain ⟨g0, g2, g4, g6, gd⟩ := udpW_get sp dp 0 data h1 h2 (by omega) h4
  have hl := udpW_len sp dp 0 data
  have hw : udpWhy true true A B (udpW sp dp 0 data) = 5 := by
    unfold udpWhy
    rw [g4, g6, hl, if_neg (by simp), if_neg (by omega), if_neg (by omega), if_neg (by omega), if_neg (by simp), if_pos (Or.inl rfl)]
  refine ⟨hw, ?_, ?_, ?_⟩
  · unfold udpFrom; rw [hw]; rfl
  · unfold udpTo; rw [hw]; rfl
  · unfold udpData; rw [hw]; rfl
theorem udpW_set (sp dp S : Nat) (data : List UInt8) : ((udpW sp dp S data).set 6 0).set 7 0 = udpW sp dp 0 data := by
  simp only [udpW, numB2]; rfl
theorem udpW_at (sp dp S : Nat) (data : List UInt8) : (udpW sp dp S data)[6]? = some (UInt8.ofNat (S / 256 % 256)) ∧ (udpW sp dp S data)[7]? = some (UInt8.ofNat (S % 256)) := by
  simp only [udpW, numB2]; exact ⟨rfl, rfl⟩
end Go.Proofs.Ytnckmaieghlpmaa
