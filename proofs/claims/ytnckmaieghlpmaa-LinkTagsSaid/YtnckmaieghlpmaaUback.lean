/-
  What Open makes of a datagram with bytes behind it, cut off, or with one bit another one. Plain.
-/
import Derived.Test.YtnckmaieghlpmaaUflip
namespace Go.Proofs.Ytnckmaieghlpmaa
open Go.RowKit
set_option linter.unusedVariables false

theorem getN_eq {l l' : List UInt8} {n : Nat} (h : n + 2 ≤ l.length) (h' : n + 2 ≤ l'.length) (h0 : l[n]? = l'[n]?) (h1 : l[n + 1]? = l'[n + 1]?) : getN false l n 2 = getN false l' n 2 := by
  have ok : getOk l n 2 = true := by simp only [getOk, decide_eq_true_eq]; omega
  have ok' : getOk l' n 2 = true := by simp only [getOk, decide_eq_true_eq]; omega
  unfold getN
  rw [if_pos ok, if_pos ok']
  have hn : ((n : Int)).toNat = n := by omega
  have h2 : ((2 : Int)).toNat = 2 := rfl
  rw [hn, h2]
  have e : (l.drop n).take 2 = (l'.drop n).take 2 := by
    apply List.ext_getElem?
    intro i
    rw [List.getElem?_take, List.getElem?_take]
    split
    · rw [List.getElem?_drop, List.getElem?_drop]
      match i with
      | 0 => exact h0
      | 1 => exact h1
      | i + 2 => omega
    · rfl
  rw [e]
theorem getN_app (P R : List UInt8) (n : Nat) (h : n + 2 ≤ P.length) : getN false (P ++ R) n 2 = getN false P n 2 :=
  getN_eq (by simp; omega) h (List.getElem?_append_left (by omega)) (List.getElem?_append_left (by omega))
theorem getN_take (P : List UInt8) (m n : Nat) (h : n + 2 ≤ m) (hm : m ≤ P.length) : getN false (P.take m) n 2 = getN false P n 2 :=
  getN_eq (by rw [List.length_take]; omega) (by omega) (by rw [List.getElem?_take, if_pos (by omega)]) (by rw [List.getElem?_take, if_pos (by omega)])
theorem getN_set (P : List UInt8) (k : Nat) (v : UInt8) (n : Nat) (h : n + 2 ≤ P.length) (hk : k < n ∨ n + 2 ≤ k) : getN false (P.set k v) n 2 = getN false P n 2 :=
  getN_eq (by simpa using h) h (List.getElem?_set_ne (by omega)) (List.getElem?_set_ne (by omega))

/-- cut off -/
theorem back_cut (s : Bool) (A B : List UInt8) (sp dp S : Nat) (data : List UInt8) (c : Nat) (h1 : sp < 65536) (h2 : dp < 65536) (h3 : S < 65536) (h4 : data.length ≤ 300) (hc : c < 8 + data.length) :
    udpWhy s s A B ((udpW sp dp S data).take c) = 3 := by
  have hl := udpW_len sp dp S data
  obtain ⟨g0, g2, g4, g6, gd⟩ := udpW_get sp dp S data h1 h2 h3 h4
  have hlen : ((udpW sp dp S data).take c).length = c := by rw [List.length_take, hl]; omega
  unfold udpWhy
  rw [if_neg (by simp), hlen]
  by_cases h8 : c < 8
  · rw [if_pos h8]
  · have e4 : getN false ((udpW sp dp S data).take c) 4 2 = getN false (udpW sp dp S data) 4 2 := getN_take _ c 4 (by omega) (by omega)
    rw [if_neg h8, e4, g4, if_neg (by omega), if_pos hc]

/-- opened as it was put, whatever stands behind -/
theorem back_open (s : Bool) (A B : List UInt8) (sp dp : Nat) (data more : List UInt8) (hA : A.length = 16) (hB : B.length = 16) (h1 : sp < 65536) (h2 : dp < 65536) (h4 : data.length ≤ 300) :
    udpWhy s s A B (udpB s A B sp dp data ++ more) = 0 ∧ udpFrom s s A B (udpB s A B sp dp data ++ more) = sp ∧ udpTo s s A B (udpB s A B sp dp data ++ more) = dp ∧ udpData s s A B (udpB s A B sp dp data ++ more) = data := by
  have hp := udpS_pos s A B sp dp data
  have hr := put_right s A B sp dp data hA hB
  rw [udpB_W]
  obtain ⟨S, hS⟩ : ∃ S, S = udpS s A B sp dp data := ⟨_, rfl⟩
  rw [← hS] at hp hr ⊢
  have hl := udpW_len sp dp S data
  obtain ⟨g0, g2, g4, g6, gd⟩ := udpW_get sp dp S data h1 h2 (by omega) h4
  have e0 : getN false (udpW sp dp S data ++ more) 0 2 = sp := (getN_app _ more 0 (by omega)).trans g0
  have e2 : getN false (udpW sp dp S data ++ more) 2 2 = dp := (getN_app _ more 2 (by omega)).trans g2
  have e4 : getN false (udpW sp dp S data ++ more) 4 2 = 8 + data.length := (getN_app _ more 4 (by omega)).trans g4
  have e6 : getN false (udpW sp dp S data ++ more) 6 2 = S := (getN_app _ more 6 (by omega)).trans g6
  have ht : (udpW sp dp S data ++ more).take (8 + data.length) = udpW sp dp S data := by rw [← hl, List.take_left]
  have hw : udpWhy s s A B (udpW sp dp S data ++ more) = 0 := by
    unfold udpWhy
    rw [e4, e6, ht, hr, if_neg (by simp), List.length_append, hl, if_neg (by omega), if_neg (by omega), if_neg (by omega), if_neg (by omega), if_neg (by omega)]
  refine ⟨hw, ?_, ?_, ?_⟩
  · unfold udpFrom; rw [if_pos hw, e0]
  · unfold udpTo; rw [if_pos hw, e2]
  · unfold udpData
    rw [if_pos hw, e4, List.drop_append_of_le_length (by omega), gd, show 8 + data.length - 8 = data.length by omega, List.take_left]
end Go.Proofs.Ytnckmaieghlpmaa
