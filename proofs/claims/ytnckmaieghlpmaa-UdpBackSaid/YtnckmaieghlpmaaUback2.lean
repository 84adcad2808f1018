/-
  What Open makes of a datagram with one bit of an address, of its ports or its data another one. Plain.
-/
import Derived.Test.YtnckmaieghlpmaaUback
namespace Go.Proofs.Ytnckmaieghlpmaa
open Go.RowKit
set_option linter.unusedVariables false

theorem why_sum (s : Bool) (A B W more : List UInt8) (n : Nat) (hl : W.length = n) (h8 : 8 ≤ n) (h4 : getN false W 4 2 = n) (h6 : getN false W 6 2 ≠ 0) (hc : csum (aheadB s A B n ++ W) ≠ 0) :
    udpWhy s s A B (W ++ more) = 5 := by
  have e4 : getN false (W ++ more) 4 2 = n := (getN_app W more 4 (by omega)).trans h4
  have e6 : getN false (W ++ more) 6 2 = getN false W 6 2 := getN_app W more 6 (by omega)
  have ht : (W ++ more).take n = W := by rw [← hl, List.take_left]
  unfold udpWhy
  rw [e4, e6, ht, List.length_append, hl, if_neg (by simp), if_neg (by omega), if_neg (by omega), if_neg (by omega), if_neg (fun h => h6 h.1), if_pos (.inr hc)]
theorem why_none {s t : Bool} {A B bs : List UInt8} (h : udpWhy s t A B bs = 5) : udpFrom s t A B bs = 0 ∧ udpTo s t A B bs = 0 ∧ udpData s t A B bs = [] := by
  unfold udpFrom udpTo udpData
  rw [h]; exact ⟨rfl, rfl, rfl⟩

/-- how many bytes of an address count -/
def cnt (s : Bool) : Nat := if s then 16 else 4
theorem cnt_le (s : Bool) : 4 ≤ cnt s ∧ cnt s ≤ 16 := by cases s <;> simp [cnt]
theorem ahead_src (s : Bool) (A B : List UInt8) (n i : Nat) (x : UInt8) (hA : A.length = 16) (hi : i < cnt s) : aheadB s (A.set i x) B n = (aheadB s A B n).set i x := by
  cases s
  · simp only [cnt, Bool.false_eq_true, if_false] at hi
    simp only [aheadB, Bool.false_eq_true, if_false, List.append_assoc]
    rw [List.set_append_left _ _ (by simp [hA]; omega), List.take_set]
  · simp only [cnt, if_true] at hi
    simp only [aheadB, if_true, List.append_assoc]
    rw [List.set_append_left _ _ (by omega)]
theorem ahead_dst (s : Bool) (A B : List UInt8) (n i : Nat) (x : UInt8) (hA : A.length = 16) (hB : B.length = 16) (hi : i < cnt s) : aheadB s A (B.set i x) n = (aheadB s A B n).set (cnt s + i) x := by
  cases s
  · simp only [cnt, Bool.false_eq_true, if_false] at hi ⊢
    simp only [aheadB, Bool.false_eq_true, if_false, List.append_assoc]
    have h4 : (A.take 4).length = 4 := by simp [hA]
    rw [List.set_append_right _ _ (by omega), h4, show 4 + i - 4 = i by omega, List.set_append_left _ _ (by simp [hB]; omega), List.take_set]
  · simp only [cnt, if_true] at hi ⊢
    simp only [aheadB, if_true, List.append_assoc]
    rw [List.set_append_right _ _ (by omega), hA, show 16 + i - 16 = i by omega, List.set_append_left _ _ (by omega)]
theorem ahead_get_src (s : Bool) (A B : List UInt8) (n i : Nat) (x : UInt8) (hA : A.length = 16) (hi : i < cnt s) (hx : A[i]? = some x) : (aheadB s A B n)[i]? = some x := by
  cases s
  · simp only [cnt, Bool.false_eq_true, if_false] at hi
    simp only [aheadB, Bool.false_eq_true, if_false, List.append_assoc]
    rw [List.getElem?_append_left (by simp [hA]; omega), List.getElem?_take, if_pos hi]; exact hx
  · simp only [cnt, if_true] at hi
    simp only [aheadB, if_true, List.append_assoc]
    rw [List.getElem?_append_left (by omega)]; exact hx
theorem ahead_get_dst (s : Bool) (A B : List UInt8) (n i : Nat) (x : UInt8) (hA : A.length = 16) (hB : B.length = 16) (hi : i < cnt s) (hx : B[i]? = some x) : (aheadB s A B n)[cnt s + i]? = some x := by
  cases s
  · simp only [cnt, Bool.false_eq_true, if_false] at hi ⊢
    simp only [aheadB, Bool.false_eq_true, if_false, List.append_assoc]
    have h4 : (A.take 4).length = 4 := by simp [hA]
    rw [List.getElem?_append_right (by omega), h4, show 4 + i - 4 = i by omega, List.getElem?_append_left (by simp [hB]; omega), List.getElem?_take, if_pos hi]; exact hx
  · simp only [cnt, if_true] at hi ⊢
    simp only [aheadB, if_true, List.append_assoc]
    rw [List.getElem?_append_right (by omega), hA, show 16 + i - 16 = i by omega, List.getElem?_append_left (by omega)]; exact hx

theorem cnt_ahead {s : Bool} {i : Nat} (h : i < cnt s) : i < aheadM s ∧ cnt s + i < aheadM s := by
  cases s <;> simp only [cnt, aheadM, Bool.false_eq_true, if_true, if_false] at h ⊢ <;> omega
section
variable (s : Bool) (A B : List UInt8) (sp dp : Nat) (data more : List UInt8) (hA : A.length = 16) (hB : B.length = 16) (h1 : sp < 65536) (h2 : dp < 65536) (h4 : data.length ≤ 300)
include hA hB h1 h2 h4
/-- a bit of the source's address -/
theorem back_src (i j : Nat) (x x' : UInt8) (hj : j < 8) (hi : i < cnt s) (hx : A[i]? = some x) (hx' : x'.toNat = x.toNat ^^^ (128 >>> j)) :
    udpWhy s s (A.set i x') B (udpB s A B sp dp data ++ more) = 5 := by
  have hp := udpS_pos s A B sp dp data
  have hr := put_right s A B sp dp data hA hB
  rw [udpB_W]
  obtain ⟨g0, g2, g4, g6, gd⟩ := udpW_get sp dp (udpS s A B sp dp data) data h1 h2 (by omega) h4
  have hl := udpW_len sp dp (udpS s A B sp dp data) data
  refine why_sum s _ B _ more (8 + data.length) hl (by omega) g4 (by omega) ?_
  rw [ahead_src s A B _ i x' hA hi, ← List.set_append_left _ _ (by rw [aheadB_len s A B _ hA hB]; exact (cnt_ahead hi).1)]
  exact csum_flip _ i j x x' hj (by rw [List.getElem?_append_left (by rw [aheadB_len s A B _ hA hB]; exact (cnt_ahead hi).1)]; exact ahead_get_src s A B _ i x hA hi hx) hx' hr
/-- a bit of the destination's -/
theorem back_dst (i j : Nat) (x x' : UInt8) (hj : j < 8) (hi : i < cnt s) (hx : B[i]? = some x) (hx' : x'.toNat = x.toNat ^^^ (128 >>> j)) :
    udpWhy s s A (B.set i x') (udpB s A B sp dp data ++ more) = 5 := by
  have hp := udpS_pos s A B sp dp data
  have hr := put_right s A B sp dp data hA hB
  rw [udpB_W]
  obtain ⟨g0, g2, g4, g6, gd⟩ := udpW_get sp dp (udpS s A B sp dp data) data h1 h2 (by omega) h4
  have hl := udpW_len sp dp (udpS s A B sp dp data) data
  refine why_sum s A _ _ more (8 + data.length) hl (by omega) g4 (by omega) ?_
  have hk : cnt s + i < (aheadB s A B (8 + data.length)).length := by rw [aheadB_len s A B _ hA hB]; exact (cnt_ahead hi).2
  rw [ahead_dst s A B _ i x' hA hB hi, ← List.set_append_left _ _ hk]
  exact csum_flip _ _ j x x' hj (by rw [List.getElem?_append_left hk]; exact ahead_get_dst s A B _ i x hA hB hi hx) hx' hr
/-- a bit of the ports or the data -/
theorem back_byte (k j : Nat) (x x' : UInt8) (hj : j < 8) (hk : k < 8 + data.length) (hk4 : k < 4 ∨ 8 ≤ k) (hx : (udpB s A B sp dp data)[k]? = some x) (hx' : x'.toNat = x.toNat ^^^ (128 >>> j)) :
    udpWhy s s A B ((udpB s A B sp dp data ++ more).set k x') = 5 := by
  have hp := udpS_pos s A B sp dp data
  have hr := put_right s A B sp dp data hA hB
  rw [udpB_W] at hx ⊢
  obtain ⟨g0, g2, g4, g6, gd⟩ := udpW_get sp dp (udpS s A B sp dp data) data h1 h2 (by omega) h4
  have hl := udpW_len sp dp (udpS s A B sp dp data) data
  rw [List.set_append_left _ _ (by omega)]
  refine why_sum s A B _ more (8 + data.length) (by simpa using hl) (by omega) ?_ ?_ ?_
  · exact (getN_set (udpW sp dp (udpS s A B sp dp data) data) k x' 4 (by omega) (by omega)).trans g4
  · have e : getN false ((udpW sp dp (udpS s A B sp dp data) data).set k x') 6 2 = _ := getN_set (udpW sp dp (udpS s A B sp dp data) data) k x' 6 (by omega) (by omega)
    rw [e]
    have g6' : getN false (udpW sp dp (udpS s A B sp dp data) data) ((6 : Nat) : Int) 2 = _ := g6
    omega
  · have e : aheadB s A B (8 + data.length) ++ (udpW sp dp (udpS s A B sp dp data) data).set k x' = (aheadB s A B (8 + data.length) ++ udpW sp dp (udpS s A B sp dp data) data).set ((aheadB s A B (8 + data.length)).length + k) x' := by
      rw [List.set_append_right _ _ (by omega), Nat.add_sub_cancel_left]
    rw [e]
    exact csum_flip _ _ j x x' hj (by rw [List.getElem?_append_right (by omega), Nat.add_sub_cancel_left]; exact hx) hx' hr
end
end Go.Proofs.Ytnckmaieghlpmaa
