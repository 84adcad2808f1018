/-
  The plain law of FragOldest: of more packets than a table is for the first one goes.
-/
import Derived.Test.YtnckmaieghlpmaaZ8
namespace Go.Proofs.Ytnckmaieghlpmaa
open Go.RowKit
set_option linter.unusedVariables false

def nmI (y : PartD) (id : Nat) : NameD := { y.nm with id := id }
/-- the first, the last part of packet number id -/
def oP (y : PartD) (id : Nat) (last : Bool) : PartD := ⟨nmI y id, if last then 8 else 0, !last, if last then [9] else [UInt8.ofNat id, 1, 2, 3, 4, 5, 6, 7]⟩
def pkI (y : PartD) (id : Nat) : PkT := (nmI y id, [oP y id false])
theorem nmI_inj {y : PartD} {i j : Nat} (h : nmI y i = nmI y j) : i = j := congrArg NameD.id h
theorem nmI_fit {y : PartD} (hy : y.nm.fit) {i : Nat} (hi : i < 4294967296) : (nmI y i).fit := ⟨hy.1, hy.2.1, hi⟩
theorem oP_may (y : PartD) (id : Nat) (last : Bool) : mayB 16 (oP y id last) = true := by cases last <;> simp [mayB, oP]
theorem find_no {y : PartD} {l : List Nat} {id : Nat} (h : id ∉ l) : findPk (l.map (pkI y)) (nmI y id) = none := by
  unfold findPk
  rw [List.findIdx?_eq_none_iff]
  intro k hk
  obtain ⟨j, hj, rfl⟩ := List.mem_map.1 hk
  exact decide_eq_false (fun e => h (by rw [← nmI_inj e]; exact hj))
theorem roomed_map {y : PartD} {m : Nat} {l : List Nat} : roomed (m : Int) (l.map (pkI y)) = (if m ≤ l.length then l.eraseIdx 0 else l).map (pkI y) := by
  unfold roomed
  rw [List.length_map]
  by_cases h : m ≤ l.length
  · rw [if_pos (by omega), if_pos h, map_erase]
  · rw [if_neg (by omega), if_neg h]
theorem take_first {y : PartD} {m : Nat} {l : List Nat} {id : Nat} (hm : 1 ≤ m) (h : id ∉ l) : takeS (m : Int) 16 (l.map (pkI y)) (oP y id false) = ⟨((if m ≤ l.length then l.eraseIdx 0 else l) ++ [id]).map (pkI y), [], false, 7⟩ := by
  unfold takeS
  rw [if_neg (by omega), if_neg (by rw [oP_may]; simp)]
  have hf : findPk (l.map (pkI y)) (oP y id false).nm = none := find_no h
  rw [hf]
  simp only []
  rw [roomed_map]
  obtain ⟨q, hq⟩ : ∃ q, q = (if m ≤ l.length then l.eraseIdx 0 else l) := ⟨_, rfl⟩
  rw [← hq]
  have hw : wholeB (insPt (oP y id false) []) = false := rfl
  have hi : insPt (oP y id false) [] = [oP y id false] := rfl
  unfold stepIn
  rw [if_neg (by simp), if_neg (by simp), if_neg (by rw [hw]; simp), hi]
  congr 1
  rw [List.length_map, List.map_append]
  simp [pkI, oP]
theorem take_last {y : PartD} {m : Nat} {l : List Nat} {id : Nat} (hm : 1 ≤ m) : takeS (m : Int) 16 ((id :: l).map (pkI y)) (oP y id true) = ⟨l.map (pkI y), [UInt8.ofNat id, 1, 2, 3, 4, 5, 6, 7, 9], true, 0⟩ := by
  unfold takeS
  rw [if_neg (by omega), if_neg (by rw [oP_may]; simp)]
  have hf : findPk ((id :: l).map (pkI y)) (oP y id true).nm = some 0 := by
    unfold findPk
    rw [List.map_cons, List.findIdx?_cons]
    exact if_pos (decide_eq_true (show nmI y id = nmI y id from rfl))
  rw [hf]
  have hp : psAt ((id :: l).map (pkI y)) 0 = [oP y id false] := rfl
  simp only [hp]
  have h1 : [oP y id false].any (sameB (oP y id true)) = false := rfl
  have h2 : [oP y id false].any (clashB (oP y id true)) = false := rfl
  have hw : wholeB (insPt (oP y id true) [oP y id false]) = true := rfl
  have hj : joinB (insPt (oP y id true) [oP y id false]) = [UInt8.ofNat id, 1, 2, 3, 4, 5, 6, 7, 9] := rfl
  unfold stepIn
  rw [if_neg (by rw [h1]; simp), if_neg (by rw [h2]; simp), if_pos hw, hj]
  rfl
theorem take_anew {y : PartD} {m : Nat} (hm : 1 ≤ m) : takeS (m : Int) 16 [] (oP y 0 true) = ⟨[(nmI y 0, [oP y 0 true])], [], false, 7⟩ := by
  unfold takeS
  rw [if_neg (by omega), if_neg (by rw [oP_may]; simp)]
  have hf : findPk [] (oP y 0 true).nm = none := rfl
  rw [hf]
  have hr : roomed (m : Int) ([] : List PkT) = [] := by unfold roomed; split <;> rfl
  simp only [hr]
  have hw : wholeB (insPt (oP y 0 true) []) = false := rfl
  unfold stepIn
  rw [if_neg (by simp), if_neg (by simp), if_neg (by rw [hw]; simp)]
  rfl
/-- the numbers of the packets in the table behind k first parts -/
def lA (m k : Nat) : List Nat := if k ≤ m then List.range' 0 k else List.range' 1 m
def lB (m k : Nat) : List Nat := List.range' (1 + k) (m - k)
theorem takeA {y : PartD} {m k : Nat} (hm : 1 ≤ m) (hk : k ≤ m) : takeS (m : Int) 16 ((lA m k).map (pkI y)) (oP y k false) = ⟨(lA m (k + 1)).map (pkI y), [], false, 7⟩ := by
  have hl : lA m k = List.range' 0 k := if_pos hk
  rw [hl, take_first hm (by rw [List.mem_range'_1]; omega)]
  congr 2
  rw [List.length_range']
  rcases Nat.lt_or_ge k m with hlt | hge
  · rw [if_neg (by omega), lA, if_pos (by omega), List.range'_concat]; simp
  · have : k = m := by omega
    subst this
    rw [if_pos (Nat.le_refl _), lA, if_neg (by omega)]
    obtain ⟨j, rfl⟩ : ∃ j, k = j + 1 := ⟨k - 1, by omega⟩
    rw [List.range'_succ, List.eraseIdx_cons_zero, List.range'_concat]
    simp [Nat.add_comm]
theorem lA_end (m : Nat) : lA m (m + 1) = lB m 0 := by
  unfold lA lB
  rw [if_neg (by omega)]; rfl
theorem takeB {y : PartD} {m k : Nat} (hm : 1 ≤ m) (hk : k < m) : takeS (m : Int) 16 ((lB m k).map (pkI y)) (oP y (k + 1) true) = ⟨(lB m (k + 1)).map (pkI y), [UInt8.ofNat (k + 1), 1, 2, 3, 4, 5, 6, 7, 9], true, 0⟩ := by
  have : lB m k = (k + 1) :: lB m (k + 1) := by
    unfold lB
    obtain ⟨j, hj⟩ : ∃ j, m - k = j + 1 := ⟨m - k - 1, by omega⟩
    rw [hj, List.range'_succ, show m - (k + 1) = j by omega, Nat.add_comm 1 k, Nat.add_comm 1 (k + 1)]
  rw [this]
  exact take_last hm
theorem lB_end (m : Nat) : lB m m = [] := by unfold lB; simp
end Go.Proofs.Ytnckmaieghlpmaa
