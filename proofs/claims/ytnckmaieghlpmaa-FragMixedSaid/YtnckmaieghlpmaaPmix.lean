/-
  horologelaw17.mix: parts of an own row, in another order.
-/
import Derived.Test.YtnckmaieghlpmaaZ8
import Derived.Deep.DeepCutAuto
namespace Go.Proofs.Ytnckmaieghlpmaa
open Go.RowKit
set_option linter.unusedVariables false
set_option linter.unusedSimpArgs false
attribute [local go_sem ↓] fold_ld54 fold_st54 fold_ld90 fold_st90 fold_ld121 fold_st121 fold_ld124 fold_st124 Go.wp_at_zero Go.wp_at_succ
attribute [local go_sem] ld54_at st54_at ld90_at st90_pt ld121_at st121_nm ld124_at free_new1 bx36 bx37 bx38 bxhas bxrd

theorem setCells_row (w : World) (g o : Nat) (cur : Array Value) (vs : List Value) (hg : w.heap[g]? = some (.cells cur 90 (0, 0))) (hl : o + vs.length ≤ cur.size) (h1 : ∀ v ∈ vs, v.oneCell' = true) : w.setCells g o vs = w.setRow g (cur.toList.take o ++ vs ++ cur.toList.drop (o + vs.length)).toArray := by
  have a := run_storeCells_at Try.prog g o 90 vs 0 cur w hg (by omega) h1
  have b := run_storeCells_cells (P := Try.prog) g o vs 0 w (fun j hj => by
    rw [cell_of_row w g _ cur 90 (0, 0) hg, Array.getElem?_eq_getElem (by omega)]; rfl) (fun j hj => frozen_of_row w g _ cur 90 hg) h1
  rw [a] at b
  simp only [Nat.add_zero] at b
  injection b with _ h
  exact h.symm
theorem set_take {α : Type} (L : List α) (i : Nat) (x : α) (hi : i < L.length) : L.set i x = L.take i ++ x :: L.drop (i + 1) := by
  rw [List.set_eq_take_append_cons_drop, if_pos hi]
/-- one element of an own row is written -/
theorem row_put {w : World} {base n : Nat} {v : Value} {L : List (PartD × Value)} (h : w.ownsRow base 90 39 v n (ptRow L)) (hn : L.length = n) (hok : ∀ z ∈ L, z.1.nm.ok) {i : Nat} (hi : i < n) {x : PartD × Value} (hx : x.1.nm.ok) (hx1 : x.2.oneCell' = true) {g c : Nat} (hv : v = .slice (some ⟨g, 0, none⟩) n c) :
    (w.setCells g (i * 39) (partL x.1 x.2)).ownsRow base 90 39 v n (ptRow (L.set i x)) := by
  have hs : ∀ z ∈ L, (partL z.1 z.2).length = 39 := fun z hz => partL_len (hok z hz) _
  rcases h.2 with ⟨e, _⟩ | ⟨g', cap, cur, e, hbg, hg, hnc, hcm, hcs, htake⟩
  · rw [hv] at e; cases e
  · rw [hv] at e
    cases e
    have hm1 : (i + 1) * 39 ≤ n * 39 := Nat.mul_le_mul_right 39 hi
    have hm2 : n * 39 ≤ c * 39 := Nat.mul_le_mul_right 39 hnc
    have hm3 : (i + 1) * 39 = i * 39 + 39 := Nat.succ_mul i 39
    have hxl : (partL x.1 x.2).length = 39 := partL_len hx _
    have h1 : ∀ u ∈ partL x.1 x.2, u.oneCell' = true := fun u hu => by
      have := partA_one (p := x.1) hx1
      exact Array.all_eq_true_iff_forall_mem.1 this u (by simpa [partA] using hu)
    rw [setCells_row w g (i * 39) cur _ hg (by omega) h1]
    have hrow : ptRow (L.set i x) = (ptRow L).take (i * 39) ++ partL x.1 x.2 ++ (ptRow L).drop (i * 39 + 39) := by
      unfold ptRow
      rw [set_take L i x (by omega), List.flatMap_append, List.flatMap_cons, flat_take _ 39 L hs, ← hm3, flat_drop _ 39 L hs, List.append_assoc]
    have hpl : (ptRow L).length = n * 39 := h.1
    refine ⟨?_, .inr ⟨g, c, _, hv, hbg, setRow_heap w g cur _ 90 _ hg, hnc, hcm, ?_, ?_⟩⟩
    · rw [hrow]; simp only [List.length_append, List.length_take, List.length_drop, hpl, hxl]; omega
    · simp only [List.size_toArray, List.length_append, List.length_take, List.length_drop, Array.length_toList, hxl]; omega
    · rw [hrow, hxl]
      show ((cur.toList.take (i * 39) ++ partL x.1 x.2 ++ cur.toList.drop (i * 39 + 39)).take (n * 39)) = _
      have hA : (cur.toList.take (i * 39) ++ partL x.1 x.2).length = i * 39 + 39 := by
        rw [List.length_append, List.length_take, hxl, Array.length_toList]; omega
      rw [List.take_append, List.take_of_length_le (by rw [hA]; omega), hA, ← htake]
      rw [List.take_take, Nat.min_eq_left (by omega), List.drop_take]
theorem perm_swap {α : Type} {L : List α} {i k : Nat} {x y : α} (hx : L[i]? = some x) (hy : L[k]? = some y) : ((L.set i y).set k x).Perm L := by
  obtain ⟨hi, rfl⟩ := List.getElem?_eq_some_iff.1 hx
  obtain ⟨hk, rfl⟩ := List.getElem?_eq_some_iff.1 hy
  exact List.set_set_perm hi hk
end Go.Proofs.Ytnckmaieghlpmaa
