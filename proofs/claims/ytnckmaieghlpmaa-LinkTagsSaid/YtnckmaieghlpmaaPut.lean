/-
  The walk of Row.Put.
-/
import Derived.Test.YtnckmaieghlpmaaOwn
import Derived.Test.YtnckmaieghlpmaaNum
import Derived.Test.YtnckmaieghlpmaaSum
import Derived.Test.YtnckmaieghlpmaaBit
import Derived.Deep.RegionHeld3
import Derived.Deep.RegionLaw
namespace Go.Proofs.Ytnckmaieghlpmaa
open Go.RowKit
set_option linter.unusedVariables false

/-- a block of two cells -/
theorem two_cells {w : World} {g : Nat} {x y : Value} {t : TypeId} (h : w.heap[g]? = some (.cells #[x, y] t (0, 0))) :
    w.cell? ⟨g, 0, none⟩ = some x ∧ w.cell? ⟨g, 1, none⟩ = some y ∧ w.frozen? ⟨g, 0, none⟩ = false ∧ w.frozen? ⟨g, 1, none⟩ = false :=
  ⟨cell_of_row w g 0 _ t _ h, cell_of_row w g 1 _ t _ h, frozen_of_row w g 0 _ t h, frozen_of_row w g 1 _ t h⟩

/-- what Put returns: a row of the call's own -/
def PutYes (w : World) (lit : Bool) (bs : List UInt8) (e : Ending) (w' : World) : Prop :=
  ∃ v, e = .returned (.agg #[v, .bool lit]) ∧ Own w' w.heap.size v bs ∧ Below w.heap.size w w'

theorem bel_past {B : Nat} {wr w3 : World} {o : Obj} (h : Below B (wr.drew.alloc o) w3) (hB : B ≤ wr.heap.size) : Below B wr w3 :=
  (((Below.refl B wr).drew).alloc hB o).trans h

/-- where Put stands in its loop: the row's block, the result's block, the bytes so far -/
def PutSt (w wr : World) (v : Value) (lit : Bool) (xs : List UInt8) : Prop :=
  wr.heap[w.heap.size]? = some (.cells #[v, .bool lit] 30 (0, 0)) ∧ wr.heap[w.heap.size + 1]? = some (.cells #[.slice none 0 0, .bool false] 30 (0, 0)) ∧
  Own wr (w.heap.size + 2) v xs ∧ Below w.heap.size w wr

theorem own_set {w : World} {base : Nat} {v : Value} {bs : List UInt8} (h : Own w base v bs) {a : Addr} (ha : a.block < base) (u : Value) : Own (w.setCell a u) base v bs := ownsRow_setCell_below h ha u

theorem put_start {w w1 : World} {v v0 : Value} {lit : Bool} {xs : List UInt8} (h : Below (w.heap.size + 2) ((w.alloc (.cells #[v0, .bool lit] 30)).alloc (.cells #[.slice none 0 0, .bool false] 30)) w1)
    (ho : Own w1 (w.heap.size + 2) v xs) : PutSt w (w1.setCell ⟨w.heap.size, 0, none⟩ v) v lit xs := by
  have h0 : w1.heap[w.heap.size]? = some (.cells #[v0, .bool lit] 30 (0, 0)) := (h.block _ (by omega)).trans (heap_alloc2_old _ _ _)
  have h1 : w1.heap[w.heap.size + 1]? = some (.cells #[.slice none 0 0, .bool false] 30 (0, 0)) := (h.block _ (by omega)).trans (heap_alloc2_new _ _ _)
  refine ⟨heap_setCell_same w1 _ 0 _ 30 v h0, ?_, own_set ho (by show w.heap.size < _; omega) _, ?_⟩
  · rw [heap_setCell_other _ _ _ _ (by show w.heap.size + 1 ≠ w.heap.size; omega)]; exact h1
  · exact ((((Below.refl _ _).alloc (Nat.le_refl _) _).alloc (by simp) _).trans (h.mono (by omega))).setCell (Nat.le_refl _) _

theorem put_step {w wr w2 : World} {v v2 : Value} {lit : Bool} {xs ys : List UInt8} (h : PutSt w wr v lit xs) (hb : Below (w.heap.size + 2) wr w2)
    (ho : Own w2 (w.heap.size + 2) v2 ys) : PutSt w (w2.setCell ⟨w.heap.size, 0, none⟩ v2) v2 lit ys := by
  obtain ⟨h0, h1, _, h3⟩ := h
  have h0' := (hb.block _ (by omega)).trans h0
  have h1' := (hb.block _ (by omega)).trans h1
  refine ⟨heap_setCell_same w2 _ 0 _ 30 v2 h0', ?_, own_set ho (by show w.heap.size < _; omega) _, ?_⟩
  · rw [heap_setCell_other _ _ _ _ (by show w.heap.size + 1 ≠ w.heap.size; omega)]; exact h1'
  · exact (h3.trans (hb.mono (by omega))).setCell (Nat.le_refl _) _

theorem put_mid {w wr w3 : World} {v : Value} {lit : Bool} {xs : List UInt8} (h : PutSt w wr v lit xs) (hb : Below (w.heap.size + 2) wr w3) :
    w3.cell? ⟨w.heap.size, 0, none⟩ = some v ∧ w3.frozen? ⟨w.heap.size, 0, none⟩ = false := by
  have h0 := (hb.block w.heap.size (by omega)).trans h.1
  exact ⟨(two_cells h0).1, (two_cells h0).2.2.1⟩
theorem put_size {w wr : World} {v : Value} {lit : Bool} {xs : List UInt8} (h : PutSt w wr v lit xs) : w.heap.size + 2 ≤ wr.heap.size := by
  have := lt_of_block h.2.1; omega

set_option maxHeartbeats 1000000 in
theorem put_yes (w : World) (v : Value) (bs : List UInt8) (lit : Bool) (n m : Nat) (hb : Bs w v bs) (hbl : bs.length ≤ 4294967296) (hn : n < 18446744073709551616) (hm : m ≤ 8) :
    Calls Try.prog 33 #[.agg #[v, .bool lit], .int .u64 n, .int .i64 m] w (PutYes w lit (bs ++ numB lit n m)) := by
  have HB := Lib.hid hb
  obtain ⟨a, c, rfl, hl1, hl2, hat⟩ := hb
  clear hat
  unfold maxLen at hl2
  go_enter Try.func33, Try.ntmps33
  go_wp2_with (at_builtin; refine wpList_app rfl _ _ rfl (w.heap.size + 2) _ [] rfl (own_nil _ _) _ bs rfl ((HB.out.alloc _).alloc _) (by simp; omega) (by simp) ?_; intro a1 c1 w1 hown1 hbel1 hc1; simp only [List.length_nil, Nat.zero_add] at hown1 hc1 ⊢; have hR : w1.heap[w.heap.size]? = some (.cells #[Value.slice a bs.length c, Value.bool lit] 30 (0, 0)) := (hbel1.block _ (by omega)).trans (heap_alloc2_old _ _ _); have hX := two_cells hR)
  go_loopw [21] (fun i wr => ∃ (k : Nat) (v : Value), k ≤ m ∧ i = .int .i64 k ∧ Hid (PutSt w wr v lit (bs ++ (numB lit n m).take k))) (fun i _ => m - (intOf i).toNat)
  case atStart => exact ⟨0, _, Nat.zero_le _, rfl, by simpa [Hid] using put_start hbel1 hown1⟩
  case round =>
    obtain ⟨k, v, hk, rfl, HS⟩ := hrel
    clear hR hX hown1 hbel1
    obtain ⟨b0, b1, f0, f1⟩ := two_cells HS.out.1
    obtain ⟨c0, c1, g0, g1⟩ := two_cells HS.out.2.1
    by_cases hlt : k < m
    · obtain ⟨a2, c2, rfl, hv1, hv2⟩ := HS.out.2.2.1.slice
      obtain ⟨xb, hxb⟩ : ∃ xb, (numB lit n m)[k]? = some xb := ⟨_, numB_get lit n m k hlt⟩
      have hbyte := numB_get lit n m k hlt
      rw [hxb] at hbyte
      obtain ⟨xs, hxs⟩ : ∃ xs, xs = bs ++ (numB lit n m).take k := ⟨_, rfl⟩
      have hnext : bs ++ (numB lit n m).take (k + 1) = xs ++ [xb] := by rw [take_snoc' hxb, ← List.append_assoc, hxs]
      have hxl : xs.length ≤ 4294967304 := by rw [hxs]; simp; omega
      rw [← hxs] at HS hv1 b0
      have HB := Lib.hid hbyte
      have HX := Lib.hid hnext
      clear hbyte hnext hxs hxb
      obtain ⟨t, ht⟩ : ∃ t, t = if lit then k else m - 1 - k := ⟨_, rfl⟩
      have ht8 : t < 8 := by rw [ht]; split <;> omega
      have hxq : IntKind.u8.wrap ((n : Int) / 2 ^ (8 * (t : Int)).toNat) = (xb.toNat : Int) := by
        have := HB.out
        rw [← ht] at this
        simp only [Option.some.injEq] at this
        rw [this, IntKind.wrap_u8, show ((8 * (t : Int)).toNat) = 8 * t by omega, show ((2 : Int) ^ (8 * t)) = ((256 ^ t : Nat) : Int) by rw [← pow256]; simp]
        simp
      have hlt0 : w.heap.size < wr.heap.size := by have := put_size HS.out; omega
      have hw8 : IntKind.i64.wrap (8 * (t : Int)) = 8 * (t : Int) := IntWalk.i64_in _ (by omega)
      have hsz : w.heap.size + 2 ≤ (wr.drew.alloc (Obj.cells #[Value.int IntKind.u8 (xb.toNat : Int)] 5)).heap.size := by
        have := lt_of_block HS.out.2.1
        simp; omega
      cases lit
      · have hmk : (m : Int) - 1 - (k : Int) = (t : Int) := by simp at ht; omega
        have HT := Lib.hid ht
        clear ht
        go_wp2
        go_region_law ((refine step_app (by rfl) _ _ (by rfl) (w.heap.size + 2) _ xs (by rfl) (HS.out.2.2.1.drew.alloc _) _ [xb] (by rfl) (bs_new wr.drew [xb] _ 5 _ rfl (by show 1 ≤ maxLen; decide)) (by simp; omega) hsz ?_; intro a3 c3 w3 hown3 hbel3 hc3; obtain ⟨hm1, hm2⟩ := put_mid HS.out (bel_past hbel3 (put_size HS.out))))
        all_goals
          clear hm1 hm2
          go_wp2
          go_roundw
          case rel => exact ⟨k + 1, _, by omega, by go_num, by rw [HX.out]; exact put_step HS.out (bel_past hbel3 (put_size HS.out)) hown3⟩
          case measure => simp [intOf]; omega
      · have hmk : k = t := by symm; simpa using ht
        subst hmk
        clear ht
        go_wp2
        go_region_law ((refine step_app (by rfl) _ _ (by rfl) (w.heap.size + 2) _ xs (by rfl) (HS.out.2.2.1.drew.alloc _) _ [xb] (by rfl) (bs_new wr.drew [xb] _ 5 _ rfl (by show 1 ≤ maxLen; decide)) (by simp; omega) hsz ?_; intro a3 c3 w3 hown3 hbel3 hc3; obtain ⟨hm1, hm2⟩ := put_mid HS.out (bel_past hbel3 (put_size HS.out))))
        all_goals
          clear hm1 hm2
          go_wp2
          go_roundw
          case rel => exact ⟨k + 1, _, by omega, by go_num, by rw [HX.out]; exact put_step HS.out (bel_past hbel3 (put_size HS.out)) hown3⟩
          case measure => simp [intOf]; omega
    · obtain rfl : k = m := by omega
      rw [List.take_of_length_le (by rw [numB_length]; exact Nat.le_refl _)] at HS
      obtain ⟨xs, hxs⟩ : ∃ xs, xs = bs ++ numB lit n k := ⟨_, rfl⟩
      rw [← hxs] at HS
      obtain ⟨a2, c2, rfl, hv1, hv2⟩ := HS.out.2.2.1.slice
      have HXS := Lib.hid hxs
      clear hxs
      go_wp2
      refine bodyPost_ret (v := .agg #[.slice a2 xs.length c2, .bool lit]) (by simp [results, Try.results33, go_sem, c0, c1]) rfl ⟨_, rfl, ?_, ?_⟩
      · rw [← HXS.out]
        exact (own_set (own_set HS.out.2.2.1 (by show w.heap.size + 1 < _; omega) _) (by show w.heap.size + 1 < _; omega) _).mono (by omega)
      · exact (HS.out.2.2.2.setCell (by show w.heap.size ≤ w.heap.size + 1; omega) _).setCell (by show w.heap.size ≤ w.heap.size + 1; omega) _

/-- Put of a number of bytes that may not be: the row itself -/
def PutNo (w : World) (v : Value) (lit : Bool) (e : Ending) (w' : World) : Prop :=
  e = .returned (.agg #[v, .bool lit]) ∧ Below w.heap.size w w'

set_option maxHeartbeats 1000000 in
theorem put_no (w : World) (v : Value) (bs : List UInt8) (lit : Bool) (n : Nat) (m : Int) (hb : Bs w v bs) (hm : m < 0 ∨ 8 < m) :
    Calls Try.prog 33 #[.agg #[v, .bool lit], .int .u64 n, .int .i64 m] w (PutNo w v lit) := by
  obtain ⟨a, c, rfl, hl1, hl2, hat⟩ := hb
  clear hat
  unfold maxLen at hl2
  by_cases h1 : m < 0
  · clear hm
    go_enter Try.func33, Try.ntmps33
    go_wp2
    exact bodyPost_ret (v := .agg #[.slice a bs.length c, .bool lit]) (by simp [results, Try.results33, go_sem]) rfl ⟨rfl, ((Below.refl _ _).alloc (Nat.le_refl _) _).alloc (by simp) _⟩
  · have h2 : 8 < m := by omega
    clear hm
    go_enter Try.func33, Try.ntmps33
    go_wp2
    exact bodyPost_ret (v := .agg #[.slice a bs.length c, .bool lit]) (by simp [results, Try.results33, go_sem]) rfl ⟨rfl, ((Below.refl _ _).alloc (Nat.le_refl _) _).alloc (by simp) _⟩
end Go.Proofs.Ytnckmaieghlpmaa
