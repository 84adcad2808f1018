/-
  The walk of horologeref07.Put.
-/
import Derived.Test.YtnckmaieghlpmaaPut
namespace Go.Proofs.Ytnckmaieghlpmaa
open Go.RowKit
set_option linter.unusedVariables false

/-- a slice of the call's own -/
def OwnRet (w : World) (bs : List UInt8) (e : Ending) (w' : World) : Prop :=
  ∃ v, e = .returned v ∧ Own w' w.heap.size v bs ∧ Below w.heap.size w w'

/-- the bytes that are laid so far: those at the places of the first k -/
def Laid (lit : Bool) (n m k : Nat) (xs : List UInt8) : Prop :=
  xs.length = m ∧ ∀ i, i < k → xs[if lit then i else m - 1 - i]? = some (UInt8.ofNat (n / 256 ^ i % 256))

theorem laid_all {lit : Bool} {n m : Nat} {xs : List UInt8} (h : Laid lit n m m xs) : xs = numB lit n m := by
  apply List.ext_getElem?
  intro i
  by_cases hi : i < m
  · rw [numB_get _ _ _ _ hi]
    cases lit
    · have := h.2 (m - 1 - i) (by omega)
      simp only [Bool.false_eq_true, if_false] at this ⊢
      rw [show m - 1 - (m - 1 - i) = i by omega] at this
      exact this
    · simpa using h.2 i hi
  · rw [List.getElem?_eq_none (by rw [h.1]; omega), List.getElem?_eq_none (by rw [numB_length]; omega)]

theorem laid_step {lit : Bool} {n m k : Nat} {xs : List UInt8} {x : UInt8} (h : Laid lit n m k xs) (hk : k < m) (hx : x = UInt8.ofNat (n / 256 ^ k % 256)) :
    Laid lit n m (k + 1) (xs.set (if lit then k else m - 1 - k) x) := by
  refine ⟨by rw [List.length_set]; exact h.1, fun i hi => ?_⟩
  by_cases he : i = k
  · subst he
    rw [List.getElem?_set_self (by rw [h.1]; split <;> omega), hx]
  · rw [List.getElem?_set_ne (by cases lit <;> simp <;> omega)]
    exact h.2 i (by omega)

theorem made_bytes (m : Nat) : (madeCells (Value.int .u8 0).cells (m * 1)).toList = (List.replicate m (0 : UInt8)).map byteV := by
  rw [List.map_replicate, List.eq_replicate_iff]
  refine ⟨by rw [Array.length_toList, size_madeCells]; omega, fun b hb => ?_⟩
  simp only [madeCells, Value.cells, Array.toList_map, List.mem_map] at hb
  obtain ⟨i, _, rfl⟩ := hb
  simp [byteV, Nat.mod_one]

set_option maxHeartbeats 1000000 in
theorem rput_any (w : World) (lit : Bool) (n m : Nat) (hn : n < 18446744073709551616) (hm : m ≤ 8) :
    Calls Try.prog 34 #[.int .u64 n, .bool lit, .int .i64 m] w (OwnRet w (numB lit n m)) := by
  obtain ⟨i0, hi, hz0, hz1, hz2⟩ := info_parts Try.info5
  go_enter Try.func34, Try.ntmps34
  go_wp2_with (at_make; refine wpList_make_full _ rfl _ _ 24 rfl w.heap.size 5 i0 (.int .u8 0) 1 Try.underlying24 hi hz0 hz1 _ _ _ _ m rfl rfl rfl rfl (by rw [hz2]; omega) (by unfold maxLen; omega) (Nat.le_refl _) ?_; intro w1 hown1 hgrow1)
  have hO : Own w1 w.heap.size (.slice (some ⟨w.heap.size, 0, none⟩) (List.replicate m (0 : UInt8)).length m) (List.replicate m (0 : UInt8)) := by
    unfold Own; rw [List.length_replicate, ← made_bytes]; exact hown1
  have hb1 : Below w.heap.size w w1 := (Below.refl _ _).grown hgrow1 (Nat.le_refl _) (fun k hk => by cases hk)
  have HO := Lib.hid hO
  have HB := Lib.hid hb1
  clear hO hb1 hown1 hgrow1
  go_loopw [0, 8] (fun q i wr => ∃ (k t : Nat), k ≤ m ∧ i = .int .i64 k ∧ q = .int .u64 t ∧ Hid (t = n / 256 ^ k) ∧
      Hid (∃ xs, Own wr w.heap.size (.slice (some ⟨w.heap.size, 0, none⟩) xs.length m) xs ∧ Laid lit n m k xs ∧ Below w.heap.size w wr)) (fun _ i _ => m - (intOf i).toNat)
  case atStart => exact ⟨0, n, Nat.zero_le _, rfl, rfl, by simp [Hid], _, HO.out, ⟨by simp, fun i hi => by omega⟩, HB.out⟩
  case round =>
    obtain ⟨k, t, hk, rfl, rfl, HT, HX⟩ := hrel
    obtain ⟨xs, hxs⟩ := HX.out
    have HS := Lib.hid hxs
    have hxl : xs.length = m := hxs.2.1.1
    have HL := Lib.hid hxl
    clear hxs HX hxl
    by_cases hlt : k < m
    · have ht : t < 18446744073709551616 := by
        have : n / 256 ^ k ≤ n := Nat.div_le_self _ _
        rw [HT.out]; omega
      obtain ⟨xb, hxb⟩ : ∃ xb, xb = UInt8.ofNat (t % 256) := ⟨_, rfl⟩
      have hxt : xb = UInt8.ofNat (n / 256 ^ k % 256) := by rw [hxb, HT.out]
      have hxi : (t : Int) % 256 = (xb.toNat : Int) := by rw [hxb]; simp
      have HXT := Lib.hid hxt
      clear hxb hxt
      have hfr := fun j => own_free HS.out.1 j
      cases lit
      · obtain ⟨y, hy⟩ : ∃ y, xs[m - 1 - k]? = some y := ⟨xs[m - 1 - k]'(by rw [HL.out]; omega), by rw [List.getElem?_eq_getElem]⟩
        have hcell := own_cell (j := m - 1 - k) (by have := HS.out.1; exact this) hy
        have hidx : m - 1 - k < m := by omega
        clear hy
        go_wp2
        go_roundw
        case rel =>
          refine ⟨k + 1, t / 256, by omega, by go_num, by go_num, by show _ = _; rw [HT.out, Nat.pow_succ, Nat.div_div_eq_div_mul], xs.set (m - 1 - k) xb, ?_, laid_step (lit := false) HS.out.2.1 hlt HXT.out, HS.out.2.2.setCell (Nat.le_refl _) _⟩
          have := own_store HS.out.1 (m - 1 - k) xb
          rw [List.length_set]; exact this
        case measure => simp [intOf]; omega
      · obtain ⟨y, hy⟩ : ∃ y, xs[k]? = some y := ⟨xs[k]'(by rw [HL.out]; omega), by rw [List.getElem?_eq_getElem]⟩
        have hcell := own_cell (j := k) (by have := HS.out.1; exact this) hy
        have hidx : k < m := by omega
        clear hy
        go_wp2
        go_roundw
        case rel =>
          refine ⟨k + 1, t / 256, by omega, by go_num, by go_num, by show _ = _; rw [HT.out, Nat.pow_succ, Nat.div_div_eq_div_mul], xs.set (k) xb, ?_, laid_step (lit := true) HS.out.2.1 hlt HXT.out, HS.out.2.2.setCell (Nat.le_refl _) _⟩
          have := own_store HS.out.1 (k) xb
          rw [List.length_set]; exact this
        case measure => simp [intOf]; omega
    · obtain rfl : k = m := by omega
      have hxe := laid_all HS.out.2.1
      go_wp2
      go_ret
      refine ⟨_, rfl, ?_, HS.out.2.2⟩
      rw [← hxe]
      have := HS.out.1
      rw [HL.out] at this
      exact this
end Go.Proofs.Ytnckmaieghlpmaa
