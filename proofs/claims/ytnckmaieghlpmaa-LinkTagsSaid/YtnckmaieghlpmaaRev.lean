/-
  The walks of slices.Clone and slices.Reverse at bytes.
-/
import Derived.Test.YtnckmaieghlpmaaRput
import Derived.BigRegion
namespace Go.Proofs.Ytnckmaieghlpmaa
open Go.RowKit
set_option linter.unusedVariables false

set_option maxHeartbeats 1000000 in
theorem clone_any (w : World) (v : Value) (bs : List UInt8) (hb : Bs w v bs) (hl : bs.length ≤ 4294967296) :
    Calls Try.prog 35 #[v] w (OwnRet w bs) := by
  have HB := Lib.hid hb
  obtain ⟨a, c, rfl, hl1, hl2, hat⟩ := hb
  have HAT := Lib.hid hat
  clear hat
  unfold maxLen at hl2
  cases a with
  | none =>
    have hb0 : bs = [] := by
      rcases HAT.out with h | ⟨b, o, e, _⟩
      · exact h
      · cases e
    subst hb0
    have hnil := Lib.run_eql_slice_nil (P := Try.prog) w 24 5 none 0 c 0 0 Try.underlying24
    go_enter Try.func35, Try.ntmps35
    go_wp2
    go_ret
    exact ⟨_, rfl, own_nil _ _, Below.refl _ _⟩
  | some ad =>
    have hnil := Lib.run_eql_slice_nil (P := Try.prog) w 24 5 (some ad) bs.length c 0 0 Try.underlying24
    go_enter Try.func35, Try.ntmps35
    go_wp2_with (at_builtin; refine wpList_app rfl _ _ rfl w.heap.size _ [] rfl (own_lit _ [] _ _ rfl (Nat.le_refl _) (Nat.zero_le _)) _ bs rfl (HB.out.alloc _) (by simp; omega) (by simp) ?_; intro a1 c1 w1 hown1 hbel1 hc1)
    go_ret
    exact ⟨_, rfl, by simpa using hown1, (below_alloc _ _).trans (hbel1.mono (by simp))⟩

/-- the first k pairs are turned about -/
def Turned (xs : List UInt8) (k : Nat) (ys : List UInt8) : Prop :=
  ys.length = xs.length ∧ ∀ p, p < xs.length → ys[p]? = if p < k ∨ xs.length - 1 - k < p then xs[xs.length - 1 - p]? else xs[p]?

theorem turned_start (xs : List UInt8) : Turned xs 0 xs := ⟨rfl, fun p hp => by rw [if_neg (by omega)]⟩
theorem turned_step {xs ys : List UInt8} {k : Nat} {a b : UInt8} (h : Turned xs k ys) (hk : k < xs.length - 1 - k) (ha : ys[k]? = some a) (hb : ys[xs.length - 1 - k]? = some b) :
    Turned xs (k + 1) ((ys.set k b).set (xs.length - 1 - k) a) := by
  refine ⟨by simp [h.1], fun p hp => ?_⟩
  have ha' := h.2 k (by omega)
  rw [if_neg (by omega), ha] at ha'
  have hb' := h.2 (xs.length - 1 - k) (by omega)
  rw [if_neg (by omega), hb] at hb'
  by_cases h1 : p = xs.length - 1 - k
  · rw [h1, List.getElem?_set_self (by simp [h.1]; omega), if_pos (by omega), show xs.length - 1 - (xs.length - 1 - k) = k by omega]
    exact ha'
  · rw [List.getElem?_set_ne (by omega)]
    by_cases h2 : p = k
    · rw [h2, List.getElem?_set_self (by rw [h.1]; omega), if_pos (by omega)]
      exact hb'
    · rw [List.getElem?_set_ne (by omega), h.2 p hp]
      by_cases h3 : p < k ∨ xs.length - 1 - k < p
      · rw [if_pos h3, if_pos (by omega)]
      · rw [if_neg h3, if_neg (by omega)]
theorem turned_end {xs ys : List UInt8} {k : Nat} (h : Turned xs k ys) (hk : xs.length - 1 - k ≤ k) : ys = xs.reverse := by
  apply List.ext_getElem?
  intro p
  by_cases hp : p < xs.length
  · rw [h.2 p hp, List.getElem?_reverse hp]
    by_cases h3 : p < k ∨ xs.length - 1 - k < p
    · rw [if_pos h3]
    · rw [if_neg h3, show xs.length - 1 - p = p by omega]
  · rw [List.getElem?_eq_none (by rw [h.1]; omega), List.getElem?_eq_none (by simp; omega)]

theorem own_store' {w : World} {base g cap : Nat} {bs : List UInt8} (h : Own w base (.slice (some ⟨g, 0, none⟩) bs.length cap) bs) (j : Nat) (x : UInt8) :
    Own (w.setCell ⟨g, j, none⟩ (byteV x)) base (.slice (some ⟨g, 0, none⟩) (bs.set j x).length cap) (bs.set j x) := by
  rw [List.length_set]; exact own_store h j x

/-- what Reverse does to a slice of the call's own -/
def RevRet (w : World) (base : Nat) (v : Value) (bs : List UInt8) (e : Ending) (w' : World) : Prop :=
  e = .returned (.tuple #[]) ∧ Own w' base v bs.reverse ∧ Below base w w'

set_option maxHeartbeats 2000000 in
theorem reverse_any (w : World) (base : Nat) (v : Value) (bs : List UInt8) (hb : Own w base v bs) (hl : bs.length ≤ 4294967296) :
    Calls Try.prog 36 #[v] w (RevRet w base v bs) := by
  by_cases h0 : bs.length ≤ 1
  · have hr : bs.reverse = bs := by
      match bs, h0 with
      | [], _ => rfl
      | [x], _ => rfl
    have HO : Hid (Own w base v bs.reverse) := by rw [hr]; exact hb
    obtain ⟨a, c, rfl, hl1, hl2⟩ := hb.slice
    clear hb hr
    go_enter Try.func36, Try.ntmps36
    go_wp2
    refine wp_loop_rounds 1 ?_
    rw [rounds_succ]
    go_wp2
    go_end0
    exact ⟨rfl, HO.out, Below.refl _ _⟩
  · obtain ⟨g, cap, rfl, hge, hlt, hc1, hc2⟩ : ∃ g cap, v = .slice (some ⟨g, 0, none⟩) bs.length cap ∧ base ≤ g ∧ g < w.heap.size ∧ bs.length ≤ cap ∧ cap ≤ maxLen := by
      rcases hb.shape with ⟨_, h⟩ | h
      · simp [h] at h0
      · exact h
    unfold maxLen at hc2
    have HO := Lib.hid hb
    clear hb
    obtain ⟨n, hn⟩ : ∃ n, n = bs.length := ⟨_, rfl⟩
    rw [← hn] at h0 hc1 hl ⊢
    have HN := Lib.hid hn
    clear hn
    go_enter Try.func36, Try.ntmps36
    go_wp2
    go_loopw [2, 3] (fun i j wr => ∃ k : Nat, i = .int .i64 k ∧ j = .int .i64 ((n : Int) - 1 - k) ∧ k < n ∧ Hid (∃ ys, Own wr base (.slice (some ⟨g, 0, none⟩) ys.length cap) ys ∧ Turned bs k ys ∧ Below base w wr)) (fun i _ _ => n - (intOf i).toNat)
    case atStart => exact ⟨0, rfl, by go_num, by omega, bs, by have := HO.out; exact this, turned_start bs, Below.refl _ _⟩
    case round =>
      obtain ⟨k, rfl, rfl, hk, HX⟩ := hrel
      obtain ⟨ys, hys⟩ := HX.out
      have HS := Lib.hid hys
      have hyl : ys.length = n := by rw [HN.out]; exact hys.2.1.1
      have HL := Lib.hid hyl
      clear hys HX hyl
      by_cases hlt2 : k < n - 1 - k
      · obtain ⟨x, hx⟩ : ∃ x, ys[k]? = some x := ⟨ys[k]'(by rw [HL.out]; omega), by rw [List.getElem?_eq_getElem]⟩
        obtain ⟨y, hy⟩ : ∃ y, ys[n - 1 - k]? = some y := ⟨ys[n - 1 - k]'(by rw [HL.out]; omega), by rw [List.getElem?_eq_getElem]⟩
        have hcx := own_cell (j := k) HS.out.1 hx
        have hcy := own_cell (j := n - 1 - k) HS.out.1 hy
        have hf := fun j => own_free HS.out.1 j
        have hf1 := hf k
        have hf2 := hf (n - 1 - k)
        have HXX := Lib.hid hx
        have HYY := Lib.hid hy
        obtain ⟨m, hm⟩ : ∃ m, (n : Int) - 1 - (k : Int) = (m : Nat) ∧ m = n - 1 - k := ⟨n - 1 - k, by omega, rfl⟩
        have hmk : (k : Int) < (m : Int) := by omega
        obtain ⟨hm1, hm2⟩ := hm
        rw [← hm2] at hcy hf2 HYY
        have HM2 := Lib.hid hm2
        have hmn : m < n := by omega
        clear hx hy hf hlt2 hm2
        go_wp2_with fail
        go_region
        go_wp2
        go_roundw
        case rel =>
          refine ⟨k + 1, by go_num, by go_num, by omega, (ys.set k y).set m x, ?_, ?_, ((HS.out.2.2.setCell hge _).setCell hge _).drew⟩
          · have h1 := own_store' (own_store' HS.out.1 k y) m x
            exact h1.drew
          · have h2 := HM2.out
            have h3 := turned_step HS.out.2.1 (by rw [← HN.out]; omega) HXX.out (by rw [← HN.out, ← h2]; exact HYY.out)
            rw [← HN.out, ← h2] at h3
            exact h3
        case measure => simp [intOf]; omega
      · have hge2 : ¬ (k : Int) < (n : Int) - 1 - (k : Int) := by omega
        have hend := turned_end HS.out.2.1 (by rw [← HN.out]; omega)
        go_wp2
        go_end0
        refine ⟨rfl, ?_, HS.out.2.2⟩
        have := HS.out.1
        rw [HL.out] at this
        rw [← hend]; exact this
end Go.Proofs.Ytnckmaieghlpmaa
