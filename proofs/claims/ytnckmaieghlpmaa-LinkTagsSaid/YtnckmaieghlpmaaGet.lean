/-
  The walk of Row.Get.
-/
import Derived.Test.YtnckmaieghlpmaaCut
import Derived.Test.YtnckmaieghlpmaaNum
import Derived.Test.YtnckmaieghlpmaaSum
namespace Go.Proofs.Ytnckmaieghlpmaa
open Go.RowKit
set_option linter.unusedVariables false

theorem ret2_u64 {a b : Int} {c : Bool} (h : a = b) : Ending.returned (.tuple #[.int .u64 a, .bool c]) = .returned (.tuple #[.int .u64 b, .bool c]) := by rw [h]

/-- what Get returns -/
def GetYes (w : World) (k : Nat) (e : Ending) (w' : World) : Prop := e = .returned (.tuple #[.int .u64 k, .bool true]) ∧ Below w.heap.size w w'
def GetNo (w : World) (e : Ending) (w' : World) : Prop := e = .returned (.tuple #[.int .u64 0, .bool false]) ∧ Below w.heap.size w w'

theorem bcell {W w1 : World} (hb : Below W.heap.size W w1) : (∀ b o, b < W.heap.size → w1.cell? ⟨b, o, none⟩ = W.cell? ⟨b, o, none⟩) ∧ (∀ b o, b < W.heap.size → w1.frozen? ⟨b, o, none⟩ = W.frozen? ⟨b, o, none⟩) :=
  ⟨fun b o h => hb.cell (p := ⟨b, o, none⟩) h, fun b o h => hb.frozen (p := ⟨b, o, none⟩) h⟩

set_option maxHeartbeats 800000 in
theorem get_big (w : World) (v : Value) (bs : List UInt8) (n m : Nat) (hb : Bs w v bs) (h : n + m ≤ bs.length) (hm : m ≤ 8) :
    Calls Try.prog 26 #[.agg #[v, .bool false], .int .i64 n, .int .i64 m] w (GetYes w (be ((bs.drop n).take m))) := by
  have hlen : ((bs.drop n).take m).length = m := by simp; omega
  obtain ⟨seg, hseg⟩ : ∃ seg, seg = (bs.drop n).take m := ⟨_, rfl⟩
  rw [← hseg] at hlen ⊢
  obtain rfl : m = seg.length := hlen.symm
  have HSEG := Lib.hid hseg
  clear hseg hlen
  have HB := Lib.hid hb
  clear hb
  have hbd : be seg < 18446744073709551616 := by
    have h1 := be_lt seg
    have h2 : 256 ^ seg.length ≤ 256 ^ 8 := pow256_le hm
    omega
  go_enter Try.func26, Try.ntmps26
  go_wp2_with (go_at_call 28; refine (cut_yes _ v bs false n seg.length (HB.out.alloc _) h).mono ?_; rintro e w1 ⟨v1, rfl, hv1, hb1⟩; have hcl := (cell_behind hb1 1).trans (World.cell?_alloc_new ..); have HBE := Lib.hid (below_past hb1); rw [← HSEG.out] at hv1; obtain ⟨a1, rfl, hl1, hl2, hat⟩ := hv1; have HAT := Lib.hid hat; clear hat hb1)
  go_loop [10, 28] (fun q i => ∃ k s : Nat, k ≤ seg.length ∧ i = .int .i64 k ∧ q = .int .u64 s ∧ Hid (s = be (seg.take k))) (fun _ i => seg.length - (intOf i).toNat)
  case atStart => exact ⟨0, 0, Nat.zero_le _, rfl, rfl, rfl⟩
  case round =>
    obtain ⟨k, s, hk, rfl, rfl, HS⟩ := hrel
    by_cases hlt : k < seg.length
    · obtain ⟨b2, o2, rfl, hc2⟩ : ∃ b o, a1 = some ⟨b, o, none⟩ ∧ ∀ i x, seg[i]? = some x → w1.cell? ⟨b, o + i, none⟩ = some (.int .u8 (x.toNat : Int)) := by
        rcases HAT.out with h | h
        · simp [h] at hlt
        · exact h
      obtain ⟨x, hx⟩ : ∃ x, seg[k]? = some x := ⟨seg[k], by simp [hlt]⟩
      have hcx := hc2 k x hx
      have hsb : s < 72057594037927936 := by
        have h1 := be_lt (seg.take k)
        have h2 : 256 ^ (seg.take k).length ≤ 256 ^ 7 := pow256_le (by simp; omega)
        rw [HS.out]; omega
      have hstep : be (seg.take (k + 1)) = s * 256 + x.toNat := by rw [take_snoc' hx, be_snoc, HS.out]
      have HST := Lib.hid hstep
      clear hc2 hstep
      have hxb : x.toNat < 256 := x.toNat_lt
      obtain ⟨xn, hxn⟩ : ∃ xn, xn = x.toNat := ⟨_, rfl⟩
      rw [← hxn] at HST hcx hxb
      clear hxn hx
      have hor : bits BinOp.or IntKind.u64 ((s : Int) * 256) (xn : Int) = ((s * 256 + xn : Nat) : Int) := by
        have := or64_add 8 (s * 256) xn (by omega) (by omega) (by omega)
        simpa using this
      have HOR := Lib.hid hor
      clear hor
      go_wp2
      go_round
      case rel => exact ⟨k + 1, s * 256 + xn, by omega, by go_num, by rw [HOR.out], HST.out.symm⟩
      case measure => simp [intOf]; omega
    · obtain rfl : k = seg.length := by omega
      rw [List.take_length] at HS
      go_wp2
      go_ret2
      exact ⟨ret2_u64 (by rw [HS.out]), HBE.out⟩
set_option maxHeartbeats 800000 in
theorem get_little (w : World) (v : Value) (bs : List UInt8) (n m : Nat) (hb : Bs w v bs) (h : n + m ≤ bs.length) (hm : m ≤ 8) :
    Calls Try.prog 26 #[.agg #[v, .bool true], .int .i64 n, .int .i64 m] w (GetYes w (le ((bs.drop n).take m))) := by
  have hlen : ((bs.drop n).take m).length = m := by simp; omega
  obtain ⟨seg, hseg⟩ : ∃ seg, seg = (bs.drop n).take m := ⟨_, rfl⟩
  rw [← hseg] at hlen ⊢
  obtain rfl : m = seg.length := hlen.symm
  have HSEG := Lib.hid hseg
  clear hseg hlen
  have HB := Lib.hid hb
  clear hb
  have hbd : le seg < 18446744073709551616 := by
    have h1 := le_lt seg
    have h2 : 256 ^ seg.length ≤ 256 ^ 8 := pow256_le hm
    omega
  go_enter Try.func26, Try.ntmps26
  go_wp2_with (go_at_call 28; refine (cut_yes _ v bs true n seg.length (HB.out.alloc _) h).mono ?_; rintro e w1 ⟨v1, rfl, hv1, hb1⟩; have hcl := (cell_behind hb1 1).trans (World.cell?_alloc_new ..); have HBE := Lib.hid (below_past hb1); rw [← HSEG.out] at hv1; obtain ⟨a1, rfl, hl1, hl2, hat⟩ := hv1; have HAT := Lib.hid hat; clear hat hb1)
  go_loop [10, 28] (fun q i => ∃ k s : Nat, k ≤ seg.length ∧ i = .int .i64 k ∧ q = .int .u64 s ∧ Hid (s = le (seg.take k))) (fun _ i => seg.length - (intOf i).toNat)
  case atStart => exact ⟨0, 0, Nat.zero_le _, rfl, rfl, rfl⟩
  case round =>
    obtain ⟨k, s, hk, rfl, rfl, HS⟩ := hrel
    by_cases hlt : k < seg.length
    · obtain ⟨b2, o2, rfl, hc2⟩ : ∃ b o, a1 = some ⟨b, o, none⟩ ∧ ∀ i x, seg[i]? = some x → w1.cell? ⟨b, o + i, none⟩ = some (.int .u8 (x.toNat : Int)) := by
        rcases HAT.out with h | h
        · simp [h] at hlt
        · exact h
      obtain ⟨x, hx⟩ : ∃ x, seg[k]? = some x := ⟨seg[k], by simp [hlt]⟩
      have hcx := hc2 k x hx
      have hsk : s < 256 ^ k := by
        have h1 := le_lt (seg.take k)
        rw [List.length_take, Nat.min_eq_left hk] at h1
        rw [HS.out]; exact h1
      have hstep : le (seg.take (k + 1)) = s + x.toNat * 256 ^ k := by rw [take_snoc' hx, le_snoc, HS.out, List.length_take, Nat.min_eq_left hk]
      have HST := Lib.hid hstep
      clear hc2 hstep
      have hxb : x.toNat < 256 := x.toNat_lt
      obtain ⟨xn, hxn⟩ : ∃ xn, xn = x.toNat := ⟨_, rfl⟩
      rw [← hxn] at HST hcx hxb
      clear hxn hx
      have HSK := Lib.hid hsk
      clear hsk
      go_wp2
      go_round
      case rel => exact ⟨k + 1, s + xn * 256 ^ k, by omega, by go_num, by rw [or64_little s xn k HSK.out (by omega) hxb], HST.out.symm⟩
      case measure => simp [intOf]; omega
    · obtain rfl : k = seg.length := by omega
      rw [List.take_length] at HS
      go_wp2
      go_ret2
      exact ⟨ret2_u64 (by rw [HS.out]), HBE.out⟩
/-- Get, of either end, where the bytes are there -/
theorem get_yes (w : World) (v : Value) (bs : List UInt8) (lit : Bool) (n m : Nat) (hb : Bs w v bs) (h : n + m ≤ bs.length) (hm : m ≤ 8) :
    Calls Try.prog 26 #[.agg #[v, .bool lit], .int .i64 n, .int .i64 m] w (GetYes w (num lit ((bs.drop n).take m))) := by
  cases lit
  · exact get_big w v bs n m hb h hm
  · exact get_little w v bs n m hb h hm

set_option maxHeartbeats 400000 in
/-- Get, where there is no such number -/
theorem get_no (w : World) (v : Value) (bs : List UInt8) (lit : Bool) (n m : Int) (hb : Bs w v bs) (h : ¬ (0 ≤ n ∧ 0 ≤ m ∧ m ≤ 8 ∧ n + m ≤ bs.length)) :
    Calls Try.prog 26 #[.agg #[v, .bool lit], .int .i64 n, .int .i64 m] w (GetNo w) := by
  by_cases h1 : 0 ≤ n ∧ 0 ≤ m ∧ n + m ≤ bs.length
  · obtain ⟨n, rfl⟩ := Int.eq_ofNat_of_zero_le h1.1
    obtain ⟨m, rfl⟩ := Int.eq_ofNat_of_zero_le h1.2.1
    have h2 : n + m ≤ bs.length := by omega
    have h3 : 8 < m := by omega
    clear h h1
    have HB := Lib.hid hb
    clear hb
    have hlen : ((bs.drop n).take m).length = m := by simp; omega
    have HL := Lib.hid hlen
    clear hlen
    go_enter Try.func26, Try.ntmps26
    go_wp2_with (go_at_call 28; refine (cut_yes _ v bs lit n m (HB.out.alloc _) h2).mono ?_; rintro e w1 ⟨v1, rfl, hv1, hb1⟩; have HBE := Lib.hid (below_past hb1); obtain ⟨a1, rfl, hl1, hl2, hat⟩ := hv1; clear hat hb1 hl1 hl2)
    go_ret2
    exact ⟨rfl, HBE.out⟩
  · have HB := Lib.hid hb
    have HH := Lib.hid h1
    clear hb h h1
    go_enter Try.func26, Try.ntmps26
    go_wp2_with (go_at_call 28; refine (cut_no _ v bs lit n m (HB.out.alloc _) HH.out).mono ?_; rintro e w1 ⟨rfl, hb1⟩; have HBE := Lib.hid (below_past hb1); clear hb1)
    go_ret2
    exact ⟨rfl, HBE.out⟩
end Go.Proofs.Ytnckmaieghlpmaa
