/-
  The walk of horologeref07.Get.
-/
import Derived.Test.YtnckmaieghlpmaaGet
namespace Go.Proofs.Ytnckmaieghlpmaa
open Go.RowKit
set_option linter.unusedVariables false

def RGetYes (w : World) (k : Nat) (e : Ending) (w' : World) : Prop := e = .returned (.tuple #[.int .u64 k, .bool true]) ∧ w = w'
def RGetNo (w : World) (e : Ending) (w' : World) : Prop := e = .returned (.tuple #[.int .u64 0, .bool false]) ∧ w = w'

theorem rget_step (s x wo k : Nat) (hs : s < 256 ^ k) (hk : k < 8) (hx : x < 256) (hw : wo = 256 ^ k) :
    IntKind.u64.wrap ((s : Int) + IntKind.u64.wrap ((x : Int) * (wo : Int))) = ((s + x * 256 ^ k : Nat) : Int) := by
  subst hw
  have h1 : 256 ^ (k + 1) ≤ 256 ^ 8 := Nat.pow_le_pow_right (by decide) (by omega)
  have h2 : x * 256 ^ k + 256 ^ k ≤ 256 ^ (k + 1) := by
    rw [Nat.pow_succ, ← Nat.succ_mul, Nat.mul_comm]; exact Nat.mul_le_mul_left _ hx
  have h3 : ((x : Int) * ((256 ^ k : Nat) : Int)) = ((x * 256 ^ k : Nat) : Int) := by simp
  rw [h3, Go.wraps_u64 ((x * 256 ^ k : Nat) : Int) (by omega) (by omega)]
  rw [show ((s : Int) + ((x * 256 ^ k : Nat) : Int)) = ((s + x * 256 ^ k : Nat) : Int) by omega]
  exact Go.wraps_u64 _ (by omega) (by omega)

theorem worth_step (wo k : Nat) (hk : k < 8) (hw : wo = 256 ^ k) : ∃ wo' : Nat, IntKind.u64.wrap (256 * (wo : Int)) = (wo' : Int) ∧ (k + 1 < 8 → wo' = 256 ^ (k + 1)) := by
  refine ⟨(256 * wo) % 18446744073709551616, by rw [IntKind.wrap_u64]; omega, fun h => ?_⟩
  subst hw
  have h1 : 256 ^ (k + 1) ≤ 256 ^ 7 := Nat.pow_le_pow_right (by decide) (by omega)
  rw [Nat.pow_succ] at h1 ⊢
  rw [Nat.mod_eq_of_lt (by omega), Nat.mul_comm]

theorem drop_last {l : List UInt8} {m k : Nat} {x : UInt8} (hm : l.length = m) (hk : k < m) (hx : l[m - 1 - k]? = some x) : l.drop (m - (k + 1)) = x :: l.drop (m - k) := by
  have h1 : m - (k + 1) < l.length := by omega
  rw [List.drop_eq_getElem_cons h1]
  have h2 : m - (k + 1) + 1 = m - k := by omega
  rw [h2]
  have h3 : m - 1 - k = m - (k + 1) := by omega
  rw [h3, List.getElem?_eq_getElem h1] at hx
  simp only [Option.some.injEq] at hx
  rw [hx]

set_option maxHeartbeats 800000 in
theorem rget_big (w : World) (v : Value) (bs : List UInt8) (n m : Nat) (hb : Bs w v bs) (h : n + m ≤ bs.length) (hm : m ≤ 8) :
    Calls Try.prog 27 #[v, .bool false, .int .i64 n, .int .i64 m] w (RGetYes w (be ((bs.drop n).take m))) := by
  have hlen : ((bs.drop n).take m).length = m := by simp; omega
  obtain ⟨a, c, rfl, hl1, hl2, hat⟩ := hb
  have HAT := Lib.hid hat
  clear hat
  unfold maxLen at hl2
  obtain ⟨seg, hseg⟩ : ∃ seg, seg = (bs.drop n).take m := ⟨_, rfl⟩
  rw [← hseg] at hlen ⊢
  have HSEG := Lib.hid hseg
  have HLEN := Lib.hid hlen
  clear hseg hlen
  have hbd : be seg < 18446744073709551616 := by
    have h1 := be_lt seg
    have h2 : 256 ^ seg.length ≤ 256 ^ 8 := pow256_le (by rw [HLEN.out]; exact hm)
    omega
  have hsub : (m : Int) ≤ (bs.length : Int) - (n : Int) := by omega
  go_enter Try.func27, Try.ntmps27
  go_wp2
  go_loop [10, 11, 12] (fun q wo i => ∃ k s t : Nat, k ≤ m ∧ i = .int .i64 k ∧ q = .int .u64 s ∧ wo = .int .u64 t ∧ Hid (s = be (seg.drop (m - k)) ∧ (k < 8 → t = 256 ^ k))) (fun _ _ i => m - (intOf i).toNat)
  case atStart => exact ⟨0, 0, 1, Nat.zero_le _, rfl, rfl, rfl, by rw [Nat.sub_zero, List.drop_eq_nil_of_le (by rw [HLEN.out]; exact Nat.le_refl _)]; rfl, fun _ => rfl⟩
  case round =>
    obtain ⟨k, s, t, hk, rfl, rfl, rfl, HS⟩ := hrel
    by_cases hlt : k < m
    · obtain ⟨b2, o2, rfl, hc2⟩ : ∃ b o, a = some ⟨b, o, none⟩ ∧ ∀ i x, bs[i]? = some x → w.cell? ⟨b, o + i, none⟩ = some (.int .u8 (x.toNat : Int)) := by
        rcases HAT.out with h' | h'
        · simp [h'] at h; omega
        · exact h'
      obtain ⟨x, hx⟩ : ∃ x, bs[n + m - 1 - k]? = some x := ⟨bs[n + m - 1 - k]'(by omega), by rw [List.getElem?_eq_getElem]⟩
      have hcx := hc2 _ x hx
      have hxs : seg[m - 1 - k]? = some x := by
        rw [HSEG.out, List.getElem?_take, if_pos (by omega), List.getElem?_drop, show n + (m - 1 - k) = n + m - 1 - k by omega]; exact hx
      have hdl := drop_last HLEN.out hlt hxs
      have hsk : s < 256 ^ k := by
        have h1 := be_lt (seg.drop (m - k))
        rw [List.length_drop, HLEN.out, show m - (m - k) = k by omega] at h1
        rw [HS.out.1]; exact h1
      have hstep : be (seg.drop (m - (k + 1))) = s + x.toNat * 256 ^ k := by
        rw [hdl, be_cons, HS.out.1, List.length_drop, HLEN.out, show m - (m - k) = k by omega]; omega
      have hxb : x.toNat < 256 := x.toNat_lt
      have HST := Lib.hid hstep
      have HSK := Lib.hid hsk
      clear hc2 hstep hsk hxs hdl hx
      obtain ⟨xn, hxn⟩ : ∃ xn, xn = x.toNat := ⟨_, rfl⟩
      rw [← hxn] at HST hcx hxb
      clear hxn
      have hidx : n + m - 1 - k < bs.length := by omega
      go_wp2
      go_round
      case rel =>
        obtain ⟨t', ht', hw'⟩ := worth_step t k (by omega) (HS.out.2 (by omega))
        exact ⟨k + 1, s + xn * 256 ^ k, t', by omega, by go_num, by rw [rget_step s xn t k HSK.out (by omega) hxb (HS.out.2 (by omega))], by rw [ht'], HST.out.symm, hw'⟩
      case measure => simp [intOf]; omega
    · obtain rfl : k = m := by omega
      go_wp2
      go_ret2
      exact ⟨ret2_u64 (by rw [HS.out.1]; simp), rfl⟩
set_option maxHeartbeats 800000 in
theorem rget_little (w : World) (v : Value) (bs : List UInt8) (n m : Nat) (hb : Bs w v bs) (h : n + m ≤ bs.length) (hm : m ≤ 8) :
    Calls Try.prog 27 #[v, .bool true, .int .i64 n, .int .i64 m] w (RGetYes w (le ((bs.drop n).take m))) := by
  have hlen : ((bs.drop n).take m).length = m := by simp; omega
  obtain ⟨a, c, rfl, hl1, hl2, hat⟩ := hb
  have HAT := Lib.hid hat
  clear hat
  unfold maxLen at hl2
  obtain ⟨seg, hseg⟩ : ∃ seg, seg = (bs.drop n).take m := ⟨_, rfl⟩
  rw [← hseg] at hlen ⊢
  have HSEG := Lib.hid hseg
  have HLEN := Lib.hid hlen
  clear hseg hlen
  have hbd : le seg < 18446744073709551616 := by
    have h1 := le_lt seg
    have h2 : 256 ^ seg.length ≤ 256 ^ 8 := pow256_le (by rw [HLEN.out]; exact hm)
    omega
  have hsub : (m : Int) ≤ (bs.length : Int) - (n : Int) := by omega
  go_enter Try.func27, Try.ntmps27
  go_wp2
  go_loop [10, 11, 12] (fun q wo i => ∃ k s t : Nat, k ≤ m ∧ i = .int .i64 k ∧ q = .int .u64 s ∧ wo = .int .u64 t ∧ Hid (s = le (seg.take k) ∧ (k < 8 → t = 256 ^ k))) (fun _ _ i => m - (intOf i).toNat)
  case atStart => exact ⟨0, 0, 1, Nat.zero_le _, rfl, rfl, rfl, rfl, fun _ => rfl⟩
  case round =>
    obtain ⟨k, s, t, hk, rfl, rfl, rfl, HS⟩ := hrel
    by_cases hlt : k < m
    · obtain ⟨b2, o2, rfl, hc2⟩ : ∃ b o, a = some ⟨b, o, none⟩ ∧ ∀ i x, bs[i]? = some x → w.cell? ⟨b, o + i, none⟩ = some (.int .u8 (x.toNat : Int)) := by
        rcases HAT.out with h' | h'
        · simp [h'] at h; omega
        · exact h'
      obtain ⟨x, hx⟩ : ∃ x, bs[n + k]? = some x := ⟨bs[n + k]'(by omega), by rw [List.getElem?_eq_getElem]⟩
      have hcx := hc2 _ x hx
      have hxs : seg[k]? = some x := by
        rw [HSEG.out, List.getElem?_take, if_pos (by omega), List.getElem?_drop]; exact hx
      have hdl := take_snoc' hxs
      have hkl : (seg.take k).length = k := by rw [List.length_take, HLEN.out]; omega
      have hsk : s < 256 ^ k := by
        have h1 := le_lt (seg.take k)
        rw [hkl] at h1
        rw [HS.out.1]; exact h1
      have hstep : le (seg.take (k + 1)) = s + x.toNat * 256 ^ k := by
        rw [hdl, le_snoc, HS.out.1, hkl]
      clear hkl
      have hxb : x.toNat < 256 := x.toNat_lt
      have HST := Lib.hid hstep
      have HSK := Lib.hid hsk
      clear hc2 hstep hsk hxs hdl hx
      obtain ⟨xn, hxn⟩ : ∃ xn, xn = x.toNat := ⟨_, rfl⟩
      rw [← hxn] at HST hcx hxb
      clear hxn
      have hidx : n + k < bs.length := by omega
      go_wp2
      go_round
      case rel =>
        obtain ⟨t', ht', hw'⟩ := worth_step t k (by omega) (HS.out.2 (by omega))
        exact ⟨k + 1, s + xn * 256 ^ k, t', by omega, by go_num, by rw [rget_step s xn t k HSK.out (by omega) hxb (HS.out.2 (by omega))], by rw [ht'], HST.out.symm, hw'⟩
      case measure => simp [intOf]; omega
    · obtain rfl : k = m := by omega
      go_wp2
      go_ret2
      exact ⟨ret2_u64 (by rw [HS.out.1, List.take_of_length_le (by rw [HLEN.out]; exact Nat.le_refl _)]), rfl⟩

theorem rget_yes (w : World) (v : Value) (bs : List UInt8) (lit : Bool) (n m : Nat) (hb : Bs w v bs) (h : n + m ≤ bs.length) (hm : m ≤ 8) :
    Calls Try.prog 27 #[v, .bool lit, .int .i64 n, .int .i64 m] w (RGetYes w (num lit ((bs.drop n).take m))) := by
  cases lit
  · exact rget_big w v bs n m hb h hm
  · exact rget_little w v bs n m hb h hm

set_option maxHeartbeats 400000 in
theorem rget_no (w : World) (v : Value) (bs : List UInt8) (lit : Bool) (n m : Int) (hb : Bs w v bs) (h : ¬ (0 ≤ n ∧ 0 ≤ m ∧ m ≤ 8 ∧ n + m ≤ bs.length)) :
    Calls Try.prog 27 #[v, .bool lit, .int .i64 n, .int .i64 m] w (RGetNo w) := by
  obtain ⟨a, c, rfl, hl1, hl2, hat⟩ := hb
  clear hat
  unfold maxLen at hl2
  by_cases h1 : m < 0
  · go_enter Try.func27, Try.ntmps27
    go_wp2
    go_ret2
    exact ⟨rfl, rfl⟩
  · by_cases h2 : 8 < m
    · go_enter Try.func27, Try.ntmps27
      go_wp2
      go_ret2
      exact ⟨rfl, rfl⟩
    · by_cases h3 : n < 0
      · go_enter Try.func27, Try.ntmps27
        go_wp2
        go_ret2
        exact ⟨rfl, rfl⟩
      · by_cases h4 : (bs.length : Int) < n
        · go_enter Try.func27, Try.ntmps27
          go_wp2
          go_ret2
          exact ⟨rfl, rfl⟩
        · have h5 : (bs.length : Int) - n < m := by omega
          go_enter Try.func27, Try.ntmps27
          go_wp2
          go_ret2
          exact ⟨rfl, rfl⟩
end Go.Proofs.Ytnckmaieghlpmaa
