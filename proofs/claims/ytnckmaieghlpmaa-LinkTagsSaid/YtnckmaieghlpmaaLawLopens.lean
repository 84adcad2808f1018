/-
  The walk of horologelaw14.LinkOpens.
-/
import Derived.Test.YtnckmaieghlpmaaKnown14
import Derived.Test.YtnckmaieghlpmaaLkRopen
namespace Go.Proofs.Ytnckmaieghlpmaa
open Go.RowKit
set_option linter.unusedVariables false

theorem lkTyped_small (bs : List UInt8) (p : Nat) : (lkTyped bs p).1 ≤ 6 ∧ (lkTyped bs p).2.2 ≤ 3 := by
  unfold lkTyped; split
  · simp
  · split <;> simp
theorem lkRun_small (t : Nat) : ∀ (bs : List UInt8) (p : Nat), (lkRun t bs p).1 ≤ 6 ∧ (lkRun t bs p).2.2 ≤ 3 := by
  induction t with
  | zero => intro bs p; rw [lkRun]; split; simp; exact lkTyped_small bs p
  | succ t ih =>
    intro bs p; rw [lkRun]; split
    · simp
    · split
      · exact ih bs (p + 4)
      · exact lkTyped_small bs p
theorem lkOpen_small (l : Nat) (bs : List UInt8) : (lkOpen l bs).1 ≤ 6 ∧ (lkOpen l bs).2.2 ≤ 3 := by
  unfold lkOpen
  split
  · cases bs with
    | nil => simp [lkRaw]
    | cons x r =>
      simp only [lkRaw]
      split
      · rename_i h; simp; omega
      · simp
  · split
    · exact lkRun_small _ _ _
    · split
      · exact lkRun_small _ _ _
      · simp

set_option maxHeartbeats 1000000 in
theorem law_lopens (w : World) (l : Nat) (v : Value) (bs : List UInt8) (hb : Bs w v bs) :
    Calls Try.prog 12 #[.int .u16 l, v] w fun e w' => e = .returned (.bool true) ∧ Below w.heap.size w w' := by
  have HB := Lib.hid hb
  obtain ⟨a, c, rfl, hl1, hl2, hat⟩ := hb
  clear hat
  unfold maxLen at hl2
  by_cases h : (300 : Int) < (bs.length : Int)
  · go_enter Try.func12, Try.ntmps12
    go_wp2_with fail
    refine (known14 _).mono ?_; rintro e w1 ⟨rfl, hb1⟩
    have HL1 := Lib.hid hb1
    clear hb1
    go_wp2_with fail
    go_ret
    exact ⟨rfl, HL1.out⟩
  · obtain ⟨R, hR⟩ : ∃ R, R = lkOpen l bs := ⟨_, rfl⟩
    have hs := lkOpen_small l bs
    rw [← hR] at hs
    obtain ⟨k, xs, d⟩ := R
    obtain ⟨hk, hd⟩ := hs
    simp only at hk hd
    have HO := Lib.hid (fun W hW => lopen_any W l (.slice a bs.length c) bs hW)
    have HRO := Lib.hid (fun W hW => rlopen_any W l (.slice a bs.length c) bs hW)
    rw [← hR] at HO HRO
    have hd2 : IntKind.i64.wrap (d : Int) = (d : Int) := IntWalk.i64_in _ (by omega)
    clear hR
    go_enter Try.func12, Try.ntmps12
    go_wp2_with fail
    refine (known14 _).mono ?_; rintro e w1 ⟨rfl, hb1⟩
    have HB1 : Hid (Bs w1 (.slice a bs.length c) bs) := Lib.hid (HB.out.below hb1)
    have HL1 := Lib.hid hb1
    clear hb1
    go_wp2_with fail
    refine (HO.out _ HB1.out).mono ?_
    rintro e w2 ⟨a2, rfl, hb2, bel2⟩
    have HB2 : Hid (Bs w2 (.slice a bs.length c) bs) := Lib.hid (HB1.out.below bel2)
    have HX2 := Lib.hid hb2
    have HL2 : Hid (Below w.heap.size w w2) := Lib.hid (HL1.out.trans (bel2.mono HL1.out.size))
    clear hb2 bel2
    go_wp2_with fail
    refine (HRO.out _ HB2.out).mono ?_
    rintro e w3 ⟨a3, c3, rfl, hb3, bel3⟩
    have HL3 : Hid (Below w.heap.size w w3) := Lib.hid (HL2.out.trans (bel3.mono HL2.out.size))
    obtain ⟨S, hS⟩ : ∃ S, S = mkS xs := ⟨_, rfl⟩
    have hk1 : (convert 24 9 (.slice a2 xs.length xs.length)).run Try.prog w3 = .ok (.string S) w3 := hS ▸ conv_bs (HX2.out.below bel3)
    have hk2 : (convert 24 9 (.slice a3 xs.length c3)).run Try.prog w3 = .ok (.string S) w3 := hS ▸ conv_bs hb3
    clear hb3 bel3 hS HO HRO
    go_wp2_with fail
    go_ret
    exact ⟨rfl, HL3.out⟩
theorem u16_nat {l : Int} (F : (Lit.int .u16 l).wf = true) : ∃ n : Nat, l = (n : Int) ∧ n < 65536 := by
  have hx : 0 ≤ l ∧ l ≤ 65535 := by simpa [Lit.wf, IntKind.min, IntKind.max, IntKind.signed, IntKind.bits] using F
  obtain ⟨n, rfl⟩ := Int.eq_ofNat_of_zero_le hx.1
  exact ⟨n, rfl, by omega⟩
theorem law_lopens' (w : World) (l : Int) (v : Value) (F : (Lit.int .u16 l).wf = true) (hb : ∃ bs, Bs w v bs) :
    Calls Try.prog 12 #[.int .u16 l, v] w fun e w' => e = .returned (.bool true) ∧ Below w.heap.size w w' := by
  obtain ⟨n, rfl, _⟩ := u16_nat F
  obtain ⟨bs, hb⟩ := hb
  exact law_lopens w n v bs hb
end Go.Proofs.Ytnckmaieghlpmaa
