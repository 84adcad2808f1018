/-
  The walk of link.Open.
-/
import Derived.Test.YtnckmaieghlpmaaLk
namespace Go.Proofs.Ytnckmaieghlpmaa
open Go.RowKit
set_option linter.unusedVariables false

set_option maxHeartbeats 400000 in
theorem lopen_raw (w : World) (v : Value) (bs : List UInt8) (hb : Bs w v bs) : Calls Try.prog 43 #[.int .u16 101, v] w (LkRet w (lkRaw bs)) := by
  have HC := Lib.hid (raw_any w v bs hb)
  obtain ⟨a, c, rfl, hl1, hl2, hat⟩ := hb
  clear hat
  unfold maxLen at hl2
  generalize lkRaw bs = R at HC ⊢
  go_enter Try.func43, Try.ntmps43
  go_wp2_with fail
  refine HC.out.mono ?_
  rintro e w1 ⟨a1, rfl, hb1, bel1⟩
  have H1 := Lib.hid (And.intro hb1 bel1)
  clear hb1 bel1 HC
  go_wp2_with fail
  exact bodyPost_ret (v := .tuple #[.int .i64 R.1, .slice a1 R.2.1.length R.2.1.length, .int .u8 R.2.2]) (by simp [results, Try.results43]) rfl ⟨a1, rfl, H1.out.1, H1.out.2⟩

set_option maxHeartbeats 400000 in
theorem lopen_other (w : World) (l : Nat) (v : Value) (bs : List UInt8) (hb : Bs w v bs) (h1 : l ≠ 101) (h2 : l ≠ 1) (h3 : l ≠ 113) : Calls Try.prog 43 #[.int .u16 l, v] w (LkRet w (0, [], 1)) := by
  obtain ⟨a, c, rfl, hl1, hl2, hat⟩ := hb
  clear hat
  unfold maxLen at hl2
  have b1 : ((l : Int) == 101) = false := by rw [beq_eq_false_iff_ne]; omega
  have b2 : ((l : Int) == 1) = false := by rw [beq_eq_false_iff_ne]; omega
  have b3 : ((l : Int) == 113) = false := by rw [beq_eq_false_iff_ne]; omega
  clear h1 h2 h3
  go_enter Try.func43, Try.ntmps43
  go_wp2_with fail
  exact bodyPost_ret (v := .tuple #[.int .i64 0, .slice none 0 0, .int .u8 1]) (by simp [results, Try.results43]) rfl (lk_none rfl (Below.refl _ _))

set_option maxHeartbeats 400000 in
theorem lopen_sll (w : World) (v : Value) (bs : List UInt8) (hb : Bs w v bs) : Calls Try.prog 43 #[.int .u16 113, v] w (LkRet w (lkRun 0 bs 14)) := by
  have HB := Lib.hid hb
  obtain ⟨a, c, rfl, hl1, hl2, hat⟩ := hb
  clear hat
  unfold maxLen at hl2
  by_cases h : bs.length < 16
  · have e : lkRun 0 bs 14 = (0, [], 3) := by simp [lkRun, h]
    rw [e]
    have h' : (bs.length : Int) < 16 := by omega
    clear h e
    go_enter Try.func43, Try.ntmps43
    go_wp2_with fail
    refine wp_loop_once ?_
    go_wp2_with fail
    exact bodyPost_ret (v := .tuple #[.int .i64 0, .slice none 0 0, .int .u8 3]) (by simp [results, Try.results43]) rfl (lk_none rfl (Below.refl _ _))
  · have e : lkRun 0 bs 14 = lkTyped bs 14 := by simp [lkRun, h]
    rw [e]
    have HC := Lib.hid (typed_any w (.slice a bs.length c) bs 14 HB.out (by omega))
    generalize lkTyped bs 14 = R at HC ⊢
    have h' : ¬ (bs.length : Int) < 16 := by omega
    clear h e
    go_enter Try.func43, Try.ntmps43
    go_wp2_with fail
    refine wp_loop_once ?_
    go_wp2_with fail
    refine HC.out.mono ?_
    rintro e w1 ⟨a1, rfl, hb1, bel1⟩
    have H1 := Lib.hid (And.intro hb1 bel1)
    clear hb1 bel1 HC
    go_wp2_with fail
    exact bodyPost_ret (v := .tuple #[.int .i64 R.1, .slice a1 R.2.1.length R.2.1.length, .int .u8 R.2.2]) (by simp [results, Try.results43]) rfl ⟨a1, rfl, H1.out.1, H1.out.2⟩

theorem lkRun_short (t : Nat) (bs : List UInt8) (p : Nat) (h : bs.length < p + 2) : lkRun t bs p = (0, [], 3) := by cases t <;> simp [lkRun, h]
theorem lkRun_typed (t : Nat) (bs : List UInt8) (p : Nat) (h : ¬ bs.length < p + 2) (hk : t = 0 ∨ ¬ (getN false bs p 2 = 34984 ∨ getN false bs p 2 = 33024)) : lkRun t bs p = lkTyped bs p := by
  cases t with
  | zero => simp [lkRun, h]
  | succ t =>
    have hk' : ¬ (getN false bs p 2 = 34984 ∨ getN false bs p 2 = 33024) := by rcases hk with h | h; cases h; exact h
    rw [lkRun, if_neg h, if_neg hk']
theorem lkRun_tag (t : Nat) (bs : List UInt8) (p : Nat) (h : ¬ bs.length < p + 2) (hk : getN false bs p 2 = 34984 ∨ getN false bs p 2 = 33024) : lkRun (t + 1) bs p = lkRun t bs (p + 4) := by
  rw [lkRun, if_neg h, if_pos hk]

set_option maxHeartbeats 1000000 in
theorem lopen_ether (w : World) (v : Value) (bs : List UInt8) (hb : Bs w v bs) : Calls Try.prog 43 #[.int .u16 1, v] w (LkRet w (lkRun 2 bs 12)) := by
  have HB := Lib.hid hb
  obtain ⟨a, c, rfl, hl1, hl2, hat⟩ := hb
  clear hat
  unfold maxLen at hl2
  obtain ⟨R, hR⟩ : ∃ R, R = lkRun 2 bs 12 := ⟨_, rfl⟩
  rw [← hR]
  have HR := Lib.hid hR
  clear hR
  go_enter Try.func43, Try.ntmps43
  go_wp2_with fail
  go_loopw [7, 8] (fun s7 s8 wr => ∃ k p : Nat, k ≤ 2 ∧ s7 = .int .i64 p ∧ s8 = .int .i64 k ∧ p ≤ 20 ∧ Hid (R = lkRun (2 - k) bs p ∧ Below w.heap.size w wr ∧ p = 12 + 4 * k)) (fun _ s8 _ => 3 - (intOf s8).toNat)
  case atStart => exact ⟨0, 12, by omega, rfl, rfl, by omega, HR.out, Below.refl _ _, rfl⟩
  case round =>
    obtain ⟨k, p, hk, rfl, rfl, hp, HH⟩ := hrel
    have HB1 : Hid (Bs wr (.slice a bs.length c) bs) := Lib.hid (HB.out.below HH.out.2.1)
    have HL1 : Hid (Below w.heap.size w wr) := Lib.hid HH.out.2.1
    by_cases h : bs.length < p + 2
    · have eT := lkRun_short (2 - k) bs p h
      rw [← HH.out.1] at eT
      rw [eT]
      have h' : (bs.length : Int) < (p : Int) + 2 := by omega
      clear eT h
      go_wp2_with fail
      exact bodyPost_ret (v := .tuple #[.int .i64 0, .slice none 0 0, .int .u8 3]) (by simp [results, Try.results43]) rfl (lk_none rfl HL1.out)
    have h' : ¬ (bs.length : Int) < (p : Int) + 2 := by omega
    by_cases hk2 : k = 2
    · have b1 : ((k : Int) == 2) = true := by rw [beq_iff_eq]; omega
      have HC := Lib.hid (fun W hW => typed_any W (.slice a bs.length c) bs p hW (by omega))
      have eT := lkRun_typed (2 - k) bs p h (by left; omega)
      rw [← HH.out.1] at eT
      rw [← eT] at HC
      clear h hk2 eT
      go_wp2_with fail
      refine (HC.out _ HB1.out).mono ?_
      rintro e w1 ⟨a1, rfl, hb1, bel1⟩
      have H1 := Lib.hid (And.intro hb1 (HL1.out.trans (bel1.mono HL1.out.size)))
      clear hb1 bel1 HC
      go_wp2_with fail
      exact bodyPost_ret (v := .tuple #[.int .i64 R.1, .slice a1 R.2.1.length R.2.1.length, .int .u8 R.2.2]) (by simp [results, Try.results43]) rfl ⟨a1, rfl, H1.out.1, H1.out.2⟩
    have b1 : ((k : Int) == 2) = false := by rw [beq_eq_false_iff_ne]; omega
    obtain ⟨N, hN⟩ : ∃ N, N = getN false bs p 2 := ⟨_, rfl⟩
    have hlt : N < 65536 := by rw [hN]; exact getN_lt false bs p 2
    have HN := Lib.hid hN
    by_cases c1 : N = 34984 ∨ N = 33024
    · have eT := lkRun_tag (2 - (k + 1)) bs p h (by rw [← hN]; exact c1)
      rw [show 2 - (k + 1) + 1 = 2 - k by omega, ← HH.out.1] at eT
      have HE := Lib.hid eT
      have HP := Lib.hid HH.out.2.2
      have hp' : p + 4 ≤ 20 := by have := HH.out.2.2; omega
      have bb : ((N : Int) == 34984) = true ∨ ((N : Int) == 34984) = false ∧ ((N : Int) == 33024) = true := by
        rcases c1 with h | h
        · exact .inl (by rw [beq_iff_eq]; omega)
        · exact .inr ⟨by rw [beq_eq_false_iff_ne]; omega, by rw [beq_iff_eq]; omega⟩
      have hk1 : k + 1 ≤ 2 := by omega
      clear h hk2 hN c1 eT HH HR
      rcases bb with b2 | ⟨b2, b3⟩
      all_goals
        go_wp2_with fail
        refine (u16_any _ _ bs false p HB1.out).mono ?_
        rintro e w0 ⟨rfl, hb0⟩
        rw [← HN.out]
        have HB0 : Hid (Bs w0 (.slice a bs.length c) bs) := HB1.out.below hb0
        have HL0 : Hid (Below w.heap.size w w0) := Lib.hid (HL1.out.trans (hb0.mono HL1.out.size))
        clear hb0
        go_wp2_with fail

        go_roundw
        case rel => exact ⟨k + 1, p + 4, hk1, by go_num, by go_num, hp', HE.out, HL0.out, by have := HP.out; omega⟩
        case measure => simp [intOf]; omega
    · have b2 : ((N : Int) == 34984) = false := by rw [beq_eq_false_iff_ne]; omega
      have b3 : ((N : Int) == 33024) = false := by rw [beq_eq_false_iff_ne]; omega
      have HC := Lib.hid (fun W hW => typed_any W (.slice a bs.length c) bs p hW (by omega))
      have eT := lkRun_typed (2 - k) bs p h (by right; rw [← hN]; exact c1)
      rw [← HH.out.1] at eT
      rw [← eT] at HC
      clear h hk2 hN c1 eT HH HR
      go_wp2_with fail
      refine (u16_any _ _ bs false p HB1.out).mono ?_
      rintro e w0 ⟨rfl, hb0⟩
      rw [← HN.out]
      have HB0 : Hid (Bs w0 (.slice a bs.length c) bs) := HB1.out.below hb0
      have HL0 : Hid (Below w.heap.size w w0) := Lib.hid (HL1.out.trans (hb0.mono HL1.out.size))
      clear hb0
      go_wp2_with fail
      refine (HC.out _ HB0.out).mono ?_
      rintro e w1 ⟨a1, rfl, hb1, bel1⟩
      have H1 := Lib.hid (And.intro hb1 (HL0.out.trans (bel1.mono HL0.out.size)))
      clear hb1 bel1 HC
      go_wp2_with fail
      exact bodyPost_ret (v := .tuple #[.int .i64 R.1, .slice a1 R.2.1.length R.2.1.length, .int .u8 R.2.2]) (by simp [results, Try.results43]) rfl ⟨a1, rfl, H1.out.1, H1.out.2⟩

theorem lopen_any (w : World) (l : Nat) (v : Value) (bs : List UInt8) (hb : Bs w v bs) : Calls Try.prog 43 #[.int .u16 l, v] w (LkRet w (lkOpen l bs)) := by
  unfold lkOpen
  by_cases h1 : l = 101
  · subst h1; rw [if_pos rfl]; exact lopen_raw w v bs hb
  · rw [if_neg h1]
    by_cases h2 : l = 1
    · subst h2; rw [if_pos rfl]; exact lopen_ether w v bs hb
    · rw [if_neg h2]
      by_cases h3 : l = 113
      · subst h3; rw [if_pos rfl]; exact lopen_sll w v bs hb
      · rw [if_neg h3]; exact lopen_other w l v bs hb h1 h2 h3
end Go.Proofs.Ytnckmaieghlpmaa
