/-
  The walk of horologeref14.Open.
-/
import Derived.Test.YtnckmaieghlpmaaLkOpen
import Derived.Deep.QuietTactic
import Derived.BigQuiet
namespace Go.Proofs.Ytnckmaieghlpmaa
open Go.RowKit
set_option linter.unusedVariables false

set_option maxHeartbeats 400000 in
theorem rlopen_other (w : World) (l : Nat) (v : Value) (bs : List UInt8) (hb : Bs w v bs) (h1 : l ≠ 101) (h2 : l ≠ 1) (h3 : l ≠ 113) : Calls Try.prog 44 #[.int .u16 l, v] w (RLkRet w (0, [], 1)) := by
  obtain ⟨a, c, rfl, hl1, hl2, hat⟩ := hb
  clear hat
  unfold maxLen at hl2
  have b1 : ((l : Int) != 101) = true := by rw [bne_iff_ne]; omega
  have b2 : ((l : Int) != 1) = true := by rw [bne_iff_ne]; omega
  have b3 : ((l : Int) != 113) = true := by rw [bne_iff_ne]; omega
  clear h1 h2 h3
  go_enter Try.func44, Try.ntmps44
  go_wp2_with fail
  exact bodyPost_ret (v := .tuple #[.int .i64 0, .slice none 0 0, .int .i64 1]) (by simp [results, Try.results44]) rfl (rlk_none rfl (Below.refl _ _))

set_option maxHeartbeats 400000 in
theorem rlopen_raw (w : World) (v : Value) (bs : List UInt8) (hb : Bs w v bs) : Calls Try.prog 44 #[.int .u16 101, v] w (RLkRet w (lkRaw bs)) := by
  have HB := Lib.hid hb
  obtain ⟨a, c, rfl, hl1, hl2, hat⟩ := hb
  unfold maxLen at hl2
  cases bs with
  | nil =>
    have e : lkRaw [] = (0, [], 3) := rfl
    rw [e]
    clear hat
    go_enter Try.func44, Try.ntmps44
    go_wp2_with fail
    exact bodyPost_ret (v := .tuple #[.int .i64 0, .slice none 0 0, .int .i64 3]) (by simp [results, Try.results44]) rfl (rlk_none rfl (Below.refl _ _))
  | cons x r =>
    obtain ⟨b, o, rfl, hc⟩ : ∃ b o, a = some ⟨b, o, none⟩ ∧ ∀ i y, (x :: r)[i]? = some y → w.cell? ⟨b, o + i, none⟩ = some (.int .u8 (y.toNat : Int)) := by
      rcases hat with h | h
      · cases h
      · exact h
    have c0 := hc 0 x rfl
    have hx : x.toNat < 256 := x.toNat_lt
    have hlen : 1 ≤ (x :: r).length := by simp
    obtain ⟨L, hL⟩ : ∃ L, L = x :: r := ⟨_, rfl⟩
    rw [← hL] at HB hl1 hlen ⊢
    obtain ⟨V, hV⟩ : ∃ V : Nat, V = x.toNat / 16 := ⟨_, rfl⟩
    have e1 : (x.toNat : Int) / 16 = (V : Int) := by omega
    have hi : (0 : Int) < (L.length : Int) := by omega
    have h0 : ((L.length : Int) == 0) = false := by rw [beq_eq_false_iff_ne]; omega
    simp only [Nat.add_zero] at c0
    by_cases c4 : V = 4 ∨ V = 6
    · have e : lkRaw L = (V, L, 0) := by rw [hL]; simp only [lkRaw]; rw [if_pos (by rw [← hV]; exact c4), ← hV]
      rw [e]
      have bb : ((V : Int) != 4) = false ∨ ((V : Int) != 4) = true ∧ ((V : Int) != 6) = false := by
        rcases c4 with h | h
        · exact .inl (by rw [bne_eq_false_iff_eq]; omega)
        · exact .inr ⟨by rw [bne_iff_ne]; omega, by rw [bne_eq_false_iff_eq]; omega⟩
      clear hV hL hat hc e c4
      rcases bb with b1 | ⟨b1, b2⟩
      all_goals
        go_enter Try.func44, Try.ntmps44
        go_wp2_with fail
        exact bodyPost_ret (v := .tuple #[.int .i64 V, .slice (some ⟨b, o, none⟩) L.length c, .int .i64 0]) (by simp [results, Try.results44]) rfl ⟨_, c, rfl, HB.out, Below.refl _ _⟩
    · have e : lkRaw L = (0, [], 2) := by rw [hL]; simp only [lkRaw]; rw [if_neg (by rw [← hV]; exact c4)]
      rw [e]
      have b1 : ((V : Int) != 4) = true := by rw [bne_iff_ne]; omega
      have b2 : ((V : Int) != 6) = true := by rw [bne_iff_ne]; omega
      clear hV hL hat hc e c4
      go_enter Try.func44, Try.ntmps44
      go_wp2_with fail
      exact bodyPost_ret (v := .tuple #[.int .i64 0, .slice none 0 0, .int .i64 2]) (by simp [results, Try.results44]) rfl (rlk_none rfl (Below.refl _ _))

theorem ok2 {bs : List UInt8} {p : Nat} : getOk bs p 2 = true ↔ ¬ bs.length < p + 2 := by
  simp only [getOk, decide_eq_true_eq]; omega
theorem drop_bs {w : World} {a : Option Addr} {bs : List UInt8} {c : Nat} (h : Bs w (.slice a bs.length c) bs) (n : Nat) (hn : n ≤ bs.length) : ∃ a' : Option Addr, (if c - n = 0 then a else a.map (·.add n)) = a' ∧ Bs w (.slice a' (bs.length - n) (c - n)) (bs.drop n) := by
  obtain ⟨a', c', he, h1, h2, hat⟩ := h
  simp only [Value.slice.injEq, true_and] at he
  obtain ⟨rfl, rfl⟩ := he
  have hl : (bs.drop n).length = bs.length - n := by simp
  by_cases h0 : c - n = 0
  · have e : bs.drop n = [] := List.eq_nil_of_length_eq_zero (by omega)
    refine ⟨a, by rw [if_pos h0], ?_⟩
    rw [e, show bs.length - n = 0 by omega]
    exact ⟨a, _, rfl, Nat.zero_le _, by omega, .inl rfl⟩
  · refine ⟨a.map (·.add n), by rw [if_neg h0], ?_⟩
    have := (bsc_piece hat (n := n) (m := bs.length - n) (c := c - n) (by omega) (by omega) (by omega)).bs
    rwa [List.take_of_length_le (by omega)] at this
theorem rl_sliced {w : World} {a : Option Addr} {bs X : List UInt8} {c p k : Nat} (nq : Nat) {R : LkT} (hb : Bs w (.slice a bs.length c) bs) (hp : p + 2 ≤ bs.length) (hX : X = bs.drop (p + 2)) (hR : R = (k, X, 0)) :
    (c = p + 2 → RLkRet w R (.returned (.tuple #[.int .i64 k, .slice a (bs.length - (p + 2)) 0, .int .i64 0])) (w.drewN nq)) ∧
    (¬ c = p + 2 → RLkRet w R (.returned (.tuple #[.int .i64 k, .slice (Option.map (fun x => { block := x.block, off := x.off + (p + 1 + 1) }) a) (bs.length - (p + 2)) (c - (p + 2)), .int .i64 0])) (w.drewN nq)) := by
  obtain ⟨ad, had, hbd⟩ := drop_bs hb (p + 2) hp
  have hXl : bs.length - (p + 2) = X.length := by rw [hX]; simp
  have hcl : bs.length ≤ c := by obtain ⟨_, _, he, h1, _⟩ := hb; simp only [Value.slice.injEq, true_and] at he; rw [he.2]; exact h1
  rw [← hX, hXl] at hbd
  rw [hXl]
  subst hR
  have bel := below_drewN w nq
  refine ⟨fun h => ?_, fun h => ?_⟩
  · rw [if_pos (by omega)] at had
    subst had
    rw [show c - (p + 2) = 0 by omega] at hbd
    exact ⟨a, 0, rfl, hbd.below bel, bel⟩
  · rw [if_neg (by omega)] at had
    subst had
    exact ⟨_, _, rfl, hbd.below bel, bel⟩

set_option maxHeartbeats 2000000 in
theorem rlopen_1 (w : World) (v : Value) (bs : List UInt8) (hb : Bs w v bs) : Calls Try.prog 44 #[.int .u16 1, v] w (RLkRet w (lkRun 2 bs 12)) := by
  have HB := Lib.hid hb
  obtain ⟨a, c, rfl, hl1, hl2, hat⟩ := hb
  clear hat
  unfold maxLen at hl2
  obtain ⟨R, hR⟩ : ∃ R, R = lkRun 2 bs 12 := ⟨_, rfl⟩
  rw [← hR]
  have HR := Lib.hid hR
  clear hR
  go_enter Try.func44, Try.ntmps44
  go_wp2_with fail
  refine (short_any w _ bs 12 HB.out).mono ?_
  rintro e w1 ⟨rfl, rfl⟩
  obtain ⟨N0, hN0⟩ : ∃ N0, N0 = getN false bs (12 : Nat) 2 := ⟨_, rfl⟩
  obtain ⟨K0, hK0⟩ : ∃ K0, K0 = getOk bs (12 : Nat) 2 := ⟨_, rfl⟩
  rw [← hN0, ← hK0]
  have HN0 := Lib.hid hN0
  have HK0 := Lib.hid hK0
  clear hN0 hK0
  go_wp2_with fail
  go_loop [8, 9, 10, 11] (fun s8 s9 s10 s11 => ∃ (p t N : Nat) (K : Bool), s8 = .int .i64 p ∧ s9 = .int .i64 t ∧ s10 = .int .u64 N ∧ s11 = .bool K ∧ p ≤ 20 ∧ t ≤ 2 ∧ N < 65536 ∧ Hid (R = lkRun t bs p ∧ N = getN false bs p 2 ∧ K = getOk bs p 2 ∧ p + 4 * t ≤ 20)) (fun _ s9 _ _ => (intOf s9).toNat)
  case atStart => exact ⟨12, 2, N0, K0, rfl, rfl, rfl, rfl, by omega, by omega, by rw [HN0.out]; exact getN_lt false bs _ 2, HR.out, HN0.out, HK0.out, by omega⟩
  case round =>
    obtain ⟨p, t, N, K, rfl, rfl, rfl, rfl, hp, ht, hN, HH⟩ := hrel
    clear HN0 HK0
    cases K with
    | false =>
      have eT := lkRun_short t bs p (by have h := HH.out.2.2.1; by_cases hh : bs.length < p + 2; exact hh; rw [ok2.2 hh] at h; cases h)
      rw [← HH.out.1] at eT
      have HE := Lib.hid eT
      clear eT
      go_wp2_with fail
      exact bodyPost_ret (v := .tuple #[.int .i64 0, .slice none 0 0, .int .i64 3]) (by simp [results, Try.results44]) rfl (by rw [HE.out]; exact rlk_none rfl (Below.refl _ _))
    | true =>
      have hlen := ok2.1 HH.out.2.2.1.symm
      by_cases ct : 0 < t ∧ (N = 34984 ∨ N = 33024)
      · have b0 : (0 : Int) < (t : Int) := by omega
        have bb : ((N : Int) == 33024) = true ∨ ((N : Int) == 33024) = false ∧ ((N : Int) == 34984) = true := by
          rcases ct.2 with h | h
          · exact .inr ⟨by rw [beq_eq_false_iff_ne]; omega, by rw [beq_iff_eq]; omega⟩
          · exact .inl (by rw [beq_iff_eq]; omega)
        obtain ⟨t', rfl⟩ : ∃ t', t = t' + 1 := ⟨t - 1, by omega⟩
        have eT := lkRun_tag t' bs p hlen (by rw [← HH.out.2.1]; exact ct.2)
        rw [← HH.out.1] at eT
        have HE := Lib.hid eT
        have HP := Lib.hid HH.out.2.2.2
        have hp' : p + 4 ≤ 20 := by have := HH.out.2.2.2; omega
        obtain ⟨N1, hN1⟩ : ∃ N1, N1 = getN false bs ((p + 4 : Nat) : Int) 2 := ⟨_, rfl⟩
        obtain ⟨K1, hK1⟩ : ∃ K1, K1 = getOk bs ((p + 4 : Nat) : Int) 2 := ⟨_, rfl⟩
        have HS := Lib.hid (short_any w (.slice a bs.length c) bs (p + 4) HB.out)
        rw [← hN1, ← hK1] at HS
        have HN1 := Lib.hid hN1
        have HK1 := Lib.hid hK1
        clear ct eT hlen HH hN1 hK1 HR
        rcases bb with b1 | ⟨b1, b2⟩
        all_goals
          go_wp2_with fail
          refine HS.out.mono ?_
          rintro e w1 ⟨rfl, rfl⟩
          go_wp2_with fail
          go_round
          case rel => exact ⟨p + 4, t', N1, K1, by go_num, by go_num, rfl, rfl, hp', by omega, by rw [HN1.out]; exact getN_lt false bs _ 2, HE.out, HN1.out, HK1.out, by have := HP.out; omega⟩
          case measure => simp [intOf]
      · have bt : ¬ (0 : Int) < (t : Int) ∨ (0 : Int) < (t : Int) ∧ ((N : Int) == 33024) = false ∧ ((N : Int) == 34984) = false := by
          by_cases h : 0 < t
          · have h1 : ¬ N = 34984 := fun h2 => ct ⟨h, .inl h2⟩
            have h2 : ¬ N = 33024 := fun h2 => ct ⟨h, .inr h2⟩
            exact .inr ⟨by omega, by rw [beq_eq_false_iff_ne]; omega, by rw [beq_eq_false_iff_ne]; omega⟩
          · exact .inl (by omega)
        have eT := lkRun_typed t bs p hlen (by
          by_cases h : t = 0
          · exact .inl h
          · right; rw [← HH.out.2.1]; intro h2; exact ct ⟨by omega, h2⟩)
        rw [← HH.out.1] at eT
        unfold lkTyped at eT
        rw [← HH.out.2.1] at eT
        have i1 : IntKind.i64.wrap ((p : Int) + 2) = (p : Int) + 2 := IntWalk.i64_in _ (by omega)
        have i2 : (0 : Int) ≤ (p : Int) + 2 := by omega
        have i3 : (p : Int) + 2 ≤ (bs.length : Int) := by omega
        have i4 : ((p : Int) + 2).toNat = p + 2 := by omega
        have i5 : bs.length ≤ c := hl1
        by_cases c1 : N = 2048
        · rw [if_pos c1] at eT
          have HE := Lib.hid (fun nq => rl_sliced nq HB.out (by omega) rfl eT)
          have b4 : ((N : Int) == 2048) = true := by rw [beq_iff_eq]; omega
          clear eT c1 hlen HH HR ct
          rcases bt with b1 | ⟨b1, b2, b3⟩
          all_goals
            go_wp2_with fail
            go_quiet (fail)
            go_wp2_with fail
            all_goals
              first
                | exact bodyPost_ret (v := .tuple #[.int .i64 4, .slice a (bs.length - (p + 2)) 0, .int .i64 0]) (by simp [results, Try.results44]) rfl ((HE.out _).1 (by assumption))
                | exact bodyPost_ret (v := .tuple #[.int .i64 4, .slice (Option.map (fun x => { block := x.block, off := x.off + (p + 1 + 1) }) a) (bs.length - (p + 2)) (c - (p + 2)), .int .i64 0]) (by simp [results, Try.results44]) rfl ((HE.out _).2 (by assumption))
        · rw [if_neg c1] at eT
          have b4 : ((N : Int) == 2048) = false := by rw [beq_eq_false_iff_ne]; omega
          by_cases c2 : N = 34525
          · rw [if_pos c2] at eT
            have HE := Lib.hid (fun nq => rl_sliced nq HB.out (by omega) rfl eT)
            have b5 : ((N : Int) == 34525) = true := by rw [beq_iff_eq]; omega
            clear c2
            clear eT c1 hlen HH HR ct
            rcases bt with b1 | ⟨b1, b2, b3⟩
            all_goals
              go_wp2_with fail
              go_quiet (fail)
              go_wp2_with fail
              all_goals
                first
                  | exact bodyPost_ret (v := .tuple #[.int .i64 6, .slice a (bs.length - (p + 2)) 0, .int .i64 0]) (by simp [results, Try.results44]) rfl ((HE.out _).1 (by assumption))
                  | exact bodyPost_ret (v := .tuple #[.int .i64 6, .slice (Option.map (fun x => { block := x.block, off := x.off + (p + 1 + 1) }) a) (bs.length - (p + 2)) (c - (p + 2)), .int .i64 0]) (by simp [results, Try.results44]) rfl ((HE.out _).2 (by assumption))
          · rw [if_neg c2] at eT
            have b5 : ((N : Int) == 34525) = false := by rw [beq_eq_false_iff_ne]; omega
            have HE := Lib.hid eT
            clear eT c1 c2 hlen HH HR ct
            rcases bt with b1 | ⟨b1, b2, b3⟩
            all_goals
              go_wp2_with fail
              exact bodyPost_ret (v := .tuple #[.int .i64 0, .slice none 0 0, .int .i64 2]) (by simp [results, Try.results44]) rfl (by rw [HE.out]; exact rlk_none rfl (Below.refl _ _))

set_option maxHeartbeats 2000000 in
theorem rlopen_113 (w : World) (v : Value) (bs : List UInt8) (hb : Bs w v bs) : Calls Try.prog 44 #[.int .u16 113, v] w (RLkRet w (lkRun 0 bs 14)) := by
  have HB := Lib.hid hb
  obtain ⟨a, c, rfl, hl1, hl2, hat⟩ := hb
  clear hat
  unfold maxLen at hl2
  obtain ⟨R, hR⟩ : ∃ R, R = lkRun 0 bs 14 := ⟨_, rfl⟩
  rw [← hR]
  have HR := Lib.hid hR
  clear hR
  go_enter Try.func44, Try.ntmps44
  go_wp2_with fail
  refine (short_any w _ bs 14 HB.out).mono ?_
  rintro e w1 ⟨rfl, rfl⟩
  obtain ⟨N0, hN0⟩ : ∃ N0, N0 = getN false bs (14 : Nat) 2 := ⟨_, rfl⟩
  obtain ⟨K0, hK0⟩ : ∃ K0, K0 = getOk bs (14 : Nat) 2 := ⟨_, rfl⟩
  rw [← hN0, ← hK0]
  have HN0 := Lib.hid hN0
  have HK0 := Lib.hid hK0
  clear hN0 hK0
  go_wp2_with fail
  go_loop [8, 9, 10, 11] (fun s8 s9 s10 s11 => ∃ (p t N : Nat) (K : Bool), s8 = .int .i64 p ∧ s9 = .int .i64 t ∧ s10 = .int .u64 N ∧ s11 = .bool K ∧ p ≤ 20 ∧ t ≤ 2 ∧ N < 65536 ∧ Hid (R = lkRun t bs p ∧ N = getN false bs p 2 ∧ K = getOk bs p 2 ∧ p + 4 * t ≤ 20)) (fun _ s9 _ _ => (intOf s9).toNat)
  case atStart => exact ⟨14, 0, N0, K0, rfl, rfl, rfl, rfl, by omega, by omega, by rw [HN0.out]; exact getN_lt false bs _ 2, HR.out, HN0.out, HK0.out, by omega⟩
  case round =>
    obtain ⟨p, t, N, K, rfl, rfl, rfl, rfl, hp, ht, hN, HH⟩ := hrel
    clear HN0 HK0
    cases K with
    | false =>
      have eT := lkRun_short t bs p (by have h := HH.out.2.2.1; by_cases hh : bs.length < p + 2; exact hh; rw [ok2.2 hh] at h; cases h)
      rw [← HH.out.1] at eT
      have HE := Lib.hid eT
      clear eT
      go_wp2_with fail
      exact bodyPost_ret (v := .tuple #[.int .i64 0, .slice none 0 0, .int .i64 3]) (by simp [results, Try.results44]) rfl (by rw [HE.out]; exact rlk_none rfl (Below.refl _ _))
    | true =>
      have hlen := ok2.1 HH.out.2.2.1.symm
      by_cases ct : 0 < t ∧ (N = 34984 ∨ N = 33024)
      · have b0 : (0 : Int) < (t : Int) := by omega
        have bb : ((N : Int) == 33024) = true ∨ ((N : Int) == 33024) = false ∧ ((N : Int) == 34984) = true := by
          rcases ct.2 with h | h
          · exact .inr ⟨by rw [beq_eq_false_iff_ne]; omega, by rw [beq_iff_eq]; omega⟩
          · exact .inl (by rw [beq_iff_eq]; omega)
        obtain ⟨t', rfl⟩ : ∃ t', t = t' + 1 := ⟨t - 1, by omega⟩
        have eT := lkRun_tag t' bs p hlen (by rw [← HH.out.2.1]; exact ct.2)
        rw [← HH.out.1] at eT
        have HE := Lib.hid eT
        have HP := Lib.hid HH.out.2.2.2
        have hp' : p + 4 ≤ 20 := by have := HH.out.2.2.2; omega
        obtain ⟨N1, hN1⟩ : ∃ N1, N1 = getN false bs ((p + 4 : Nat) : Int) 2 := ⟨_, rfl⟩
        obtain ⟨K1, hK1⟩ : ∃ K1, K1 = getOk bs ((p + 4 : Nat) : Int) 2 := ⟨_, rfl⟩
        have HS := Lib.hid (short_any w (.slice a bs.length c) bs (p + 4) HB.out)
        rw [← hN1, ← hK1] at HS
        have HN1 := Lib.hid hN1
        have HK1 := Lib.hid hK1
        clear ct eT hlen HH hN1 hK1 HR
        rcases bb with b1 | ⟨b1, b2⟩
        all_goals
          go_wp2_with fail
          refine HS.out.mono ?_
          rintro e w1 ⟨rfl, rfl⟩
          go_wp2_with fail
          go_round
          case rel => exact ⟨p + 4, t', N1, K1, by go_num, by go_num, rfl, rfl, hp', by omega, by rw [HN1.out]; exact getN_lt false bs _ 2, HE.out, HN1.out, HK1.out, by have := HP.out; omega⟩
          case measure => simp [intOf]
      · have bt : ¬ (0 : Int) < (t : Int) ∨ (0 : Int) < (t : Int) ∧ ((N : Int) == 33024) = false ∧ ((N : Int) == 34984) = false := by
          by_cases h : 0 < t
          · have h1 : ¬ N = 34984 := fun h2 => ct ⟨h, .inl h2⟩
            have h2 : ¬ N = 33024 := fun h2 => ct ⟨h, .inr h2⟩
            exact .inr ⟨by omega, by rw [beq_eq_false_iff_ne]; omega, by rw [beq_eq_false_iff_ne]; omega⟩
          · exact .inl (by omega)
        have eT := lkRun_typed t bs p hlen (by
          by_cases h : t = 0
          · exact .inl h
          · right; rw [← HH.out.2.1]; intro h2; exact ct ⟨by omega, h2⟩)
        rw [← HH.out.1] at eT
        unfold lkTyped at eT
        rw [← HH.out.2.1] at eT
        have i1 : IntKind.i64.wrap ((p : Int) + 2) = (p : Int) + 2 := IntWalk.i64_in _ (by omega)
        have i2 : (0 : Int) ≤ (p : Int) + 2 := by omega
        have i3 : (p : Int) + 2 ≤ (bs.length : Int) := by omega
        have i4 : ((p : Int) + 2).toNat = p + 2 := by omega
        have i5 : bs.length ≤ c := hl1
        by_cases c1 : N = 2048
        · rw [if_pos c1] at eT
          have HE := Lib.hid (fun nq => rl_sliced nq HB.out (by omega) rfl eT)
          have b4 : ((N : Int) == 2048) = true := by rw [beq_iff_eq]; omega
          clear eT c1 hlen HH HR ct
          rcases bt with b1 | ⟨b1, b2, b3⟩
          all_goals
            go_wp2_with fail
            go_quiet (fail)
            go_wp2_with fail
            all_goals
              first
                | exact bodyPost_ret (v := .tuple #[.int .i64 4, .slice a (bs.length - (p + 2)) 0, .int .i64 0]) (by simp [results, Try.results44]) rfl ((HE.out _).1 (by assumption))
                | exact bodyPost_ret (v := .tuple #[.int .i64 4, .slice (Option.map (fun x => { block := x.block, off := x.off + (p + 1 + 1) }) a) (bs.length - (p + 2)) (c - (p + 2)), .int .i64 0]) (by simp [results, Try.results44]) rfl ((HE.out _).2 (by assumption))
        · rw [if_neg c1] at eT
          have b4 : ((N : Int) == 2048) = false := by rw [beq_eq_false_iff_ne]; omega
          by_cases c2 : N = 34525
          · rw [if_pos c2] at eT
            have HE := Lib.hid (fun nq => rl_sliced nq HB.out (by omega) rfl eT)
            have b5 : ((N : Int) == 34525) = true := by rw [beq_iff_eq]; omega
            clear c2
            clear eT c1 hlen HH HR ct
            rcases bt with b1 | ⟨b1, b2, b3⟩
            all_goals
              go_wp2_with fail
              go_quiet (fail)
              go_wp2_with fail
              all_goals
                first
                  | exact bodyPost_ret (v := .tuple #[.int .i64 6, .slice a (bs.length - (p + 2)) 0, .int .i64 0]) (by simp [results, Try.results44]) rfl ((HE.out _).1 (by assumption))
                  | exact bodyPost_ret (v := .tuple #[.int .i64 6, .slice (Option.map (fun x => { block := x.block, off := x.off + (p + 1 + 1) }) a) (bs.length - (p + 2)) (c - (p + 2)), .int .i64 0]) (by simp [results, Try.results44]) rfl ((HE.out _).2 (by assumption))
          · rw [if_neg c2] at eT
            have b5 : ((N : Int) == 34525) = false := by rw [beq_eq_false_iff_ne]; omega
            have HE := Lib.hid eT
            clear eT c1 c2 hlen HH HR ct
            rcases bt with b1 | ⟨b1, b2, b3⟩
            all_goals
              go_wp2_with fail
              exact bodyPost_ret (v := .tuple #[.int .i64 0, .slice none 0 0, .int .i64 2]) (by simp [results, Try.results44]) rfl (by rw [HE.out]; exact rlk_none rfl (Below.refl _ _))

theorem rlopen_any (w : World) (l : Nat) (v : Value) (bs : List UInt8) (hb : Bs w v bs) : Calls Try.prog 44 #[.int .u16 l, v] w (RLkRet w (lkOpen l bs)) := by
  unfold lkOpen
  by_cases h1 : l = 101
  · subst h1; rw [if_pos rfl]; exact rlopen_raw w v bs hb
  · rw [if_neg h1]
    by_cases h2 : l = 1
    · subst h2; rw [if_pos rfl]; exact rlopen_1 w v bs hb
    · rw [if_neg h2]
      by_cases h3 : l = 113
      · subst h3; rw [if_pos rfl]; exact rlopen_113 w v bs hb
      · rw [if_neg h3]; exact rlopen_other w l v bs hb h1 h2 h3
end Go.Proofs.Ytnckmaieghlpmaa
