/-
  The walk of horologelaw14.LinkCut.
-/
import Derived.Test.YtnckmaieghlpmaaLawLback
import Derived.Deep.QuietTactic
import Derived.BigQuiet
namespace Go.Proofs.Ytnckmaieghlpmaa
open Go.RowKit
set_option linter.unusedVariables false

set_option maxRecDepth 100000 in
set_option maxHeartbeats 1000000 in
theorem law_lcut_great (w : World) (l : Nat) (v vm : Value) (bs ms : List UInt8) (cut : Nat) (hb : Bs w v bs) (hm : Bs w vm ms) (h : 300 < bs.length ∨ 300 < ms.length) :
    Calls Try.prog 15 #[.int .u16 l, v, vm, .int .u16 cut] w fun e w' => e = .returned (.bool true) ∧ Below w.heap.size w w' := by
  obtain ⟨a, c, rfl, hl1, hl2, hat⟩ := hb
  obtain ⟨am, cm, rfl, hm1, hm2, hatm⟩ := hm
  clear hat hatm
  unfold maxLen at hl2 hm2
  have hh : (300 : Int) < (bs.length : Int) ∨ ¬ (300 : Int) < (bs.length : Int) ∧ (300 : Int) < (ms.length : Int) := by omega
  clear h
  rcases hh with h1 | ⟨h1, h2⟩
  all_goals
    go_enter Try.func15, Try.ntmps15
    go_wp2_with fail
    refine (known14 _).mono ?_; rintro e w1 ⟨rfl, hb1⟩
    have HL1 := Lib.hid hb1
    clear hb1
    go_wp2_with fail
    go_ret
    exact ⟨rfl, HL1.out⟩

set_option maxRecDepth 100000 in
set_option maxHeartbeats 1000000 in
theorem law_lcut_short (w : World) (l : Nat) (v vm : Value) (bs ms : List UInt8) (cut : Nat) (hb : Bs w v bs) (hm : Bs w vm ms) (h1 : bs.length ≤ 300) (h2 : ms.length ≤ 300) (hO : lkOpen l bs = (0, [], 3)) :
    Calls Try.prog 15 #[.int .u16 l, v, vm, .int .u16 cut] w fun e w' => e = .returned (.bool true) ∧ Below w.heap.size w w' := by
  have HB := Lib.hid hb
  obtain ⟨a, c, rfl, hl1, hl2, hat⟩ := hb
  obtain ⟨am, cm, rfl, hm1, hm2, hatm⟩ := hm
  clear hat hatm
  unfold maxLen at hl2 hm2
  have h1' : ¬ (300 : Int) < (bs.length : Int) := by omega
  have h2' : ¬ (300 : Int) < (ms.length : Int) := by omega
  have HO := Lib.hid (fun W hW => open_lit W l (.slice a bs.length c) bs 0 3 [] hW hO)
  clear hO h1 h2
  go_enter Try.func15, Try.ntmps15
  go_wp2_with fail
  refine (known14 _).mono ?_; rintro e w1 ⟨rfl, hb1⟩
  have HL1 := Lib.hid hb1
  have HB1 : Hid (Bs w1 (.slice a bs.length c) bs) := Lib.hid (HB.out.below hb1)
  clear hb1
  go_wp2_with fail
  refine (show Calls Try.prog 43 #[.int .u16 l, .slice a bs.length c] w1 (LkLit w1 0 [] 0 3) from HO.out _ HB1.out).mono ?_
  rintro e w2 ⟨a2, rfl, hb2, bel2⟩
  have HL2 : Hid (Below w.heap.size w w2) := Lib.hid (HL1.out.trans (bel2.mono HL1.out.size))
  clear hb2 bel2
  go_wp2_with fail
  go_ret
  exact ⟨rfl, HL2.out⟩

set_option maxRecDepth 100000 in
set_option maxHeartbeats 2000000 in
/-- nothing is carried -/
theorem law_lcut_none (w : World) (l : Nat) (v vm : Value) (bs ms : List UInt8) (cut d : Nat) (hb : Bs w v bs) (hm : Bs w vm ms) (h1 : bs.length ≤ 300) (h2 : ms.length ≤ 300) (hd0 : d ≠ 0) (hd3 : d < 3) (hO : lkOpen l bs = (0, [], d)) (hO2 : lkOpen l (bs ++ ms) = (0, [], d)) :
    Calls Try.prog 15 #[.int .u16 l, v, vm, .int .u16 cut] w fun e w' => e = .returned (.bool true) ∧ Below w.heap.size w w' := by
  have HB := Lib.hid hb
  have HM := Lib.hid hm
  obtain ⟨a, c, rfl, hl1, hl2, hat⟩ := hb
  obtain ⟨am, cm, rfl, hm1, hm2, hatm⟩ := hm
  clear hat hatm
  unfold maxLen at hl2 hm2
  have h1' : ¬ (300 : Int) < (bs.length : Int) := by omega
  have h2' : ¬ (300 : Int) < (ms.length : Int) := by omega
  have b1 : ((d : Int) == 3) = false := eqb_ne (by omega)
  have b2 : ((d : Int) != 0) = true := ne_of_neb (by omega)
  have HO := Lib.hid (fun W hW => open_lit W l (.slice a bs.length c) bs 0 d [] hW hO)
  have HO2 := Lib.hid (fun W v hW => open_lit W l v (bs ++ ms) 0 d [] hW hO2)
  clear hO hO2 hd0
  go_enter Try.func15, Try.ntmps15
  go_wp2_with fail
  refine (known14 _).mono ?_; rintro e w1 ⟨rfl, hb1⟩
  have HL1 := Lib.hid hb1
  have HB1 : Hid (Bs w1 (.slice a bs.length c) bs) := Lib.hid (HB.out.below hb1)
  have HM1 : Hid (Bs w1 (.slice am ms.length cm) ms) := Lib.hid (HM.out.below hb1)
  clear hb1
  go_wp2_with fail
  refine (show Calls Try.prog 43 #[.int .u16 l, .slice a bs.length c] w1 (LkLit w1 0 [] 0 d) from HO.out _ HB1.out).mono ?_
  rintro e w2 ⟨a2, rfl, hb2, bel2⟩
  have HB2 : Hid (Bs w2 (.slice a bs.length c) bs) := Lib.hid (HB1.out.below bel2)
  have HM2 : Hid (Bs w2 (.slice am ms.length cm) ms) := Lib.hid (HM1.out.below bel2)
  have HL2 : Hid (Below w.heap.size w w2) := Lib.hid (HL1.out.trans (bel2.mono HL1.out.size))
  clear hb2 bel2
  have tok1 : True := trivial
  have tok2 : True := trivial
  go_wp2_with (first
    | (at_builtin; have _t := tok1; refine wpList_app' rfl _ _ rfl w2.heap.size _ [] rfl (own_lit w2 [] _ _ rfl (Nat.le_refl _) (Nat.zero_le _)) _ bs rfl (HB2.out.alloc _) (by simp; omega) (by simp) ?_; intro M ax cx w3 EM OM LM NM hcm; have LL3 : Hid (Below w2.heap.size w2 w3) := Lib.hid ((below_alloc _ _).trans LM.out); clear tok1)
    | (at_builtin; have _t := tok2; refine wpList_app' rfl _ _ rfl w2.heap.size _ M rfl OM.out _ ms rfl (HM2.out.below LL3.out) (by rw [NM.out]; simp; omega) LL3.out.size ?_; intro N a4 c4 w4 EN ON LN NN hcn; have LL4 : Hid (Below w2.heap.size w2 w4) := Lib.hid (LL3.out.trans LN.out); clear tok2)
    | fail)
  have HN : Hid (N = bs ++ ms) := Lib.hid (by rw [EN.out, EM.out]; rfl)
  have HBN : Hid (Bs w4 (.slice a4 N.length c4) (bs ++ ms)) := Lib.hid (by have := ON.out.bs; rw [HN.out] at this ⊢; exact this)
  have HL4 : Hid (Below w.heap.size w w4) := Lib.hid (HL2.out.trans (LL4.out.mono HL2.out.size))
  clear EN ON LN NN EM OM LM NM LL3 LL4
  refine (show Calls Try.prog 43 #[.int .u16 l, .slice a4 N.length c4] w4 (LkLit w4 0 [] 0 d) from HO2.out _ _ HBN.out).mono ?_
  rintro e w5 ⟨a5, rfl, hb5, bel5⟩
  have HL5 : Hid (Below w.heap.size w w5) := Lib.hid (HL4.out.trans (bel5.mono HL4.out.size))
  clear hb5 bel5
  go_wp2_with fail
  go_ret
  exact ⟨rfl, HL5.out⟩
set_option maxRecDepth 100000 in
set_option maxHeartbeats 4000000 in
/-- a beginning of what it carried -/
theorem law_lcut (w : World) (l : Nat) (v vm : Value) (bs ms : List UInt8) (cut k : Nat) (C : List UInt8) (hb : Bs w v bs) (hm : Bs w vm ms) (h1 : bs.length ≤ 300) (h2 : ms.length ≤ 300) (hk : k ≤ 6) (hcut : cut < 65536)
    (hO : lkOpen l bs = (k, C, 0)) (hO2 : lkOpen l (bs ++ ms) = (k, C ++ ms, 0)) :
    Calls Try.prog 15 #[.int .u16 l, v, vm, .int .u16 cut] w fun e w' => e = .returned (.bool true) ∧ Below w.heap.size w w' := by
  have HB := Lib.hid hb
  have HM := Lib.hid hm
  obtain ⟨a, c, rfl, hl1, hl2, hat⟩ := hb
  obtain ⟨am, cm, rfl, hm1, hm2, hatm⟩ := hm
  clear hat hatm
  unfold maxLen at hl2 hm2
  have h1' : ¬ (300 : Int) < (bs.length : Int) := by omega
  have h2' : ¬ (300 : Int) < (ms.length : Int) := by omega
  have HO := Lib.hid (fun W hW => open_lit W l (.slice a bs.length c) bs k 0 C hW hO)
  have HO2 := Lib.hid (fun W v hW => open_lit W l v (bs ++ ms) k 0 (C ++ ms) hW hO2)
  obtain ⟨p, hp⟩ : ∃ p : Nat, p = cut % (bs.length + 1) := ⟨_, rfl⟩
  have hpl : p ≤ bs.length := by have := Nat.mod_lt cut (show 0 < bs.length + 1 by omega); omega
  have d1 : (cut : Int) % ((bs.length : Int) + 1) = (p : Int) := by rw [hp, show (bs.length : Int) + 1 = ((bs.length + 1 : Nat) : Int) by omega]; simp
  have HD1 := Lib.hid d1
  have hF : (lkOpen l (bs.take p) = (0, [], 3) ∧ p < bs.length) ∨ ∃ z, lkOpen l (bs.take p) = (k, z, 0) ∧ C = z ++ bs.drop p ∧ z.length + (bs.length - p) = C.length := by
    by_cases hf : (lkOpen l (bs.take p)).2.2 = 3
    · left
      have q := open_short l _ hf
      refine ⟨by rw [← q.1, ← q.2, ← hf], ?_⟩
      by_cases h : p < bs.length
      · exact h
      · rw [List.take_of_length_le (by omega), hO] at hf; cases hf
    · right; exact open_cut l bs p k C hO hf hpl
  have HF := Lib.hid hF
  obtain ⟨S1, hS1⟩ : ∃ S, S = mkS C := ⟨_, rfl⟩
  obtain ⟨S2, hS2⟩ : ∃ S, S = mkS ms := ⟨_, rfl⟩
  obtain ⟨S3, hS3⟩ : ∃ S, S = mkS (C ++ ms) := ⟨_, rfl⟩
  have hadd : S1 ++ S2 = S3 := by rw [hS1, hS2, hS3, mkS_append]
  have HADD := Lib.hid hadd
  have HS1 := Lib.hid hS1
  have HS2 := Lib.hid hS2
  have HS3 := Lib.hid hS3
  clear hO hO2 hF hadd hS1 hS2 hS3 hp d1
  go_enter Try.func15, Try.ntmps15
  go_wp2_with fail
  refine (known14 _).mono ?_; rintro e w1 ⟨rfl, hb1⟩
  have HL1 := Lib.hid hb1
  have HB1 : Hid (Bs w1 (.slice a bs.length c) bs) := Lib.hid (HB.out.below hb1)
  have HM1 : Hid (Bs w1 (.slice am ms.length cm) ms) := Lib.hid (HM.out.below hb1)
  clear hb1
  go_wp2_with fail
  refine (HO.out _ HB1.out).mono ?_
  rintro e w2 ⟨a2, rfl, hb2, bel2⟩
  have HC2 : Hid (Bs w2 (.slice a2 C.length C.length) C) := Lib.hid hb2
  have HB2 : Hid (Bs w2 (.slice a bs.length c) bs) := Lib.hid (HB1.out.below bel2)
  have HM2 : Hid (Bs w2 (.slice am ms.length cm) ms) := Lib.hid (HM1.out.below bel2)
  have HL2 : Hid (Below w.heap.size w w2) := Lib.hid (HL1.out.trans (bel2.mono HL1.out.size))
  clear hb2 bel2
  have tok1 : True := trivial
  have tok2 : True := trivial
  go_wp2_with (first
    | (at_builtin; have _t := tok1; refine wpList_app' rfl _ _ rfl w2.heap.size _ [] rfl (own_lit w2 [] _ _ rfl (Nat.le_refl _) (Nat.zero_le _)) _ bs rfl (HB2.out.alloc _) (by simp; omega) (by simp) ?_; intro M ax cx w3 EM OM LM NM hcm; have LL3 : Hid (Below w2.heap.size w2 w3) := Lib.hid ((below_alloc _ _).trans LM.out); clear tok1)
    | (at_builtin; have _t := tok2; refine wpList_app' rfl _ _ rfl w2.heap.size _ M rfl OM.out _ ms rfl (HM2.out.below LL3.out) (by rw [NM.out]; simp; omega) LL3.out.size ?_; intro N a4 c4 w4 EN ON LN NN hcn; have LL4 : Hid (Below w2.heap.size w2 w4) := Lib.hid (LL3.out.trans LN.out); clear tok2)
    | fail)
  have HN : Hid (N = bs ++ ms) := Lib.hid (by rw [EN.out, EM.out]; rfl)
  have HBN : Hid (Bs w4 (.slice a4 N.length c4) (bs ++ ms)) := Lib.hid (by have := ON.out.bs; rw [HN.out] at this ⊢; exact this)
  have HC4 : Hid (Bs w4 (.slice a2 C.length C.length) C) := Lib.hid (HC2.out.below LL4.out)
  have HB4 : Hid (Bs w4 (.slice a bs.length c) bs) := Lib.hid (HB2.out.below LL4.out)
  have HM4 : Hid (Bs w4 (.slice am ms.length cm) ms) := Lib.hid (HM2.out.below LL4.out)
  have HL4 : Hid (Below w.heap.size w w4) := Lib.hid (HL2.out.trans (LL4.out.mono HL2.out.size))
  clear EN ON LN NN EM OM LM NM LL3 LL4 HC2 HB2 HM2 hcm
  refine (HO2.out _ _ HBN.out).mono ?_
  rintro e w5 ⟨a5, rfl, hb5, bel5⟩
  have HC5 : Hid (Bs w5 (.slice a2 C.length C.length) C) := Lib.hid (HC4.out.below bel5)
  have HB5 : Hid (Bs w5 (.slice a bs.length c) bs) := Lib.hid (HB4.out.below bel5)
  have HL5 : Hid (Below w.heap.size w w5) := Lib.hid (HL4.out.trans (bel5.mono HL4.out.size))
  obtain ⟨nx, hnx⟩ : ∃ nx, nx = (C ++ ms).length := ⟨_, rfl⟩
  rw [← hnx] at hb5 ⊢
  have hk1 : (convert 24 9 (.slice a5 nx nx)).run Try.prog w5 = .ok (.string S3) w5 := HS3.out ▸ conv_bs hb5
  have hk2 : (convert 24 9 (.slice a2 C.length C.length)).run Try.prog w5 = .ok (.string S1) w5 := HS1.out ▸ conv_bs HC5.out
  have hk3 : (convert 24 9 (.slice am ms.length cm)).run Try.prog w5 = .ok (.string S2) w5 := HS2.out ▸ conv_bs (HM4.out.below bel5)
  have hadd := HADD.out
  have hsum : S1.size + S2.size ≤ 9223372036854775807 := by
    obtain ⟨_, _, _, h1, h2, _⟩ := hb5
    unfold maxLen at h2
    rw [List.length_append] at h1
    rw [HS1.out, HS2.out, mkS_size, mkS_size]; omega
  have d1 := HD1.out
  have d2 : (p : Int) ≤ (c : Int) := by omega
  clear hb5 bel5 hnx HBN HN HC4 HB4 HM4 HL4 HO HO2
  go_wp2_with fail
  clear hk1 hk2 hk3 hadd HADD hsum
  rcases HF.out with ⟨hf, hlt⟩ | ⟨z, hz, hC, hlen⟩
  · have hlt' : (p : Int) < (bs.length : Int) := by omega
    refine (show Calls Try.prog 43 #[.int .u16 l, .slice a p c] w5 (LkLit w5 0 [] 0 3) from open_lit w5 l _ _ 0 3 [] (bs_take HB5.out hpl) hf).mono ?_
    rintro e w6 ⟨a6, rfl, hb6, bel6⟩
    simp only [d1]
    clear d1
    have HL6 : Hid (Below w.heap.size w w6) := Lib.hid (HL5.out.trans (bel6.mono HL5.out.size))
    clear hb6 bel6
    go_wp2_with fail
    go_ret
    exact ⟨rfl, HL6.out⟩
  · refine (open_lit w5 l (.slice a p c) _ k 0 z (bs_take HB5.out hpl) hz).mono ?_
    rintro e w6 ⟨a6, rfl, hb6, bel6⟩
    simp only [d1]
    clear d1
    have HL6 : Hid (Below w.heap.size w w6) := Lib.hid (HL5.out.trans (bel6.mono HL5.out.size))
    have HC6 : Hid (Bs w6 (.slice a2 C.length C.length) C) := Lib.hid (HC5.out.below bel6)
    obtain ⟨q, hq⟩ : ∃ q : Nat, q = bs.length - p := ⟨_, rfl⟩
    have hCl : C.length ≤ 9223372036854775807 := by
      obtain ⟨_, _, _, h1, h2, _⟩ := HC5.out
      unfold maxLen at h2; omega
    have e1 : IntKind.i64.wrap ((bs.length : Int) - (p : Int)) = (q : Int) := by rw [IntWalk.i64_in _ (by omega)]; omega
    have e2 : IntKind.i64.wrap ((C.length : Int) - (q : Int)) = (z.length : Int) := by rw [IntWalk.i64_in _ (by omega)]; omega
    have e3 : (z.length : Int) ≤ (C.length : Int) := by omega
    have e4 : (0 : Int) ≤ (z.length : Int) := by omega
    have hct : C.take z.length = z := by rw [hC, List.take_left]
    obtain ⟨S4, hS4⟩ : ∃ S, S = mkS z := ⟨_, rfl⟩
    have hk4 : ∀ n, (convert 24 9 (.slice a6 z.length z.length)).run Try.prog (w6.drewN n) = .ok (.string S4) (w6.drewN n) := fun n => hS4 ▸ conv_bs (hb6.below (below_drewN _ n))
    have hk5 : ∀ n, (convert 24 9 (.slice a2 z.length C.length)).run Try.prog (w6.drewN n) = .ok (.string S4) (w6.drewN n) := by
      intro n
      have h := bs_take HC6.out (N := z.length) (by omega)
      rw [hct] at h
      exact hS4 ▸ conv_bs (h.below (below_drewN _ n))
    clear hb6 bel6 hq hlen hct hS4 hC hz
    go_wp2_with fail
    go_quiet (fail)
    go_wp2_with fail
    go_ret
    exact ⟨rfl, HL6.out.trans ((below_drewN _ _).mono HL6.out.size)⟩

theorem law_lcut' (w : World) (l cut : Int) (v vm : Value) (F : (Lit.int .u16 l).wf = true) (F3 : (Lit.int .u16 cut).wf = true) (hb : ∃ bs, Bs w v bs) (hm : ∃ ms, Bs w vm ms) :
    Calls Try.prog 15 #[.int .u16 l, v, vm, .int .u16 cut] w fun e w' => e = .returned (.bool true) ∧ Below w.heap.size w w' := by
  obtain ⟨l, rfl, _⟩ := u16_nat F
  obtain ⟨cut, rfl, hcut⟩ := u16_nat F3
  obtain ⟨bs, hb⟩ := hb
  obtain ⟨ms, hm⟩ := hm
  by_cases h : 300 < bs.length ∨ 300 < ms.length
  · exact law_lcut_great w l v vm bs ms cut hb hm h
  · have h1 : bs.length ≤ 300 := by omega
    have h2 : ms.length ≤ 300 := by omega
    obtain ⟨R, hR⟩ : ∃ R, R = lkOpen l bs := ⟨_, rfl⟩
    obtain ⟨k, C, d⟩ := R
    have hs := lkOpen_small l bs
    rw [← hR] at hs
    obtain ⟨hk, hd⟩ := hs
    simp only at hk hd
    by_cases hd3 : d = 3
    · subst hd3
      have q := open_short l bs (by rw [← hR])
      rw [← hR] at q
      simp only at q
      obtain ⟨rfl, rfl⟩ := q
      exact law_lcut_short w l v vm bs ms cut hb hm h1 h2 hR.symm
    · have q := open_more l bs ms (by rw [← hR]; exact hd3)
      rw [← hR] at q
      simp only at q
      obtain ⟨q1, q2⟩ := q
      by_cases hd0 : d = 0
      · subst hd0
        rw [if_pos rfl] at q1
        exact law_lcut w l v vm bs ms cut k C hb hm h1 h2 hk hcut hR.symm q1
      · obtain ⟨rfl, rfl⟩ := q2 hd0
        rw [if_neg hd0] at q1
        exact law_lcut_none w l v vm bs ms cut d hb hm h1 h2 hd0 (by omega) hR.symm q1
end Go.Proofs.Ytnckmaieghlpmaa
