/-
  The walk of horologelaw14.LinkBack.
-/
import Derived.Test.YtnckmaieghlpmaaKnown14
import Derived.Test.YtnckmaieghlpmaaLkmath
import Derived.Test.YtnckmaieghlpmaaOwn16
import Derived.Test.YtnckmaieghlpmaaLawLputs
namespace Go.Proofs.Ytnckmaieghlpmaa
open Go.RowKit
set_option linter.unusedVariables false

def verOf (six : Bool) : Nat := if six then 6 else 4
theorem verOf_cases (six : Bool) : verOf six = 4 ∨ verOf six = 6 := by cases six; exact .inl rfl; exact .inr rfl

set_option maxRecDepth 100000 in
set_option maxHeartbeats 1000000 in
theorem law_lback_great (w : World) (l : Nat) (six : Bool) (vt vb : Value) (ts : List Nat) (bs : List UInt8) (ht : Ns w vt ts) (hb : Bs w vb bs) (h : 300 < bs.length ∨ 2 < ts.length) :
    Calls Try.prog 14 #[.int .u16 l, .bool six, vt, vb] w fun e w' => e = .returned (.bool true) ∧ Below w.heap.size w w' := by
  obtain ⟨at', ct, rfl, htl, htm, htn, htb⟩ := ht
  obtain ⟨a, c, rfl, hl1, hl2, hat⟩ := hb
  clear hat htn htb
  unfold maxLen at hl2 htm
  have hh : (300 : Int) < (bs.length : Int) ∨ ¬ (300 : Int) < (bs.length : Int) ∧ (2 : Int) < (ts.length : Int) := by omega
  clear h
  rcases hh with h1 | ⟨h1, h2⟩
  all_goals
    go_enter Try.func14, Try.ntmps14
    go_wp2_with fail
    refine (known14 _).mono ?_; rintro e w1 ⟨rfl, hb1⟩
    have HL1 := Lib.hid hb1
    clear hb1
    go_wp2_with fail
    go_ret
    exact ⟨rfl, HL1.out⟩

set_option maxRecDepth 100000 in
set_option maxHeartbeats 1000000 in
/-- nothing is put -/
theorem law_lback_no (w : World) (l : Nat) (six : Bool) (vt vb : Value) (ts : List Nat) (bs : List UInt8) (k : Nat) (ht : Ns w vt ts) (hb : Bs w vb bs) (h1 : bs.length ≤ 300) (h2 : ts.length ≤ 2)
    (hl : l ≠ 1) (hk0 : k ≠ 0) (hk3 : k ≤ 3) (hX : lkPut l (verOf six : Int) ts bs = ([], k)) :
    Calls Try.prog 14 #[.int .u16 l, .bool six, vt, vb] w fun e w' => e = .returned (.bool true) ∧ Below w.heap.size w w' := by
  have HB := Lib.hid hb
  have HT := Lib.hid ht
  obtain ⟨at', ct, rfl, htl, htm, htn, htb⟩ := ht
  obtain ⟨a, c, rfl, hl1, hl2, hat⟩ := hb
  clear hat htn htb
  unfold maxLen at hl2 htm
  have h1' : ¬ (300 : Int) < (bs.length : Int) := by omega
  have h2' : ¬ (2 : Int) < (ts.length : Int) := by omega
  have b1 : ((l : Int) != 1) = true := ne_of_neb (by omega)
  have b2 : ((k : Int) != 0) = true := ne_of_neb (by omega)
  have HC := Lib.hid (fun W hT hW => lput_any W l (verOf six) (.slice at' ts.length ct) (.slice a bs.length c) ts bs hT hW (by omega))
  rw [hX] at HC
  clear hX hl hk0 h1 h2
  cases six
  all_goals
    go_enter Try.func14, Try.ntmps14
    go_wp2_with fail
    refine (known14 _).mono ?_; rintro e w1 ⟨rfl, hb1⟩
    have HL1 := Lib.hid hb1
    have HB1 : Hid (Bs w1 (.slice a bs.length c) bs) := Lib.hid (HB.out.below hb1)
    have HT1 : Hid (Ns w1 (.slice at' ts.length ct) ts) := Lib.hid (HT.out.below hb1)
    clear hb1
    go_wp2_with fail
    refine (HC.out _ HT1.out HB1.out).mono ?_
    rintro e w2 ⟨a2, c2, rfl, hb2, bel2⟩
    have HL2 : Hid (Below w.heap.size w w2) := Lib.hid (HL1.out.trans (bel2.mono HL1.out.size))
    clear hb2 bel2
    go_wp2_with fail
    go_ret
    exact ⟨rfl, HL2.out⟩

set_option maxRecDepth 100000 in
set_option maxHeartbeats 1000000 in
/-- another link -/
theorem law_lback_other (w : World) (l : Nat) (six : Bool) (vt vb : Value) (ts : List Nat) (bs X : List UInt8) (ht : Ns w vt ts) (hb : Bs w vb bs) (h1 : bs.length ≤ 300) (h2 : ts.length ≤ 2)
    (hl : l ≠ 1) (hX : lkPut l (verOf six : Int) ts bs = (X, 0)) :
    Calls Try.prog 14 #[.int .u16 l, .bool six, vt, vb] w fun e w' => e = .returned (.bool true) ∧ Below w.heap.size w w' := by
  have HB := Lib.hid hb
  have HT := Lib.hid ht
  obtain ⟨at', ct, rfl, htl, htm, htn, htb⟩ := ht
  obtain ⟨a, c, rfl, hl1, hl2, hat⟩ := hb
  clear hat htn htb
  unfold maxLen at hl2 htm
  have h1' : ¬ (300 : Int) < (bs.length : Int) := by omega
  have h2' : ¬ (2 : Int) < (ts.length : Int) := by omega
  have b1 : ((l : Int) != 1) = true := ne_of_neb (by omega)
  have h0 := put_noether l _ ts bs X hl hX
  have hO := back_link l (verOf six) ts bs X (verOf_cases six) hX
  have HC := Lib.hid (fun W hT hW => lput_any W l (verOf six) (.slice at' ts.length ct) (.slice a bs.length c) ts bs hT hW (by omega))
  rw [hX] at HC
  have HO := Lib.hid (fun W v hW => lopen_any W l v X hW)
  rw [hO] at HO
  have b3 : ((ts.length : Int) == 0) = true := by rw [beq_iff_eq]; omega
  obtain ⟨S, hS⟩ : ∃ S, S = mkS bs := ⟨_, rfl⟩
  have HS := Lib.hid hS
  clear hX hl h1 h2 h0 hO hS
  cases six
  all_goals
    go_enter Try.func14, Try.ntmps14
    go_wp2_with fail
    refine (known14 _).mono ?_; rintro e w1 ⟨rfl, hb1⟩
    have HL1 := Lib.hid hb1
    have HB1 : Hid (Bs w1 (.slice a bs.length c) bs) := Lib.hid (HB.out.below hb1)
    have HT1 : Hid (Ns w1 (.slice at' ts.length ct) ts) := Lib.hid (HT.out.below hb1)
    clear hb1
    go_wp2_with fail
    refine (HC.out _ HT1.out HB1.out).mono ?_
    rintro e w2 ⟨a2, c2, rfl, hb2, bel2⟩
    have HX2 := Lib.hid hb2
    have HB2 : Hid (Bs w2 (.slice a bs.length c) bs) := Lib.hid (HB1.out.below bel2)
    have HL2 : Hid (Below w.heap.size w w2) := Lib.hid (HL1.out.trans (bel2.mono HL1.out.size))
    clear hb2 bel2
    go_wp2_with fail
    refine (HO.out _ _ HX2.out).mono ?_
    rintro e w3 ⟨a3, rfl, hb3, bel3⟩
    have HL3 : Hid (Below w.heap.size w w3) := Lib.hid (HL2.out.trans (bel3.mono HL2.out.size))
    have hk1 : (convert 24 9 (.slice a3 bs.length bs.length)).run Try.prog w3 = .ok (.string S) w3 := HS.out ▸ conv_bs hb3
    have hk2 : (convert 24 9 (.slice a bs.length c)).run Try.prog w3 = .ok (.string S) w3 := HS.out ▸ conv_bs (HB2.out.below bel3)
    clear hb3 bel3
    go_wp2_with fail
    go_ret
    exact ⟨rfl, HL3.out⟩
set_option maxRecDepth 100000 in
set_option maxHeartbeats 2000000 in
/-- Ethernet -/
theorem law_lback_ether (w : World) (six : Bool) (vt vb : Value) (ts : List Nat) (bs : List UInt8) (ht : Ns w vt ts) (hb : Bs w vb bs) (h1 : bs.length ≤ 300) (h2 : ts.length ≤ 2) :
    Calls Try.prog 14 #[.int .u16 1, .bool six, vt, vb] w fun e w' => e = .returned (.bool true) ∧ Below w.heap.size w w' := by
  have HB := Lib.hid hb
  have HT := Lib.hid ht
  obtain ⟨at', ct, rfl, htl, htm, htn, htb⟩ := ht
  obtain ⟨a, c, rfl, hl1, hl2, hat⟩ := hb
  have HTB := Lib.hid htb
  clear hat htn htb
  unfold maxLen at hl2 htm
  have h1' : ¬ (300 : Int) < (bs.length : Int) := by omega
  have h2' : ¬ (2 : Int) < (ts.length : Int) := by omega
  have hX := put_ether (verOf six) ts bs (verOf_cases six) h2
  obtain ⟨X, hX0⟩ : ∃ X, X = lkFrame 1 (verOf six : Int) ts bs := ⟨_, rfl⟩
  have hXl : X.length = 14 + 4 * ts.length + bs.length := by rw [hX0, frame_len]
  rw [← hX0] at hX
  have hO := back_link 1 (verOf six) ts bs X (verOf_cases six) hX
  have HC := Lib.hid (fun W hT hW => lput_any W 1 (verOf six) (.slice at' ts.length ct) (.slice a bs.length c) ts bs hT hW (by omega))
  rw [hX] at HC
  have HC2 := Lib.hid (fun W v (us : List Nat) (hu : 2 < us.length) hT hW => lput_long W (verOf six) v (.slice a bs.length c) us bs (by have := verOf_cases six; omega) hu hT hW)
  have HO := Lib.hid (fun W v hW => lopen_any W 1 v X hW)
  rw [hO] at HO
  obtain ⟨S, hS⟩ : ∃ S, S = mkS bs := ⟨_, rfl⟩
  have HS := Lib.hid hS
  have HXL := Lib.hid hXl
  have b9 : (X.length : Int) = 14 + 4 * (ts.length : Int) + (bs.length : Int) := by omega
  have HB9 := Lib.hid b9
  clear hX hX0 hO hS hXl b9
  cases six
  all_goals
    go_enter Try.func14, Try.ntmps14
    go_wp2_with fail
    refine (known14 _).mono ?_; rintro e w1 ⟨rfl, hb1⟩
    have HL1 := Lib.hid hb1
    have HB1 : Hid (Bs w1 (.slice a bs.length c) bs) := Lib.hid (HB.out.below hb1)
    have HT1 : Hid (Ns w1 (.slice at' ts.length ct) ts) := Lib.hid (HT.out.below hb1)
    clear hb1
    go_wp2_with fail
    refine (HC.out _ HT1.out HB1.out).mono ?_
    rintro e w2 ⟨a2, c2, rfl, hb2, bel2⟩
    have HX2 := Lib.hid hb2
    have HB2 : Hid (Bs w2 (.slice a bs.length c) bs) := Lib.hid (HB1.out.below bel2)
    have HT2 : Hid (Ns w2 (.slice at' ts.length ct) ts) := Lib.hid (HT1.out.below bel2)
    have HL2 : Hid (Below w.heap.size w w2) := Lib.hid (HL1.out.trans (bel2.mono HL1.out.size))
    clear hb2 bel2
    go_wp2_with fail
    refine (HO.out _ _ HX2.out).mono ?_
    rintro e w3 ⟨a3, rfl, hb3, bel3⟩
    have HL3 : Hid (Below w.heap.size w w3) := Lib.hid (HL2.out.trans (bel3.mono HL2.out.size))
    have HB3 : Hid (Bs w3 (.slice a bs.length c) bs) := Lib.hid (HB2.out.below bel3)
    have HT3 : Hid (Ns w3 (.slice at' ts.length ct) ts) := Lib.hid (HT2.out.below bel3)
    have hk1 : (convert 24 9 (.slice a3 bs.length bs.length)).run Try.prog w3 = .ok (.string S) w3 := HS.out ▸ conv_bs hb3
    have hk2 : (convert 24 9 (.slice a bs.length c)).run Try.prog w3 = .ok (.string S) w3 := HS.out ▸ conv_bs HB3.out
    have tok1 : True := trivial
    have tok2 : True := trivial
    clear hb3 bel3 HX2 HB2 HT2 HB1 HT1
    go_wp2_with (first
      | (at_builtin; have _t := tok1; refine wpList_appH rfl _ _ rfl w3.heap.size _ [] rfl (ownH_lit w3 [] _ _ rfl (Nat.le_refl _) (Nat.zero_le _)) _ ts rfl (HT3.out.below (below_alloc _ _)) (by simp; omega) (by simp) ?_; intro a4 c4 w4 O4 L4 hc4; have HO4 : Hid (OwnH w4 w3.heap.size (.slice a4 ts.length c4) ts) := Lib.hid (by simpa using O4); have HL4 : Hid (Below w3.heap.size w3 w4) := Lib.hid ((below_alloc _ _).trans L4); clear tok1 O4 L4)
      | (at_builtin; have _t := tok2; refine wpList_appH rfl _ _ rfl w3.heap.size _ ts rfl (HO4.out.alloc _) _ [1, 2, 3] rfl (ns_new w4 [1, 2, 3] _ 25 _ rfl (by decide) (by decide)) (by simp; omega) (by have := HL4.out.size; simp; omega) ?_; intro a5 c5 w5 O5 L5 hc5; have HO5 : Hid (OwnH w5 w3.heap.size (.slice a5 (ts.length + 3) c5) (ts ++ [1, 2, 3])) := Lib.hid (by simpa using O5); have HL5 : Hid (Below w3.heap.size w3 w5) := Lib.hid (HL4.out.trans (((Below.refl _ _).alloc HL4.out.size _).trans L5)); clear tok2 O5 L5)
      | fail)
    have HTS : Hid (Ns w5 (.slice a5 (ts.length + 3) c5) (ts ++ [1, 2, 3])) := Lib.hid (HO5.out.ns (fun t ht => by
      rcases List.mem_append.1 ht with h | h
      · exact HTB.out t h
      · simp at h; omega))
    have HBL5 : Hid (Below w.heap.size w w5) := Lib.hid (HL3.out.trans (HL5.out.mono HL3.out.size))
    clear HO5 HO4 HL4
    refine (HC2.out _ _ (ts ++ [1, 2, 3]) (by simp) HTS.out (HB3.out.below HL5.out)).mono ?_
    rintro e w6 ⟨a6, c6, rfl, hb6, bel6⟩
    have HL6 : Hid (Below w.heap.size w w6) := Lib.hid (HBL5.out.trans (bel6.mono HBL5.out.size))
    have b9 := HB9.out
    clear hb6 bel6
    go_wp2_with fail
    go_ret
    exact ⟨rfl, HL6.out⟩

theorem law_lback' (w : World) (l : Int) (six : Bool) (vt vb : Value) (F : (Lit.int .u16 l).wf = true) (ht : ∃ a c zs, vt = .slice a zs.length c ∧ zs.length ≤ c ∧ c ≤ maxLen ∧ NumsAt w .u16 a zs ∧ ∀ z ∈ zs, (Lit.int .u16 z).wf = true) (hb : ∃ bs, Bs w vb bs) :
    Calls Try.prog 14 #[.int .u16 l, .bool six, vt, vb] w fun e w' => e = .returned (.bool true) ∧ Below w.heap.size w w' := by
  obtain ⟨l, rfl, _⟩ := u16_nat F
  obtain ⟨ts, ht⟩ := ns_of ht
  obtain ⟨bs, hb⟩ := hb
  by_cases h : 300 < bs.length ∨ 2 < ts.length
  · exact law_lback_great w l six vt vb ts bs ht hb h
  · have h1 : bs.length ≤ 300 := by omega
    have h2 : ts.length ≤ 2 := by omega
    by_cases hl : l = 1
    · subst hl; exact law_lback_ether w six vt vb ts bs ht hb h1 h2
    · obtain ⟨R, hR⟩ : ∃ R, R = lkPut l (verOf six : Int) ts bs := ⟨_, rfl⟩
      obtain ⟨X, k⟩ := R
      have hs := put_small l (verOf six : Int) ts bs
      rw [← hR] at hs
      obtain ⟨hk3, hk0⟩ := hs
      by_cases hk : k = 0
      · subst hk
        exact law_lback_other w l six vt vb ts bs X ht hb h1 h2 hl hR.symm
      · obtain rfl : X = [] := hk0 hk
        exact law_lback_no w l six vt vb ts bs k ht hb h1 h2 hl hk hk3 hR.symm
end Go.Proofs.Ytnckmaieghlpmaa
