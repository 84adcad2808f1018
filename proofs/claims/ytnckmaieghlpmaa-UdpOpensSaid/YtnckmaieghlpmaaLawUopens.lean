/-
  The walk of horologelaw18.UdpOpens.
-/
import Derived.Test.YtnckmaieghlpmaaUany
import Derived.Test.YtnckmaieghlpmaaKnown18
namespace Go.Proofs.Ytnckmaieghlpmaa
open Go.RowKit
set_option linter.unusedVariables false

set_option maxRecDepth 100000 in
set_option maxHeartbeats 1000000 in
theorem law_uopens_great (w : World) (s t : Bool) (A B : List UInt8) (v : Value) (bs : List UInt8) (hb : Bs w v bs) (hl : 300 < bs.length) :
    Calls Try.prog 7 #[.agg (adrC s A), .agg (adrC t B), v] w fun e w' => e = .returned (.bool true) ∧ Below w.heap.size w w' := by
  obtain ⟨a, c, rfl, hl1, hl2, hat⟩ := hb
  clear hat
  unfold maxLen at hl2
  have hl3 : (300 : Int) < (bs.length : Int) := by omega
  have HE : Hid (Below w.heap.size w ((w.alloc (.cells (adrC s A) 54)).alloc (.cells (adrC t B) 54))) := ((Below.refl _ _).alloc (Nat.le_refl _) _).alloc (by simp) _
  go_enter Try.func7, Try.ntmps7
  go_wp2_with fail
  refine (known18 _).mono ?_; rintro e w1 ⟨rfl, hb1⟩
  have HE1 := Lib.hid (HE.out.trans (hb1.mono HE.out.size))
  clear hb1 HE
  go_wp2_with fail
  go_ret
  exact ⟨rfl, HE1.out⟩

set_option maxRecDepth 100000 in
set_option maxHeartbeats 1000000 in
theorem law_uopens (w : World) (s t : Bool) (A B : List UInt8) (v : Value) (bs : List UInt8) (hA : A.length = 16) (hB : B.length = 16) (hb : Bs w v bs) (hl : bs.length ≤ 300) :
    Calls Try.prog 7 #[.agg (adrC s A), .agg (adrC t B), v] w fun e w' => e = .returned (.bool true) ∧ Below w.heap.size w w' := by
  have HS : Hid (ROpenSt w _ s t A B v bs) := rOpenSt_new w s t A B v bs hb
  obtain ⟨a, c, rfl, hl1, hl2, hat⟩ := hb
  clear hat
  unfold maxLen at hl2
  have hl3 : ¬ (300 : Int) < (bs.length : Int) := by omega
  have HA := Lib.hid hA
  have HB := Lib.hid hB
  obtain ⟨F, hF⟩ : ∃ F, F = udpFrom s t A B bs := ⟨_, rfl⟩
  obtain ⟨T, hT⟩ : ∃ T, T = udpTo s t A B bs := ⟨_, rfl⟩
  obtain ⟨D, hD⟩ : ∃ D, D = udpWhy s t A B bs := ⟨_, rfl⟩
  obtain ⟨X, hX⟩ : ∃ X, X = udpData s t A B bs := ⟨_, rfl⟩
  have hF16 : F < 65536 := hF ▸ udpFrom_lt s t A B bs
  have hT16 : T < 65536 := hT ▸ udpTo_lt s t A B bs
  have hD10 : D < 10 := hD ▸ udpWhy_lt s t A B bs
  have HF := Lib.hid hF
  have HT := Lib.hid hT
  have HD := Lib.hid hD
  have HX := Lib.hid hX
  clear hA hB hF hT hD hX
  go_enter Try.func7, Try.ntmps7
  go_wp2_with fail
  refine (known18 _).mono ?_; rintro e w1 ⟨rfl, hb1⟩
  have HS1 : Hid (ROpenSt w w1 s t A B (.slice a bs.length c) bs) := HS.out.below hb1
  clear hb1 HS
  go_wp2_with (first | ((with_reducible refine wpList_load54 w.heap.size 0 s A ?_ ?_ ?_ ?_); rfl; exact HS1.out.2.1; exact HA.out) | ((with_reducible refine wpList_load54 (w.heap.size + 1) 0 t B ?_ ?_ ?_ ?_); rfl; exact HS1.out.2.2.1; exact HB.out))
  refine (open_any _ s t A B _ bs HA.out HB.out HS1.out.2.2.2.1).mono ?_
  rw [← HF.out, ← HT.out, ← HD.out, ← HX.out]
  rintro e w2 ⟨a2, rfl, hb2, hbel2⟩
  have HS2 : Hid (ROpenSt w w2 s t A B (.slice a bs.length c) bs) := HS1.out.below hbel2
  have HX2 := Lib.hid hb2
  clear hbel2 HS1 hb2
  go_wp2_with (first | ((with_reducible refine wpList_load54 w.heap.size 0 s A ?_ ?_ ?_ ?_); rfl; exact HS2.out.2.1; exact HA.out) | ((with_reducible refine wpList_load54 (w.heap.size + 1) 0 t B ?_ ?_ ?_ ?_); rfl; exact HS2.out.2.2.1; exact HB.out))
  refine (ropen_any _ s t A B _ bs HA.out HB.out HS2.out.2.2.2.1).mono ?_
  rw [← HF.out, ← HT.out, ← HD.out, ← HX.out]
  rintro e w3 ⟨a3, c3, rfl, hb3, hbel3⟩
  have HS3 : Hid (Below w.heap.size w w3) := HS2.out.1.trans (hbel3.mono HS2.out.1.size)
  obtain ⟨S, hS⟩ : ∃ S, S = mkS X := ⟨_, rfl⟩
  have hk1 : (convert 24 9 (.slice a2 X.length X.length)).run Try.prog w3 = .ok (.string S) w3 := hS ▸ conv_bs (HX2.out.below hbel3)
  have hk2 : (convert 24 9 (.slice a3 X.length c3)).run Try.prog w3 = .ok (.string S) w3 := hS ▸ conv_bs hb3
  have hx63 : X.length ≤ 9223372036854775807 := by
    obtain ⟨_, _, e, h1, h2, _⟩ := hb3
    unfold maxLen at h2; omega
  clear hb3 hbel3 HS2 hS HX2
  go_wp2_with fail
  go_ret
  exact ⟨rfl, HS3.out⟩
theorem law_uopens' (w : World) (s t : Bool) (A B : List UInt8) (v : Value) (hA : A.length = 16) (hB : B.length = 16) (hb : ∃ bs, Bs w v bs) :
    Calls Try.prog 7 #[.agg (adrC s A), .agg (adrC t B), v] w fun e w' => e = .returned (.bool true) ∧ Below w.heap.size w w' := by
  obtain ⟨bs, hb⟩ := hb
  by_cases hl : bs.length ≤ 300
  · exact law_uopens w s t A B v bs hA hB hb hl
  · exact law_uopens_great w s t A B v bs hb (by omega)
end Go.Proofs.Ytnckmaieghlpmaa
