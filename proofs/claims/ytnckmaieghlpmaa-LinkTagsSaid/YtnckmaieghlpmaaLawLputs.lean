/-
  The walk of horologelaw14.LinkPuts.
-/
import Derived.Test.YtnckmaieghlpmaaKnown14
import Derived.Test.YtnckmaieghlpmaaLrput2
import Derived.Test.YtnckmaieghlpmaaLawLopens
namespace Go.Proofs.Ytnckmaieghlpmaa
open Go.RowKit
set_option linter.unusedVariables false

set_option maxHeartbeats 1000000 in
theorem law_lputs (w : World) (l : Nat) (v : Int) (vt vb : Value) (ts : List Nat) (bs : List UInt8) (ht : Ns w vt ts) (hb : Bs w vb bs) :
    Calls Try.prog 13 #[.int .u16 l, .int .i64 v, vt, vb] w fun e w' => e = .returned (.bool true) ∧ Below w.heap.size w w' := by
  have HB := Lib.hid hb
  have HT := Lib.hid ht
  obtain ⟨at', ct, rfl, htl, htm, htn, htb⟩ := ht
  obtain ⟨a, c, rfl, hl1, hl2, hat⟩ := hb
  clear hat htn htb
  unfold maxLen at hl2 htm
  by_cases h : (20 : Int) < (ts.length : Int) ∨ (300 : Int) < (bs.length : Int)
  · have hh : (20 : Int) < (ts.length : Int) ∨ ¬ (20 : Int) < (ts.length : Int) ∧ (300 : Int) < (bs.length : Int) := by omega
    clear h
    rcases hh with h1 | ⟨h1, h2⟩
    all_goals
      go_enter Try.func13, Try.ntmps13
      go_wp2_with fail
      refine (known14 _).mono ?_; rintro e w1 ⟨rfl, hb1⟩
      have HL1 := Lib.hid hb1
      clear hb1
      go_wp2_with fail
      go_ret
      exact ⟨rfl, HL1.out⟩
  · have h1 : ¬ (20 : Int) < (ts.length : Int) := by omega
    have h2 : ¬ (300 : Int) < (bs.length : Int) := by omega
    clear h
    obtain ⟨R, hR⟩ : ∃ R, R = lkPut l v ts bs := ⟨_, rfl⟩
    obtain ⟨xs, d⟩ := R
    have HO := Lib.hid (fun W hT hW => lput_any W l v (.slice at' ts.length ct) (.slice a bs.length c) ts bs hT hW (by omega))
    have HRO := Lib.hid (fun W hT hW => lrput_any W l v (.slice at' ts.length ct) (.slice a bs.length c) ts bs hT hW (by omega))
    rw [← hR] at HO HRO
    have hd : d ≤ 3 := by
      have : (lkPut l v ts bs).2 ≤ 3 := by unfold lkPut; split <;> (try split) <;> (try split) <;> (try split) <;> (try split) <;> simp
      rw [← hR] at this; exact this
    have hd2 : IntKind.i64.wrap (d : Int) = (d : Int) := IntWalk.i64_in _ (by omega)
    clear hR
    go_enter Try.func13, Try.ntmps13
    go_wp2_with fail
    refine (known14 _).mono ?_; rintro e w1 ⟨rfl, hb1⟩
    have HB1 : Hid (Bs w1 (.slice a bs.length c) bs) := Lib.hid (HB.out.below hb1)
    have HT1 : Hid (Ns w1 (.slice at' ts.length ct) ts) := Lib.hid (HT.out.below hb1)
    have HL1 := Lib.hid hb1
    clear hb1
    go_wp2_with fail
    refine (HO.out _ HT1.out HB1.out).mono ?_
    rintro e w2 ⟨a2, c2, rfl, hb2, bel2⟩
    have HB2 : Hid (Bs w2 (.slice a bs.length c) bs) := Lib.hid (HB1.out.below bel2)
    have HT2 : Hid (Ns w2 (.slice at' ts.length ct) ts) := Lib.hid (HT1.out.below bel2)
    have HX2 := Lib.hid hb2
    have HL2 : Hid (Below w.heap.size w w2) := Lib.hid (HL1.out.trans (bel2.mono HL1.out.size))
    clear hb2 bel2
    go_wp2_with fail
    refine (HRO.out _ HT2.out HB2.out).mono ?_
    rintro e w3 ⟨a3, c3, rfl, hb3, bel3⟩
    have HL3 : Hid (Below w.heap.size w w3) := Lib.hid (HL2.out.trans (bel3.mono HL2.out.size))
    obtain ⟨S, hS⟩ : ∃ S, S = mkS xs := ⟨_, rfl⟩
    have hk1 : (convert 24 9 (.slice a2 xs.length c2)).run Try.prog w3 = .ok (.string S) w3 := hS ▸ conv_bs (HX2.out.below bel3)
    have hk2 : (convert 24 9 (.slice a3 xs.length c3)).run Try.prog w3 = .ok (.string S) w3 := hS ▸ conv_bs hb3
    clear hb3 bel3 hS HO HRO
    go_wp2_with fail
    go_ret
    exact ⟨rfl, HL3.out⟩
theorem ns_of {w : World} {v : Value} (h : ∃ a c zs, v = .slice a zs.length c ∧ zs.length ≤ c ∧ c ≤ maxLen ∧ NumsAt w .u16 a zs ∧ ∀ z ∈ zs, (Lit.int .u16 z).wf = true) : ∃ ts, Ns w v ts := by
  obtain ⟨a, c, zs, rfl, h1, h2, h3, h4⟩ := h
  have e : (zs.map Int.toNat).map Int.ofNat = zs := by
    rw [List.map_map]
    conv => rhs; rw [← List.map_id zs]
    apply List.map_congr_left
    intro z hz
    obtain ⟨n, rfl, _⟩ := u16_nat (h4 z hz)
    rfl
  refine ⟨zs.map Int.toNat, a, c, by rw [List.length_map], by rw [List.length_map]; exact h1, h2, by rw [e]; exact h3, ?_⟩
  intro t ht
  obtain ⟨z, hz, rfl⟩ := List.mem_map.1 ht
  obtain ⟨n, rfl, hn⟩ := u16_nat (h4 z hz)
  exact hn
theorem law_lputs' (w : World) (l v : Int) (vt vb : Value) (F : (Lit.int .u16 l).wf = true) (ht : ∃ a c zs, vt = .slice a zs.length c ∧ zs.length ≤ c ∧ c ≤ maxLen ∧ NumsAt w .u16 a zs ∧ ∀ z ∈ zs, (Lit.int .u16 z).wf = true) (hb : ∃ bs, Bs w vb bs) :
    Calls Try.prog 13 #[.int .u16 l, .int .i64 v, vt, vb] w fun e w' => e = .returned (.bool true) ∧ Below w.heap.size w w' := by
  obtain ⟨n, rfl, _⟩ := u16_nat F
  obtain ⟨ts, ht⟩ := ns_of ht
  obtain ⟨bs, hb⟩ := hb
  exact law_lputs w n v vt vb ts bs ht hb
end Go.Proofs.Ytnckmaieghlpmaa
