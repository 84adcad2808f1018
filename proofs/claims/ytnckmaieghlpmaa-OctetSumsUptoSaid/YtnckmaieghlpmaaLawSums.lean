/-
  The walk of horologelaw07.OctetSums.
-/
import Derived.Test.YtnckmaieghlpmaaKnown7
import Derived.Test.YtnckmaieghlpmaaOwn
namespace Go.Proofs.Ytnckmaieghlpmaa
open Go.RowKit
set_option linter.unusedVariables false

set_option maxHeartbeats 400000 in
theorem law_sums (w : World) (a : Option Addr) (c : Nat) (L : List (List UInt8)) (hL : L.length ≤ 1048576) (hf : L.flatten.length ≤ 1048576) (h : Rows2 w a L) :
    Calls Try.prog 3 #[.slice a L.length c] w fun e w' => e = .returned (.bool true) ∧ Below w.heap.size w w' := by
  obtain ⟨B, hB⟩ : ∃ B, B = w.heap.size := ⟨_, rfl⟩
  rw [← hB]
  have HBE := Lib.hid hB
  clear hB
  have H := Lib.hid h
  clear h
  go_enter Try.func3, Try.ntmps3
  go_wp2_with (go_at_call 23; refine (known7 _).mono ?_; rintro e w1 ⟨rfl, hb1⟩; rw [← HBE.out] at hb1; have HB1 := Lib.hid hb1; clear hb1)
  go_loopw [3, 10] (fun v i wr => ∃ k : Nat, k ≤ L.length ∧ i = .int .i64 k ∧ Own wr B v (upTo L k) ∧ Hid (Below B w wr)) (fun _ i _ => L.length - (intOf i).toNat)
  case atStart => exact ⟨0, Nat.zero_le _, rfl, own_nil _ _, HB1⟩
  case round =>
    obtain ⟨k, hk, rfl, hown, HBR⟩ := hrel
    have HO := Lib.hid hown
    clear hown
    have HR : Hid (Rows2 wr a L) := H.out.below (by have h := HBR.out; rw [HBE.out] at h; exact h)
    by_cases hlt : k < L.length
    · obtain ⟨b, o, rfl, hc⟩ : ∃ b o, a = some ⟨b, o, none⟩ ∧ ∀ (i : Nat) bs, L[i]? = some bs → ∃ v, wr.cell? ⟨b, o + i, none⟩ = some v ∧ Bs wr v bs := by
        rcases HR.out with h | h
        · simp [h] at hlt
        · exact h
      obtain ⟨bs, hbs⟩ : ∃ bs, L[k]? = some bs := ⟨L[k], by simp [hlt]⟩
      obtain ⟨v, hv, hvb⟩ := hc k bs hbs
      have HV := Lib.hid hvb
      have hup := upTo_succ hbs
      have hlen := upTo_len L (k + 1)
      rw [hup, List.length_append] at hlen
      have HUP := Lib.hid hup
      have HBS := Lib.hid hbs
      have hsz : B ≤ wr.heap.size := by have h := HBR.out.size; rw [← HBE.out] at h; exact h
      clear hup hc hbs hvb
      go_wp2_with (at_builtin; refine wpList_app rfl _ _ rfl B _ (upTo L k) rfl HO.out _ bs rfl HV.out (by omega) hsz ?_; intro v' w2 hown2 hbel2 _)
      go_roundw
      case rel => exact ⟨k + 1, by omega, by go_num, by rw [HUP.out]; exact hown2, HBR.out.trans hbel2⟩
      case measure => simp [intOf]; omega
    · obtain rfl : k = L.length := by omega
      rw [upTo_all] at HO
      obtain ⟨F, hF⟩ : ∃ F, F = L.flatten := ⟨_, rfl⟩
      rw [← hF] at HO hf
      have HF := Lib.hid hF
      clear hF
      obtain ⟨a1, c1, rfl, hl1, hl2, hat⟩ := HO.out.bs
      have HBs : Hid (Bs wr (.slice a1 F.length c1) F) := HO.out.bs
      clear hat hl1 hl2
      by_cases hgt : 3000 < F.length
      · go_wp2
        go_ret
        exact ⟨rfl, HBR.out⟩
      · have hgt2 : ¬ (3000 : Int) < (F.length : Int) := by omega
        go_wp2_with (first | (go_at_call 24; refine (sum_any _ a c L (by omega) (by rw [← HF.out]; omega) HR.out).mono ?_; rintro e w2 ⟨rfl, rfl⟩; rw [← HF.out]) | (go_at_call 25; refine (rsum_any _ _ F (by omega) HBs.out).mono ?_; rintro e w2 ⟨rfl, rfl⟩))
        go_ret
        exact ⟨rfl, HBR.out⟩
/-- the same, as the argument's opening gives its facts -/
theorem law_sums' (w : World) (v : Value) {n : Nat} (hn : n ≤ 1048576) (F : ∃ a L c, v = .slice a L.length c ∧ L.length ≤ c ∧ c ≤ maxLen ∧ Rows2 w a L ∧ L.length ≤ n ∧ L.flatten.length ≤ n) :
    Calls Try.prog 3 #[v] w fun e w' => e = .returned (.bool true) ∧ Below w.heap.size w w' := by
  obtain ⟨a, L, c, rfl, _, _, h, h1, h2⟩ := F
  exact law_sums w a c L (by omega) (by omega) h
end Go.Proofs.Ytnckmaieghlpmaa
