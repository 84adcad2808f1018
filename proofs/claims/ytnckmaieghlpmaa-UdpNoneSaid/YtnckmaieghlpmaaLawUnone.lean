/-
  The walk of horologelaw18.UdpNone.
-/
import Derived.Test.YtnckmaieghlpmaaLawUputs
import Derived.Test.YtnckmaieghlpmaaUmath
namespace Go.Proofs.Ytnckmaieghlpmaa
open Go.RowKit
set_option linter.unusedVariables false

set_option maxRecDepth 100000 in
set_option maxHeartbeats 1000000 in
theorem law_unone_great (w : World) (s t : Bool) (A B : List UInt8) (sp dp : Nat) (v : Value) (bs : List UInt8) (hb : Bs w v bs) (hl : 300 < bs.length) :
    Calls Try.prog 10 #[.agg (endC s A sp), .agg (endC t B dp), v] w fun e w' => e = .returned (.bool true) ∧ Below w.heap.size w w' := by
  obtain ⟨a, c, rfl, hl1, hl2, hat⟩ := hb
  clear hat
  unfold maxLen at hl2
  have hl3 : (300 : Int) < (bs.length : Int) := by omega
  have HE : Hid (Below w.heap.size w ((w.alloc (.cells (endC s A sp) 61)).alloc (.cells (endC t B dp) 61))) := ((Below.refl _ _).alloc (Nat.le_refl _) _).alloc (by simp) _
  go_enter Try.func10, Try.ntmps10
  go_wp2_with fail
  refine (known18 _).mono ?_; rintro e w1 ⟨rfl, hb1⟩
  have HE1 := Lib.hid (HE.out.trans (hb1.mono HE.out.size))
  clear hb1 HE
  go_wp2_with fail
  go_ret
  exact ⟨rfl, HE1.out⟩

set_option maxRecDepth 100000 in
set_option maxHeartbeats 1000000 in
theorem law_unone_other (w : World) (s t : Bool) (A B : List UInt8) (sp dp : Nat) (v : Value) (bs : List UInt8) (hb : Bs w v bs) (hl : bs.length ≤ 300) (hst : s ≠ t) :
    Calls Try.prog 10 #[.agg (endC s A sp), .agg (endC t B dp), v] w fun e w' => e = .returned (.bool true) ∧ Below w.heap.size w w' := by
  have HS : Hid (EndsSt w _ s t A B sp dp v bs) := endsSt_new w s t A B sp dp v bs hb
  obtain ⟨a, c, rfl, hl1, hl2, hat⟩ := hb
  clear hat
  unfold maxLen at hl2
  have hl3 : ¬ (300 : Int) < (bs.length : Int) := by omega
  have hst1 : (s != t) = true := by simpa using hst
  have hst2 : (s == t) = false := by simpa using hst
  clear hst
  go_enter Try.func10, Try.ntmps10
  go_wp2_with fail
  refine (known18 _).mono ?_; rintro e w1 ⟨rfl, hb1⟩
  have HS1 : Hid (EndsSt w w1 s t A B sp dp (.slice a bs.length c) bs) := HS.out.below hb1
  have f1 := HS1.out.2.1.adr.flag
  have f2 := HS1.out.2.2.1.adr.flag
  clear hb1 HS
  go_wp2_with fail
  go_ret
  exact ⟨rfl, HS1.out.1⟩

set_option maxRecDepth 100000 in
set_option maxHeartbeats 2000000 in
theorem law_unone (w : World) (s : Bool) (A B : List UInt8) (sp dp : Nat) (v : Value) (bs : List UInt8) (hA : A.length = 16) (hB : B.length = 16) (hb : Bs w v bs) (hl : bs.length ≤ 300) (hsp : sp < 65536) (hdp : dp < 65536) :
    Calls Try.prog 10 #[.agg (endC s A sp), .agg (endC s B dp), v] w fun e w' => e = .returned (.bool true) ∧ Below w.heap.size w w' := by
  have HS : Hid (EndsSt w _ s s A B sp dp v bs) := endsSt_new w s s A B sp dp v bs hb
  obtain ⟨a, c, rfl, hl1, hl2, hat⟩ := hb
  clear hat
  unfold maxLen at hl2
  have hl3 : ¬ (300 : Int) < (bs.length : Int) := by omega
  have HA := Lib.hid hA
  have HB := Lib.hid hB
  clear hA hB
  go_enter Try.func10, Try.ntmps10
  go_wp2_with fail
  refine (known18 _).mono ?_; rintro e w1 ⟨rfl, hb1⟩
  have HS1 : Hid (EndsSt w w1 s s A B sp dp (.slice a bs.length c) bs) := HS.out.below hb1
  have f1 := HS1.out.2.1.adr.flag
  have f2 := HS1.out.2.2.1.adr.flag
  clear hb1 HS
  go_wp2_with (first | ((with_reducible refine wpList_load61 w.heap.size s A sp ?_ ?_ ?_ ?_); rfl; exact HS1.out.2.1; exact HA.out) | ((with_reducible refine wpList_load61 (w.heap.size + 1) s B dp ?_ ?_ ?_ ?_); rfl; exact HS1.out.2.2.1; exact HB.out))
  refine (uput_yes _ s A B sp dp _ bs HA.out HB.out HS1.out.2.2.2 hl hsp hdp).mono ?_
  rintro e w2 ⟨Y, a2, c2, rfl, hY, oY, bY, q1, q2⟩
  have HS2 : Hid (EndsSt w w2 s s A B sp dp (.slice a bs.length c) bs) := HS1.out.below bY
  obtain ⟨S, hS⟩ : ∃ S, S = udpS s A B sp dp bs := ⟨_, rfl⟩
  have hS1 : 0 < S ∧ S ≤ 65535 := hS ▸ udpS_pos s A B sp dp bs
  have hY' : Y = udpW sp dp S bs := by rw [hS]; exact Eq.trans hY (udpB_W ..)
  have hYl : Y.length = 8 + bs.length := by rw [hY', udpW_len]
  obtain ⟨gb, cap, he, hgb1, hgb2, hgb3, hgb4⟩ : ∃ gb cap, Value.slice a2 Y.length c2 = .slice (some ⟨gb, 0, none⟩) Y.length cap ∧ w1.heap.size ≤ gb ∧ gb < w2.heap.size ∧ Y.length ≤ cap ∧ cap ≤ maxLen := by
    rcases oY.shape with ⟨_, h⟩ | h
    · rw [h] at hYl; simp at hYl; omega
    · exact h
  simp only [Value.slice.injEq, true_and] at he
  obtain ⟨rfl, rfl⟩ := he
  have hat := udpW_at sp dp S bs
  rw [← hY'] at hat
  obtain ⟨hi, hhi⟩ : ∃ hi, hi = UInt8.ofNat (S / 256 % 256) := ⟨_, rfl⟩
  obtain ⟨lo, hlo⟩ : ∃ lo, lo = UInt8.ofNat (S % 256) := ⟨_, rfl⟩
  rw [← hhi, ← hlo] at hat
  have x6 := own_cell oY (j := 6) hat.1
  have x7 := own_cell oY (j := 7) hat.2
  have g6 := own_free oY 6
  have g7 := own_free oY 7
  have hhn : hi.toNat = S / 256 := by rw [hhi]; simp; omega
  have hln : lo.toNat = S % 256 := by rw [hlo]; simp
  have hnz : ((hi.toNat : Int) == 0) = false ∨ (((hi.toNat : Int) == 0) = true ∧ ((lo.toNat : Int) == 0) = false) := by
    by_cases h : hi.toNat = 0
    · right; simp [h]; omega
    · left; simp; omega
  have hset : (Y.set 6 0).set 7 0 = udpW sp dp 0 bs := by rw [hY', udpW_set]
  have hfin := own_store' (own_store' oY 6 0) 7 0
  have hlen : ((Y.set 6 0).set 7 0).length = Y.length := by simp
  rw [hlen, hset, hYl] at hfin
  have HF : Hid (Bs ((w2.setCell ⟨gb, 6, none⟩ (.int .u8 0)).setCell ⟨gb, 7, none⟩ (.int .u8 0)) (.slice (some ⟨gb, 0, none⟩) (8 + bs.length) c2) (udpW sp dp 0 bs)) := hfin.bs
  have HS3 : Hid (EndsSt w ((w2.setCell ⟨gb, 6, none⟩ (.int .u8 0)).setCell ⟨gb, 7, none⟩ (.int .u8 0)) s s A B sp dp (.slice a bs.length c) bs) := HS1.out.below ((bY.setCell (by exact hgb1) _).setCell (by exact hgb1) _)
  have i6 : (6 : Int) < (Y.length : Int) := by omega
  have i7 : (7 : Int) < (Y.length : Int) := by omega
  have i8 : ¬ (Y.length : Int) < 8 := by omega
  clear oY bY hY hY' hat hhi hlo hset hfin hlen hhn hln hS hgb2 hgb4 f1 f2 HS1 HS2
  rcases hnz with hn1 | ⟨hn1, hn2⟩
  all_goals
    go_wp2_with (first | ((with_reducible refine wpList_load54 w.heap.size 0 s A ?_ ?_ ?_ ?_); rfl; exact HS3.out.2.1.adr; exact HA.out) | ((with_reducible refine wpList_load54 (w.heap.size + 1) 0 s B ?_ ?_ ?_ ?_); rfl; exact HS3.out.2.2.1.adr; exact HB.out))
    refine (open_any _ s s A B _ (udpW sp dp 0 bs) HA.out HB.out HF.out).mono ?_
    cases s
    · obtain ⟨r1, r2, r3, r4⟩ := none_four A B sp dp bs hsp hdp hl
      rw [r1, r2, r3, r4]
      clear r1 r2 r3 r4
      rintro e w4 ⟨a4, rfl, hb4, hbel4⟩
      have HS4 : Hid (EndsSt w w4 false false A B sp dp (.slice a bs.length c) bs) := HS3.out.below hbel4
      have f1 := HS4.out.2.1.adr.flag
      have p1 := end_port HS4.out.2.1 HA.out
      have p2 := end_port HS4.out.2.2.1 HB.out
      obtain ⟨T, hT⟩ : ∃ T, T = mkS bs := ⟨_, rfl⟩
      have hk1 : (convert 24 9 (.slice a4 bs.length bs.length)).run Try.prog w4 = .ok (.string T) w4 := hT ▸ conv_bs hb4
      have hk2 : (convert 24 9 (.slice a bs.length c)).run Try.prog w4 = .ok (.string T) w4 := hT ▸ conv_bs HS4.out.2.2.2
      clear hb4 hbel4 hT HS3
      go_wp2_with fail
      go_ret
      exact ⟨rfl, HS4.out.1⟩
    · obtain ⟨r1, r2, r3, r4⟩ := none_six A B sp dp bs hsp hdp hl
      rw [r1, r2, r3, r4]
      clear r1 r2 r3 r4
      rintro e w4 ⟨a4, rfl, hb4, hbel4⟩
      have HS4 : Hid (EndsSt w w4 true true A B sp dp (.slice a bs.length c) bs) := HS3.out.below hbel4
      have f1 := HS4.out.2.1.adr.flag
      clear hb4 hbel4 HS3
      go_wp2_with fail
      go_ret
      exact ⟨rfl, HS4.out.1⟩

theorem law_unone' (w : World) (s t : Bool) (A B : List UInt8) (sp dp : Nat) (v : Value) (hA : A.length = 16) (hB : B.length = 16) (hsp : sp < 65536) (hdp : dp < 65536) (hb : ∃ bs, Bs w v bs) :
    Calls Try.prog 10 #[.agg (endC s A sp), .agg (endC t B dp), v] w fun e w' => e = .returned (.bool true) ∧ Below w.heap.size w w' := by
  obtain ⟨bs, hb⟩ := hb
  by_cases hl : bs.length ≤ 300
  · by_cases hst : s = t
    · subst hst
      exact law_unone w s A B sp dp v bs hA hB hb hl hsp hdp
    · exact law_unone_other w s t A B sp dp v bs hb hl hst
  · exact law_unone_great w s t A B sp dp v bs hb (by omega)
end Go.Proofs.Ytnckmaieghlpmaa
