/-
  The walk of horologelaw18.UdpPuts.
-/
import Derived.Test.YtnckmaieghlpmaaUrput
import Derived.Test.YtnckmaieghlpmaaKnown18
namespace Go.Proofs.Ytnckmaieghlpmaa
open Go.RowKit
set_option linter.unusedVariables false

/-- what Put of either text returns, whatever the ends -/
def PutAny (w : World) (k : Nat) (Y : List UInt8) (e : Ending) (w' : World) : Prop :=
  ∃ a c, e = .returned (.tuple #[.slice a Y.length c, .int .i64 k]) ∧ Bs w' (.slice a Y.length c) Y ∧ Below w.heap.size w w'
def putErr (s t : Bool) : Nat := if s = t then 0 else 2
def putBytes (s t : Bool) (A B : List UInt8) (sp dp : Nat) (bs : List UInt8) : List UInt8 := if s = t then udpB s A B sp dp bs else []
theorem putAny_no {w : World} {k : Nat} {e : Ending} {w' : World} (h : PutErr w k e w') : PutAny w k [] e w' :=
  ⟨none, 0, h.1, ⟨none, 0, rfl, Nat.le_refl _, Nat.zero_le _, .inl rfl⟩, h.2⟩
theorem putAny_yes {w : World} {X : List UInt8} {e : Ending} {w' : World} (h : PutRet w (· = X) e w') : PutAny w 0 X e w' := by
  obtain ⟨Y, a, c, he, hY, ho, hb, _, _⟩ := h
  have hY' : Y = X := hY
  subst hY'
  exact ⟨a, c, he, ho.bs, hb⟩
theorem uput_any (w : World) (s t : Bool) (A B : List UInt8) (sp dp : Nat) (v : Value) (bs : List UInt8) (hA : A.length = 16) (hB : B.length = 16) (hb : Bs w v bs) (hl : bs.length ≤ 300) (hsp : sp < 65536) (hdp : dp < 65536) :
    Calls Try.prog 40 #[.agg (endC s A sp), .agg (endC t B dp), v] w (PutAny w (putErr s t) (putBytes s t A B sp dp bs)) := by
  unfold putErr putBytes
  by_cases h : s = t
  · subst h
    rw [if_pos rfl, if_pos rfl]
    exact (uput_yes w s A B sp dp v bs hA hB hb hl hsp hdp).mono fun _ _ h => putAny_yes h
  · rw [if_neg h, if_neg h]
    exact (uput_no w s t A B sp dp v bs hA hB hb hl h).mono fun _ _ h => putAny_no h
theorem urput_any (w : World) (s t : Bool) (A B : List UInt8) (sp dp : Nat) (v : Value) (bs : List UInt8) (hA : A.length = 16) (hB : B.length = 16) (hb : Bs w v bs) (hl : bs.length ≤ 300) (hsp : sp < 65536) (hdp : dp < 65536) :
    Calls Try.prog 41 #[.agg (endC s A sp), .agg (endC t B dp), v] w (PutAny w (putErr s t) (putBytes s t A B sp dp bs)) := by
  unfold putErr putBytes
  by_cases h : s = t
  · subst h
    rw [if_pos rfl, if_pos rfl]
    exact (urput_yes w s A B sp dp v bs hA hB hb hl hsp hdp).mono fun _ _ h => putAny_yes h
  · rw [if_neg h, if_neg h]
    exact (urput_no w s t A B sp dp v bs hA hB hb hl h).mono fun _ _ h => putAny_no h

/-- both ends in their blocks, whole, and the data -/
def EndsSt (w wr : World) (s t : Bool) (A B : List UInt8) (sp dp : Nat) (v : Value) (bs : List UInt8) : Prop :=
  Below w.heap.size w wr ∧ EndAt wr w.heap.size s A sp ∧ EndAt wr (w.heap.size + 1) t B dp ∧ Bs wr v bs
theorem EndsSt.below {w wr w' : World} {s t : Bool} {A B : List UInt8} {sp dp : Nat} {v : Value} {bs : List UInt8} (h : EndsSt w wr s t A B sp dp v bs) (hb : Below wr.heap.size wr w') : EndsSt w w' s t A B sp dp v bs :=
  ⟨h.1.trans (hb.mono h.1.size), h.2.1.below hb, h.2.2.1.below hb, h.2.2.2.below hb⟩
theorem endsSt_new (w : World) (s t : Bool) (A B : List UInt8) (sp dp : Nat) (v : Value) (bs : List UInt8) (hb : Bs w v bs) :
    EndsSt w ((w.alloc (.cells (endC s A sp) 61)).alloc (.cells (endC t B dp) 61)) s t A B sp dp v bs := by
  refine ⟨((Below.refl _ _).alloc (Nat.le_refl _) _).alloc (by simp) _, (endAt_new w s A sp).below (below_alloc _ _), ?_, (hb.alloc _).alloc _⟩
  have := endAt_new (w.alloc (.cells (endC s A sp) 61)) t B dp
  rw [size_alloc] at this; exact this

set_option maxRecDepth 100000 in
set_option maxHeartbeats 1000000 in
theorem law_uputs_great (w : World) (s t : Bool) (A B : List UInt8) (sp dp : Nat) (v : Value) (bs : List UInt8) (hb : Bs w v bs) (hl : 300 < bs.length) :
    Calls Try.prog 8 #[.agg (endC s A sp), .agg (endC t B dp), v] w fun e w' => e = .returned (.bool true) ∧ Below w.heap.size w w' := by
  obtain ⟨a, c, rfl, hl1, hl2, hat⟩ := hb
  clear hat
  unfold maxLen at hl2
  have hl3 : (300 : Int) < (bs.length : Int) := by omega
  have HE : Hid (Below w.heap.size w ((w.alloc (.cells (endC s A sp) 61)).alloc (.cells (endC t B dp) 61))) := ((Below.refl _ _).alloc (Nat.le_refl _) _).alloc (by simp) _
  go_enter Try.func8, Try.ntmps8
  go_wp2_with fail
  refine (known18 _).mono ?_; rintro e w1 ⟨rfl, hb1⟩
  have HE1 := Lib.hid (HE.out.trans (hb1.mono HE.out.size))
  clear hb1 HE
  go_wp2_with fail
  go_ret
  exact ⟨rfl, HE1.out⟩

set_option maxRecDepth 100000 in
set_option maxHeartbeats 1000000 in
theorem law_uputs (w : World) (s t : Bool) (A B : List UInt8) (sp dp : Nat) (v : Value) (bs : List UInt8) (hA : A.length = 16) (hB : B.length = 16) (hb : Bs w v bs) (hl : bs.length ≤ 300) (hsp : sp < 65536) (hdp : dp < 65536) :
    Calls Try.prog 8 #[.agg (endC s A sp), .agg (endC t B dp), v] w fun e w' => e = .returned (.bool true) ∧ Below w.heap.size w w' := by
  have HS : Hid (EndsSt w _ s t A B sp dp v bs) := endsSt_new w s t A B sp dp v bs hb
  obtain ⟨a, c, rfl, hl1, hl2, hat⟩ := hb
  clear hat
  unfold maxLen at hl2
  have hl3 : ¬ (300 : Int) < (bs.length : Int) := by omega
  have HA := Lib.hid hA
  have HB := Lib.hid hB
  obtain ⟨K, hK⟩ : ∃ K, K = putErr s t := ⟨_, rfl⟩
  obtain ⟨X, hX⟩ : ∃ X, X = putBytes s t A B sp dp bs := ⟨_, rfl⟩
  have HK := Lib.hid hK
  have HX := Lib.hid hX
  clear hA hB hK hX
  go_enter Try.func8, Try.ntmps8
  go_wp2_with fail
  refine (known18 _).mono ?_; rintro e w1 ⟨rfl, hb1⟩
  have HS1 : Hid (EndsSt w w1 s t A B sp dp (.slice a bs.length c) bs) := HS.out.below hb1
  clear hb1 HS
  go_wp2_with (first | ((with_reducible refine wpList_load61 w.heap.size s A sp ?_ ?_ ?_ ?_); rfl; exact HS1.out.2.1; exact HA.out) | ((with_reducible refine wpList_load61 (w.heap.size + 1) t B dp ?_ ?_ ?_ ?_); rfl; exact HS1.out.2.2.1; exact HB.out))
  refine (uput_any _ s t A B sp dp _ bs HA.out HB.out HS1.out.2.2.2 hl hsp hdp).mono ?_
  rw [← HK.out, ← HX.out]
  rintro e w2 ⟨a2, c2, rfl, hb2, hbel2⟩
  have HS2 : Hid (EndsSt w w2 s t A B sp dp (.slice a bs.length c) bs) := HS1.out.below hbel2
  have HX2 := Lib.hid hb2
  clear hbel2 HS1 hb2
  go_wp2_with (first | ((with_reducible refine wpList_load61 w.heap.size s A sp ?_ ?_ ?_ ?_); rfl; exact HS2.out.2.1; exact HA.out) | ((with_reducible refine wpList_load61 (w.heap.size + 1) t B dp ?_ ?_ ?_ ?_); rfl; exact HS2.out.2.2.1; exact HB.out))
  refine (urput_any _ s t A B sp dp _ bs HA.out HB.out HS2.out.2.2.2 hl hsp hdp).mono ?_
  rw [← HK.out, ← HX.out]
  rintro e w3 ⟨a3, c3, rfl, hb3, hbel3⟩
  have HS3 : Hid (Below w.heap.size w w3) := HS2.out.1.trans (hbel3.mono HS2.out.1.size)
  obtain ⟨S, hS⟩ : ∃ S, S = mkS X := ⟨_, rfl⟩
  have hk1 : (convert 24 9 (.slice a2 X.length c2)).run Try.prog w3 = .ok (.string S) w3 := hS ▸ conv_bs (HX2.out.below hbel3)
  have hk2 : (convert 24 9 (.slice a3 X.length c3)).run Try.prog w3 = .ok (.string S) w3 := hS ▸ conv_bs hb3
  clear hb3 hbel3 HS2 hS HX2
  go_wp2_with fail
  go_ret
  exact ⟨rfl, HS3.out⟩

theorem law_uputs' (w : World) (s t : Bool) (A B : List UInt8) (sp dp : Nat) (v : Value) (hA : A.length = 16) (hB : B.length = 16) (hsp : sp < 65536) (hdp : dp < 65536) (hb : ∃ bs, Bs w v bs) :
    Calls Try.prog 8 #[.agg (endC s A sp), .agg (endC t B dp), v] w fun e w' => e = .returned (.bool true) ∧ Below w.heap.size w w' := by
  obtain ⟨bs, hb⟩ := hb
  by_cases hl : bs.length ≤ 300
  · exact law_uputs w s t A B sp dp v bs hA hB hb hl hsp hdp
  · exact law_uputs_great w s t A B sp dp v bs hb (by omega)
end Go.Proofs.Ytnckmaieghlpmaa
