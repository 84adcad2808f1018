/-
  The walks of horologeref18.number and horologeref18.ahead.
-/
import Derived.Test.YtnckmaieghlpmaaUsum
import Derived.Test.YtnckmaieghlpmaaApp
namespace Go.Proofs.Ytnckmaieghlpmaa
open Go.RowKit
set_option linter.unusedVariables false

set_option maxHeartbeats 400000 in
theorem number_any (w : World) (v : Value) (bs : List UInt8) (n : Int) (hb : Bs w v bs) :
    Calls Try.prog 60 #[v, .int .i64 n, .int .i64 2] w fun e w' => e = .returned (.int .i64 (getN false bs n 2)) ∧ w = w' := by
  have hlt : getN false bs n 2 < 65536 := getN_lt false bs n 2
  obtain ⟨N, hN⟩ : ∃ N, N = getN false bs n 2 := ⟨_, rfl⟩
  rw [← hN] at hlt ⊢
  have HN := Lib.hid hN
  have HB := Lib.hid hb
  clear hb hN
  go_enter Try.func60, Try.ntmps60
  go_wp2_with (go_at_call 27; refine (rget_any _ v bs false n 2 HB.out).mono ?_; rintro e w1 ⟨rfl, rfl⟩; rw [← HN.out])
  go_ret
  exact ⟨rfl, rfl⟩

theorem AdrAt.bs {w : World} {g : Nat} {s : Bool} {A : List UInt8} (h : AdrAt w g 0 s A) (m : Nat) (hm : m ≤ A.length) (c : Nat) (hc : m ≤ c) (hc2 : c ≤ maxLen) : Bs w (.slice (some ⟨g, 1, none⟩) m c) (A.take m) := by
  have hl : (A.take m).length = m := by rw [List.length_take]; omega
  refine ⟨_, c, by rw [hl], by rw [hl]; exact hc, hc2, ?_⟩
  rcases h.bytes with h | ⟨b, o, e, h⟩
  · left; rw [h]; simp
  · exact .inr ⟨b, o, e, fun i x hx => h i x (take_get hx)⟩
theorem AdrAt.keep {w w' : World} {B g o : Nat} {s : Bool} {A : List UInt8} (h : AdrAt w g o s A) (hb : Below B w w') (hg : g < B) : AdrAt w' g o s A := fun j v hv =>
  (hb.cell (p := ⟨g, o + j, none⟩) hg).trans (h j v hv)

set_option maxRecDepth 100000 in
set_option maxHeartbeats 1000000 in
theorem rahead4 (w : World) (t : Bool) (A B : List UInt8) (n : Nat) (hA : A.length = 16) (hB : B.length = 16) (hn : n ≤ 65535) :
    Calls Try.prog 61 #[.agg (adrC false A), .agg (adrC t B), .int .i64 n] w (OwnRet' w (· = aheadB false A B n)) := by
  have a1 : Hid (AdrAt ((w.alloc (.cells (adrC false A) 54)).alloc (.cells (adrC t B) 54)) w.heap.size 0 false A) := (adrAt_new w false A 54).below (below_alloc _ _)
  have A2 : Hid (AdrAt ((w.alloc (.cells (adrC false A) 54)).alloc (.cells (adrC t B) 54)) (w.heap.size + 1) 0 t B) := by
    have := adrAt_new (w.alloc (.cells (adrC false A) 54)) t B 54
    rw [size_alloc] at this; exact this
  have hlA : (A.take 4).length = 4 := by first | exact hA | (simp; omega)
  have hlB : (B.take 4).length = 4 := by first | exact hB | (simp; omega)
  have HB1 : Hid (Bs ((w.alloc (.cells (adrC false A) 54)).alloc (.cells (adrC t B) 54)) (.slice (some ⟨w.heap.size, 1, none⟩) 4 16) (A.take 4)) := (a1.out.bs 4 (by omega) 16 (by omega) (by decide))
  have h0 := adr_zero false A
  have HA := Lib.hid hlA
  have HB := Lib.hid hlB
  have HE : Hid (Below w.heap.size w ((w.alloc (.cells (adrC false A) 54)).alloc (.cells (adrC t B) 54))) := (below_alloc _ _).trans ((below_alloc _ _).mono (by simp))
  have HBl := Lib.hid hB
  have HX : Hid (aheadB false A B n = aheadB false A B n) := rfl
  clear hA hB hlA hlB
  have tok1 : True := trivial
  have tok2 : True := trivial
  have tok3 : True := trivial
  go_enter Try.func61, Try.ntmps61
  go_wp2_with (at_builtin; first
    | (have _t := tok1; refine wpList_app' rfl _ _ rfl (w.heap.size + 2) _ [] rfl (own_nil _ _) _ (A.take 4) rfl HB1.out (by rw [HA.out]; simp) (by simp) ?_; intro Y1 a1' c1 w1 E1 O1 L1 N1 hc1; have S1 := Lib.hid (show w.heap.size + 2 ≤ w1.heap.size by have := L1.out.size; simp at this; omega); have HB3 : Hid (Bs w1 (.slice (some ⟨w.heap.size + 1, 1, none⟩) 4 16) (B.take 4)) := ((A2.out.keep L1.out (Nat.lt_succ_self _)).bs 4 (by rw [HBl.out]; decide) 16 (by omega) (by decide)); clear tok1)
    | (have _t := tok2; refine wpList_app' rfl _ _ rfl (w.heap.size + 2) _ Y1 rfl O1.out _ (B.take 4) rfl HB3.out (by rw [HB.out, N1.out, HA.out]; simp) S1.out ?_; intro Y2 a2' c2 w2 E2 O2 L2 N2 hc2; have S2 := Lib.hid (show w.heap.size + 2 ≤ w2.heap.size from Nat.le_trans S1.out L2.out.size); have z2 : w2.cell? ⟨w.heap.size, 0, none⟩ = some (.bool false) := ((a1.out.keep L1.out (by omega)).keep L2.out (by omega)).flag; clear tok2)
    | (have _t := tok3; refine wpList_app' rfl _ _ rfl (w.heap.size + 2) _ Y2 rfl (O2.out.alloc _) _ [0, 17] rfl (bs_new w2 [0, 17] _ 5 _ rfl (by decide)) (by rw [N2.out, N1.out, HA.out, HB.out]; simp) (by rw [size_alloc]; exact Nat.le_succ_of_le S2.out) ?_; intro Y3 a3' c3 w3 E3 O3 L3 N3 hc3; have S3 := Lib.hid (show w.heap.size + 2 ≤ w3.heap.size from Nat.le_trans (Nat.le_trans S2.out (below_alloc _ _).size) L3.out.size); have L3' : Hid (Below (w.heap.size + 2) w2 w3) := ((below_alloc _ _).mono S2.out).trans L3.out; clear tok3))
  refine (rput' _ false n 2 (by omega) (by omega)).mono ?_
  rintro e w4 ⟨Y4, a4, c4, rfl, e4, o4, b4, hs4, hs5⟩
  have E4 := Lib.hid e4
  have O4 : Hid (Bs w4 (.slice a4 Y4.length c4) Y4) := o4.bs
  have O3' : Hid (Own w4 (w.heap.size + 2) (.slice a3' Y3.length c3) Y3) := O3.out.below b4
  have L4 : Hid (Below (w.heap.size + 2) w3 w4) := b4.mono S3.out
  have S4 := Lib.hid (show w.heap.size + 2 ≤ w4.heap.size from Nat.le_trans S3.out b4.size)
  have N4 := Lib.hid (show Y4.length = 2 by rw [E4.out, numB_length])
  clear e4 o4 b4
  go_wp2_with (at_builtin; refine wpList_app' rfl _ _ rfl (w.heap.size + 2) _ Y3 rfl O3'.out _ Y4 rfl O4.out (by rw [N4.out, N3.out, N2.out, N1.out, HA.out, HB.out]; simp) S4.out ?_; intro Y5 a5 c5 w5 E5 O5 L5 N5 hc5)
  go_ret
  refine ⟨Y5, a5, c5, rfl, ?_, O5.out.mono (by omega), ?_, hc5.1, hc5.2⟩
  · rw [E5.out, E4.out, E3.out, E2.out, E1.out]; simp [aheadB]
  · exact HE.out.trans (((((L1.out.trans L2.out).trans L3'.out).trans L4.out).trans L5.out).mono (by omega))
set_option maxRecDepth 100000 in
set_option maxHeartbeats 1000000 in
theorem rahead6 (w : World) (t : Bool) (A B : List UInt8) (n : Nat) (hA : A.length = 16) (hB : B.length = 16) (hn : n ≤ 65535) :
    Calls Try.prog 61 #[.agg (adrC true A), .agg (adrC t B), .int .i64 n] w (OwnRet' w (· = aheadB true A B n)) := by
  have a1 : Hid (AdrAt ((w.alloc (.cells (adrC true A) 54)).alloc (.cells (adrC t B) 54)) w.heap.size 0 true A) := (adrAt_new w true A 54).below (below_alloc _ _)
  have A2 : Hid (AdrAt ((w.alloc (.cells (adrC true A) 54)).alloc (.cells (adrC t B) 54)) (w.heap.size + 1) 0 t B) := by
    have := adrAt_new (w.alloc (.cells (adrC true A) 54)) t B 54
    rw [size_alloc] at this; exact this
  have hlA : A.length = 16 := by first | exact hA | (simp; omega)
  have hlB : B.length = 16 := by first | exact hB | (simp; omega)
  have HB1 : Hid (Bs ((w.alloc (.cells (adrC true A) 54)).alloc (.cells (adrC t B) 54)) (.slice (some ⟨w.heap.size, 1, none⟩) 16 16) A) := (by have := a1.out.bs 16 (by omega) 16 (by omega) (by decide); rwa [List.take_of_length_le (by omega)] at this)
  have h0 := adr_zero true A
  have HA := Lib.hid hlA
  have HB := Lib.hid hlB
  have HE : Hid (Below w.heap.size w ((w.alloc (.cells (adrC true A) 54)).alloc (.cells (adrC t B) 54))) := (below_alloc _ _).trans ((below_alloc _ _).mono (by simp))
  have HBl := Lib.hid hB
  have HX : Hid (aheadB true A B n = aheadB true A B n) := rfl
  clear hA hB hlA hlB
  have tok1 : True := trivial
  have tok2 : True := trivial
  have tok3 : True := trivial
  go_enter Try.func61, Try.ntmps61
  go_wp2_with (at_builtin; first
    | (have _t := tok1; refine wpList_app' rfl _ _ rfl (w.heap.size + 2) _ [] rfl (own_nil _ _) _ A rfl HB1.out (by rw [HA.out]; simp) (by simp) ?_; intro Y1 a1' c1 w1 E1 O1 L1 N1 hc1; have S1 := Lib.hid (show w.heap.size + 2 ≤ w1.heap.size by have := L1.out.size; simp at this; omega); have HB3 : Hid (Bs w1 (.slice (some ⟨w.heap.size + 1, 1, none⟩) 16 16) B) := (by have := (A2.out.keep L1.out (Nat.lt_succ_self _)).bs 16 (by rw [HBl.out]; decide) 16 (by omega) (by decide); rwa [List.take_of_length_le (by rw [HBl.out]; decide)] at this); clear tok1)
    | (have _t := tok2; refine wpList_app' rfl _ _ rfl (w.heap.size + 2) _ Y1 rfl O1.out _ B rfl HB3.out (by rw [HB.out, N1.out, HA.out]; simp) S1.out ?_; intro Y2 a2' c2 w2 E2 O2 L2 N2 hc2; have S2 := Lib.hid (show w.heap.size + 2 ≤ w2.heap.size from Nat.le_trans S1.out L2.out.size); have z2 : w2.cell? ⟨w.heap.size, 0, none⟩ = some (.bool true) := ((a1.out.keep L1.out (by omega)).keep L2.out (by omega)).flag; clear tok2)
    | fail)
  refine (rput' _ false n 4 (by omega) (by omega)).mono ?_
  rintro e w3 ⟨Y4, a4, c4, rfl, e4, o4, b4, hs4, hs5⟩
  have E4 := Lib.hid e4
  have O4 : Hid (Bs w3 (.slice a4 Y4.length c4) Y4) := o4.bs
  have O3' : Hid (Own w3 (w.heap.size + 2) (.slice a2' Y2.length c2) Y2) := O2.out.below b4
  have L4 : Hid (Below (w.heap.size + 2) w2 w3) := b4.mono S2.out
  have S4 := Lib.hid (show w.heap.size + 2 ≤ w3.heap.size from Nat.le_trans S2.out b4.size)
  have N4 := Lib.hid (show Y4.length = 4 by rw [E4.out, numB_length])
  clear e4 o4 b4
  have tok5 : True := trivial
  go_wp2_with (at_builtin; first
    | (have _t := tok5; refine wpList_app' rfl _ _ rfl (w.heap.size + 2) _ Y2 rfl O3'.out _ Y4 rfl O4.out (by rw [N4.out, N2.out, N1.out, HA.out, HB.out]; simp) S4.out ?_; intro Y5 a5 c5 w5 E5 O5 L5 N5 hc5; have S5 := Lib.hid (show w.heap.size + 2 ≤ w5.heap.size from Nat.le_trans S4.out L5.out.size); clear tok5)
    | (have _t := tok3; refine wpList_app' rfl _ _ rfl (w.heap.size + 2) _ Y5 rfl (O5.out.alloc _) _ [0, 0, 0, 17] rfl (bs_new w5 [0, 0, 0, 17] _ 5 _ rfl (by decide)) (by rw [N5.out, N4.out, N2.out, N1.out, HA.out, HB.out]; simp) (by rw [size_alloc]; exact Nat.le_succ_of_le S5.out) ?_; intro Y6 a6 c6 w6 E6 O6 L6 N6 hc6; have L6' : Hid (Below (w.heap.size + 2) w5 w6) := ((below_alloc _ _).mono S5.out).trans L6.out; clear tok3))
  go_ret
  refine ⟨Y6, a6, c6, rfl, ?_, O6.out.mono (by omega), ?_, hc6.1, hc6.2⟩
  · rw [E6.out, E5.out, E4.out, E2.out, E1.out]
    rw [show numB false n 4 = [0, 0] ++ numB false n 2 by
      simp only [numB, leB, Bool.false_eq_true, if_false, Nat.div_div_eq_div_mul]
      have h1 : n / 65536 = 0 := by omega
      have h2 : n / 16777216 = 0 := by omega
      simp [h1, h2]]
    simp [aheadB]
  · exact HE.out.trans (((((L1.out.trans L2.out).trans L4.out).trans L5.out).trans L6'.out).mono (by omega))
theorem rahead_any (w : World) (s t : Bool) (A B : List UInt8) (n : Nat) (hA : A.length = 16) (hB : B.length = 16) (hn : n ≤ 65535) :
    Calls Try.prog 61 #[.agg (adrC s A), .agg (adrC t B), .int .i64 n] w (OwnRet' w (· = aheadB s A B n)) := by
  cases s
  · exact rahead4 w t A B n hA hB hn
  · exact rahead6 w t A B n hA hB hn
end Go.Proofs.Ytnckmaieghlpmaa
