/-
  The walk of horologeref18.Put.
-/
import Derived.Test.YtnckmaieghlpmaaUput
import Derived.Test.YtnckmaieghlpmaaRsum
namespace Go.Proofs.Ytnckmaieghlpmaa
open Go.RowKit
set_option linter.unusedVariables false

theorem end_zero (six : Bool) (A : List UInt8) (p : Nat) : (endC six A p)[0]? = some (.bool six) := by simp [endC]
theorem end_last (six : Bool) (A : List UInt8) (p : Nat) (hA : A.length = 16) : (endC six A p)[17]? = some (.int .u16 (p : Int)) := by
  rw [endC, List.getElem?_toArray, List.getElem?_cons_succ, List.getElem?_append_right (by simp [hA])]; simp [hA]

set_option maxRecDepth 100000 in
set_option maxHeartbeats 1000000 in
theorem urput_no (w : World) (s t : Bool) (A B : List UInt8) (sp dp : Nat) (v : Value) (bs : List UInt8) (hA : A.length = 16) (hB : B.length = 16) (hb : Bs w v bs) (hl : bs.length ≤ 300) (hst : s ≠ t) :
    Calls Try.prog 41 #[.agg (endC s A sp), .agg (endC t B dp), v] w (PutErr w 2) := by
  have hst1 : (s != t) = true := by simpa using hst
  have hst2 : (s == t) = false := by simpa using hst
  have h1 := end_zero s A sp
  have h2 := end_zero t B dp
  have HX : Hid (Below w.heap.size w ((w.alloc (.cells (endC s A sp) 61)).alloc (.cells (endC t B dp) 61))) := ((Below.refl _ _).alloc (Nat.le_refl _) _).alloc (by simp) _
  obtain ⟨a, c, rfl, hl1, hl2, hat⟩ := hb
  unfold maxLen at hl2
  clear hat hA hB
  go_enter Try.func41, Try.ntmps41
  go_wp2_with fail
  go_ret2
  exact ⟨rfl, HX.out⟩

set_option maxRecDepth 100000 in
set_option maxHeartbeats 2000000 in
theorem urput_yes (w : World) (s : Bool) (A B : List UInt8) (sp dp : Nat) (v : Value) (bs : List UInt8) (hA : A.length = 16) (hB : B.length = 16) (hb : Bs w v bs) (hl : bs.length ≤ 300) (hsp : sp < 65536) (hdp : dp < 65536) :
    Calls Try.prog 41 #[.agg (endC s A sp), .agg (endC s B dp), v] w (PutRet w (· = udpB s A B sp dp bs)) := by
  have HE : Hid (EndsAt w _ s s A B sp dp) := ends_new w s s A B sp dp hA hB
  have HBS := Lib.hid hb
  have h1 := end_zero s A sp
  have h2 := end_zero s B dp
  have h3 := end_last s A sp hA
  have h4 := end_last s B dp hB
  have HA := Lib.hid hA
  have HB := Lib.hid hB
  obtain ⟨a, c, rfl, hl1, hl2, hat⟩ := hb
  unfold maxLen at hl2
  clear hat hA hB
  obtain ⟨X, hX⟩ : ∃ X, X = udpB s A B sp dp bs := ⟨_, rfl⟩
  rw [← hX]
  have HX := Lib.hid hX
  clear hX
  obtain ⟨nn, hnn⟩ : ∃ nn : Nat, nn = 8 + bs.length := ⟨_, rfl⟩
  have hn16 : nn < 65536 := by omega
  have g1 : IntKind.u64.wrap (sp : Int) = (sp : Int) := Go.wraps_u64 _ (by omega) (by omega)
  have g2 : IntKind.u64.wrap (dp : Int) = (dp : Int) := Go.wraps_u64 _ (by omega) (by omega)
  have g3 : IntKind.u64.wrap (8 + (bs.length : Int)) = (nn : Int) := by rw [Go.wraps_u64 _ (by omega) (by omega)]; omega
  have g4 : 8 + (bs.length : Int) = (nn : Int) := by omega
  have HNN := Lib.hid hnn
  clear hnn
  go_enter Try.func41, Try.ntmps41
  go_wp2_with fail
  generalize (w.alloc (.cells (endC s A sp) 61)).alloc (.cells (endC s B dp) 61) = w2 at HE ⊢
  obtain ⟨W, hW⟩ : ∃ W, W = w.heap.size := ⟨_, rfl⟩
  have HW := Lib.hid hW
  have HE' : Hid (AdrAt w2 W 0 s A ∧ AdrAt w2 (W + 1) 0 s B ∧ w2.cell? ⟨W, 17, none⟩ = some (.int .u16 (sp : Int)) ∧ w2.cell? ⟨W + 1, 17, none⟩ = some (.int .u16 (dp : Int)) ∧ w2.heap.size = W + 2) := by
    rw [hW]; exact ⟨HE.out.one, HE.out.two, HE.out.p1, HE.out.p2, HE.out.sz⟩
  have HBS2 : Hid (Bs w2 (.slice a bs.length c) bs) := HBS.out.keepB HE.out.bel (Nat.le_refl _)
  rw [← hW]
  clear hW h1 h2 h3 h4 HBS
  have hs2 := HE'.out.2.2.2.2
  have HS2 := Lib.hid hs2
  clear hs2
  refine (rput' _ false sp 2 (by omega) (by omega)).mono ?_
  rintro e w3 ⟨Y1, a1, c1, rfl, e1, o1, b1, q1⟩
  have O1 : Hid (Own w3 (W + 2) (.slice a1 Y1.length c1) Y1) := by rw [← HS2.out]; exact o1
  have L1 : Hid (Below (W + 2) w2 w3) := by rw [← HS2.out]; exact b1
  have E1 : Hid (Y1 = numB false sp 2) := e1
  have N1 := Lib.hid (show Y1.length = 2 by rw [E1.out, numB_length])
  have p2 := (L1.out.cell (p := ⟨W + 1, 17, none⟩) (by show W + 1 < W + 2; omega)).trans HE'.out.2.2.2.1
  clear o1 b1 e1
  go_wp2_with fail
  refine (rput' _ false dp 2 (by omega) (by omega)).mono ?_
  rintro e w4 ⟨Yd, ad, cd, rfl, ed, od, bd, qd⟩
  have O1d : Hid (Own w4 (W + 2) (.slice a1 Y1.length c1) Y1) := O1.out.below bd
  have OD : Hid (Bs w4 (.slice ad Yd.length cd) Yd) := od.bs
  have L4 : Hid (Below (W + 2) w2 w4) := up_call HS2.out bd L1.out
  have ED : Hid (Yd = numB false dp 2) := ed
  have ND := Lib.hid (show Yd.length = 2 by rw [ED.out, numB_length])
  have S4 := Lib.hid (up_size HS2.out L4.out)
  clear od bd ed p2
  go_wp2_with (at_builtin; refine wpList_app' rfl _ _ rfl (W + 2) _ Y1 rfl O1d.out _ Yd rfl OD.out (by rw [N1.out, ND.out]; decide) S4.out ?_; intro Y2 a2 c2 w5 E2 O2 M2 N2 hc2)
  have L5 : Hid (Below (W + 2) w2 w5) := L4.out.trans M2.out
  refine (rput' _ false nn 2 (by omega) (by omega)).mono ?_
  rintro e w6 ⟨Yn, an, cn, rfl, en, on, bn, qn⟩
  have O2n : Hid (Own w6 (W + 2) (.slice a2 Y2.length c2) Y2) := O2.out.below bn
  have ON : Hid (Bs w6 (.slice an Yn.length cn) Yn) := on.bs
  have L6 : Hid (Below (W + 2) w2 w6) := up_call HS2.out bn L5.out
  have EN : Hid (Yn = numB false nn 2) := en
  have NN := Lib.hid (show Yn.length = 2 by rw [EN.out, numB_length])
  have S6 := Lib.hid (up_size HS2.out L6.out)
  clear on bn en
  have tok1 : True := trivial
  have tok2 : True := trivial
  have tok3 : True := trivial
  go_wp2_with (first
    | (at_builtin; have _t := tok1; refine wpList_app' rfl _ _ rfl (W + 2) _ Y2 rfl O2n.out _ Yn rfl ON.out (by rw [N2.out, N1.out, ND.out, NN.out]; decide) S6.out ?_; intro Y3 a3 c3 w7 E3 O3 M3 N3 hc3; have L7 : Hid (Below (W + 2) w2 w7) := L6.out.trans M3.out; have S7 := Lib.hid (up_size HS2.out L7.out); clear tok1)
    | (at_builtin; have _t := tok2; refine wpList_app' rfl _ _ rfl (W + 2) _ Y3 rfl (O3.out.alloc _) _ [0, 0] rfl (bs_new w7 [0, 0] _ 5 _ rfl (by decide)) (by rw [N3.out, N2.out, N1.out, ND.out, NN.out]; decide) (by rw [size_alloc]; exact Nat.le_succ_of_le S7.out) ?_; intro Y4 a4 c4 w8 E4 O4 M4 N4 hc4; have L8 : Hid (Below (W + 2) w2 w8) := L7.out.trans ((below_alloc _ _).mono S7.out |>.trans M4.out); have S8 := Lib.hid (up_size HS2.out L8.out); clear tok2)
    | (at_builtin; have _t := tok3; refine wpList_app' rfl _ _ rfl (W + 2) _ Y4 rfl O4.out _ bs rfl (HBS2.out.keepB L8.out (Nat.le_of_eq HS2.out)) (by rw [N4.out, N3.out, N2.out, N1.out, ND.out, NN.out]; simp; omega) S8.out ?_; intro Y5 a5 c5 w9 E5 O5 M5 N5 hc5; have L9 : Hid (Below (W + 2) w2 w9) := L8.out.trans M5.out; have S9 := Lib.hid (up_size HS2.out L9.out); clear tok3)
    | ((with_reducible refine wpList_load54 W 0 s A ?_ ?_ ?_ ?_); rfl; exact HE'.out.1.keep L9.out (by omega); exact HA.out)
    | ((with_reducible refine wpList_load54 (W + 1) 0 s B ?_ ?_ ?_ ?_); rfl; exact HE'.out.2.1.keep L9.out (by omega); exact HB.out)
    | fail)
  have hY5 : Y5 = udp0 sp dp bs := by
    have k1 : Y1 = numB false sp 2 := E1.out
    have k2 : Y2 = Y1 ++ Yd := E2.out
    have k3 : Y3 = Y2 ++ Yn := E3.out
    have k4 : Y4 = Y3 ++ [0, 0] := E4.out
    have k5 : Y5 = Y4 ++ bs := E5.out
    rw [k5, k4, k3, k2, k1, ED.out, EN.out, HNN.out]; rfl
  have hY5l : Y5.length = nn := by rw [hY5, udp0_len, HNN.out]
  have HY5 := Lib.hid hY5
  have HY5L := Lib.hid hY5l
  obtain ⟨gb, cap, he, hgb1, hgb2, hgb3, hgb4⟩ : ∃ gb cap, Value.slice a5 Y5.length c5 = .slice (some ⟨gb, 0, none⟩) Y5.length cap ∧ W + 2 ≤ gb ∧ gb < w9.heap.size ∧ Y5.length ≤ cap ∧ cap ≤ maxLen := by
    rcases O5.out.shape with ⟨_, h⟩ | h
    · rw [h] at hY5l; simp at hY5l; have := HNN.out; omega
    · exact h
  simp only [Value.slice.injEq, true_and] at he
  obtain ⟨rfl, rfl⟩ := he
  have hge8 : 8 ≤ Y5.length := by rw [hY5l, HNN.out]; omega
  clear hY5 hY5l hgb2 hgb4
  refine (rahead_any _ s s A B nn HA.out HB.out (by omega)).mono ?_
  rintro e w10 ⟨Ya, aa, ca, rfl, ea, oa, ba, qa⟩
  have EA : Hid (Ya = aheadB s A B nn) := ea
  have NA := Lib.hid (show Ya.length ≤ 40 by rw [EA.out, aheadB_len _ _ _ _ HA.out HB.out]; exact (aheadM_le s).2)
  have OA : Hid (Own w10 w9.heap.size (.slice aa Ya.length ca) Ya) := oa
  have O10 : Hid (Own w10 (W + 2) (.slice (some ⟨gb, 0, none⟩) Y5.length c5) Y5) := O5.out.below ba
  have L10 : Hid (Below (W + 2) w2 w10) := up_call HS2.out ba L9.out
  have S10 := Lib.hid ba.size
  have hkeep : ∀ w', Below w9.heap.size w10 w' → Own w' (W + 2) (.slice (some ⟨gb, 0, none⟩) Y5.length c5) Y5 := fun w' h => O5.out.keep (ba.trans h) (Nat.le_refl _)
  have HK := Lib.hid hkeep
  clear hkeep
  clear oa ba ea
  go_wp2_with (at_builtin; refine wpList_app' rfl _ _ rfl w9.heap.size _ Ya rfl OA.out _ Y5 rfl O10.out.bs (by rw [HY5L.out]; have := NA.out; omega) S10.out ?_; intro Y6 a6 c6 w11 E6 O6 M6 N6 hc6)
  have O11 : Hid (Own w11 (W + 2) (.slice (some ⟨gb, 0, none⟩) Y5.length c5) Y5) := HK.out _ M6.out
  have L11 : Hid (Below (W + 2) w2 w11) := L10.out.trans (M6.out.mono (by have := S9.out; omega))
  obtain ⟨C, hC⟩ : ∃ C, C = csum Y6 := ⟨_, rfl⟩
  have hS : udpS s A B sp dp bs = if C = 0 then 65535 else C := by
    have k6 : Y6 = Ya ++ Y5 := E6.out
    rw [hC, k6, EA.out, HY5.out, HNN.out]; rfl
  have hC16 : C ≤ 65535 := by rw [hC]; unfold csum; omega
  have HC := Lib.hid hC
  have HS := Lib.hid hS
  clear hC hS
  refine (rsum_any _ _ Y6 (by rw [N6.out, HY5L.out]; have := NA.out; omega) O6.out.bs).mono ?_
  rintro e w12 ⟨rfl, rfl⟩
  rw [← HC.out]
  have x6 := own_cell O11.out (j := 6) (x := Y5[6]'(by omega)) (by rw [List.getElem?_eq_getElem])
  have x7 := own_cell O11.out (j := 7) (x := Y5[7]'(by omega)) (by rw [List.getElem?_eq_getElem])
  have f6 := own_free O11.out 6
  have f7 := own_free O11.out 7
  have i6 : (6 : Int) < (Y5.length : Int) := by omega
  have i7 : (7 : Int) < (Y5.length : Int) := by omega
  have hXl : X.length = Y5.length := by rw [HX.out, udpB_len, HY5L.out, HNN.out]
  have HXL := Lib.hid hXl
  clear hXl g1 g2 g3 g4
  by_cases hc0 : C = 0
  · have hset : (Y5.set 6 255).set 7 255 = X := by
      have q := udpB_set s A B sp dp bs
      rw [HS.out, if_pos hc0] at q
      rw [HX.out, ← q, HY5.out]; rfl
    have hfin := own_store' (own_store' O11.out 6 255) 7 255
    rw [hset] at hfin
    have HF := Lib.hid hfin
    subst hc0
    clear hset hfin HC HS
    go_wp2_with fail
    go_ret2
    refine ⟨X, some ⟨gb, 0, none⟩, c5, by rw [HXL.out]; rfl, rfl, HF.out.mono (by rw [HW.out]; omega), ?_, by rw [HXL.out]; exact hgb3, hc5.2⟩
    rw [← HW.out]
    exact (((HW.out ▸ HE.out.bel : Below W w w2).trans (L11.out.mono (by omega))).setCell (by show W ≤ gb; omega) _).setCell (by show W ≤ gb; omega) _
  · obtain ⟨hi, hhi⟩ : ∃ hi, hi = UInt8.ofNat (C / 256 % 256) := ⟨_, rfl⟩
    obtain ⟨lo, hlo⟩ : ∃ lo, lo = UInt8.ofNat (C % 256) := ⟨_, rfl⟩
    have e1 : (C : Int) / 256 = (hi.toNat : Int) := by rw [hhi]; simp; omega
    have e2 : (C : Int) % 256 = (lo.toNat : Int) := by rw [hlo]; simp
    have hset : (Y5.set 6 hi).set 7 lo = X := by
      have q := udpB_set s A B sp dp bs
      rw [HS.out, if_neg hc0] at q
      rw [HX.out, ← q, HY5.out, hhi, hlo]
    have hfin := own_store' (own_store' O11.out 6 hi) 7 lo
    rw [hset] at hfin
    have HF := Lib.hid hfin
    have hbyt : hi.toNat < 256 := hi.toNat_lt
    have hbyt2 : lo.toNat < 256 := lo.toNat_lt
    have z1 : ((C : Int) == 0) = false := by simp; omega
    clear hset hfin HC HS hhi hlo hc0
    go_wp2_with fail
    go_ret2
    refine ⟨X, some ⟨gb, 0, none⟩, c5, by rw [HXL.out]; rfl, rfl, HF.out.mono (by rw [HW.out]; omega), ?_, by rw [HXL.out]; exact hgb3, hc5.2⟩
    rw [← HW.out]
    exact (((HW.out ▸ HE.out.bel : Below W w w2).trans (L11.out.mono (by omega))).setCell (by show W ≤ gb; omega) _).setCell (by show W ≤ gb; omega) _
end Go.Proofs.Ytnckmaieghlpmaa
