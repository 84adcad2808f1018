/-
  The walk of horologelaw18.UdpTurned.
-/
import Derived.Test.YtnckmaieghlpmaaLawUputs
import Derived.Test.YtnckmaieghlpmaaUturn
import Derived.BigRegion
namespace Go.Proofs.Ytnckmaieghlpmaa
open Go.RowKit
set_option linter.unusedVariables false

set_option maxRecDepth 100000 in
set_option maxHeartbeats 2000000 in
theorem law_uturned (w : World) (s : Bool) (A B : List UInt8) (sp dp : Nat) (v : Value) (bs : List UInt8) (i k : Nat) (hA : A.length = 16) (hB : B.length = 16) (hb : Bs w v bs) (hl : bs.length ≤ 300) (hl4 : 4 ≤ bs.length) (hsp : sp < 65536) (hdp : dp < 65536) (hi : i < 65536) (hk : k < 65536) :
    Calls Try.prog 11 #[.agg (endC s A sp), .agg (endC s B dp), v, .int .u16 i, .int .u16 k] w fun e w' => e = .returned (.bool true) ∧ Below w.heap.size w w' := by
  have HS : Hid (EndsSt w _ s s A B sp dp v bs) := endsSt_new w s s A B sp dp v bs hb
  obtain ⟨a, c, rfl, hl1, hl2, hat⟩ := hb
  clear hat
  unfold maxLen at hl2
  have hl3 : ¬ (300 : Int) < (bs.length : Int) := by omega
  have hl5 : ¬ (bs.length : Int) < 4 := by omega
  have HA := Lib.hid hA
  have HB := Lib.hid hB
  clear hA hB
  go_enter Try.func11, Try.ntmps11
  go_wp2_with fail
  refine (known18 _).mono ?_; rintro e w1 ⟨rfl, hb1⟩
  have HS1 : Hid (EndsSt w w1 s s A B sp dp (.slice a bs.length c) bs) := HS.out.below hb1
  have f1 := HS1.out.2.1.adr.flag
  have f2 := HS1.out.2.2.1.adr.flag
  clear hb1 HS
  go_wp2_with (first | ((with_reducible refine wpList_load61 w.heap.size s A sp ?_ ?_ ?_ ?_); rfl; exact HS1.out.2.1; exact HA.out) | ((with_reducible refine wpList_load61 (w.heap.size + 1) s B dp ?_ ?_ ?_ ?_); rfl; exact HS1.out.2.2.1; exact HB.out))
  refine (uput_yes _ s A B sp dp _ bs HA.out HB.out HS1.out.2.2.2 hl hsp hdp).mono ?_
  rintro e w2 ⟨Y, a2, c2, rfl, hY, oY, bY, q1, q2⟩
  have HS2 : Hid (EndsSt w w2 s s A B sp dp (.slice a bs.length c) bs) := HS1.out.below bY
  have HY : Hid (Y = udpB s A B sp dp bs) := hY
  have HBY : Hid (Bs w2 (.slice a2 Y.length c2) Y) := oY.bs
  clear oY bY hY HS1 f1 f2
  go_wp2_with (first | ((with_reducible refine wpList_load61 w.heap.size s A sp ?_ ?_ ?_ ?_); rfl; exact HS2.out.2.1; exact HA.out) | ((with_reducible refine wpList_load61 (w.heap.size + 1) s B dp ?_ ?_ ?_ ?_); rfl; exact HS2.out.2.2.1; exact HB.out))
  refine (uput_yes _ s B A dp sp _ bs HB.out HA.out HS2.out.2.2.2 hl hdp hsp).mono ?_
  rintro e w3 ⟨Z, a3, c3, rfl, hZ, oZ, bZ, q3, q4⟩
  have HS3 : Hid (EndsSt w w3 s s A B sp dp (.slice a bs.length c) bs) := HS2.out.below bZ
  have HBY3 : Hid (Bs w3 (.slice a2 Y.length c2) Y) := HBY.out.below bZ
  have HBZ : Hid (Bs w3 (.slice a3 Z.length c3) Z) := oZ.bs
  obtain ⟨S, hS⟩ : ∃ S, S = udpS s A B sp dp bs := ⟨_, rfl⟩
  have hYW : Y = udpW sp dp S bs := by rw [hS]; exact Eq.trans HY.out (udpB_W ..)
  have hZW : Z = udpW dp sp S bs := by rw [hS, udpS_ends s A B sp dp bs HA.out HB.out]; exact Eq.trans hZ (udpB_W ..)
  have hYl : Y.length = 8 + bs.length := by rw [hYW, udpW_len]
  have hZl : Z.length = 8 + bs.length := by rw [hZW, udpW_len]
  obtain ⟨hi8, hhi⟩ : ∃ x, x = UInt8.ofNat (S / 256 % 256) := ⟨_, rfl⟩
  obtain ⟨lo8, hlo⟩ : ∃ x, x = UInt8.ofNat (S % 256) := ⟨_, rfl⟩
  have hy6 := (udpW_at sp dp S bs)
  have hz6 := (udpW_at dp sp S bs)
  rw [← hYW, ← hhi, ← hlo] at hy6
  rw [← hZW, ← hhi, ← hlo] at hz6
  obtain ⟨b2, o2, rfl, cy⟩ : ∃ b o, a2 = some ⟨b, o, none⟩ ∧ ∀ i x, Y[i]? = some x → w3.cell? ⟨b, o + i, none⟩ = some (.int .u8 (x.toNat : Int)) := by
    obtain ⟨a', c', e', _, _, hat⟩ := HBY3.out
    simp only [Value.slice.injEq, true_and] at e'
    obtain ⟨rfl, rfl⟩ := e'
    rcases hat with h | h
    · rw [h] at hYl; simp at hYl; omega
    · exact h
  obtain ⟨b3, o3, rfl, cz⟩ : ∃ b o, a3 = some ⟨b, o, none⟩ ∧ ∀ i x, Z[i]? = some x → w3.cell? ⟨b, o + i, none⟩ = some (.int .u8 (x.toNat : Int)) := by
    obtain ⟨a', c', e', _, _, hat⟩ := HBZ.out
    simp only [Value.slice.injEq, true_and] at e'
    obtain ⟨rfl, rfl⟩ := e'
    rcases hat with h | h
    · rw [h] at hZl; simp at hZl; omega
    · exact h
  have y6 := cy 6 _ hy6.1
  have y7 := cy 7 _ hy6.2
  have z6 := cz 6 _ hz6.1
  have z7 := cz 7 _ hz6.2
  have HHI := Lib.hid hhi
  have HLO := Lib.hid hlo
  have HSS := Lib.hid hS
  clear cy cz hy6 hz6 hhi hlo hS hYW hZW oZ bZ hZ HBY HY HBY3 HBZ HS2
  have j6 : (6 : Int) < 8 + (bs.length : Int) := by omega
  have j7 : (7 : Int) < 8 + (bs.length : Int) := by omega
  go_wp2_with fail
  go_quiet (fail)
  obtain ⟨w4, hw4, hb4⟩ : ∃ w4, w4 = w3.drewN nq ∧ Below w3.heap.size w3 w4 := ⟨_, rfl, below_drewN _ _⟩
  rw [← hw4]
  have HS4 : Hid (EndsSt w w4 s s A B sp dp (.slice a bs.length c) bs) := HS3.out.below hb4
  have u6 := below_cells hb4 _ _ y6
  have u7 := below_cells hb4 _ _ y7
  clear hw4 hb4 HS3 y6 y7 z6 z7
  obtain ⟨m, hm⟩ : ∃ m : Nat, m = bs.length / 2 := ⟨_, rfl⟩
  obtain ⟨x, hx⟩ : ∃ x : Nat, x = i % m * 2 := ⟨_, rfl⟩
  obtain ⟨y, hy⟩ : ∃ y : Nat, y = k % m * 2 := ⟨_, rfl⟩
  have hm2 : 2 ≤ m := by omega
  have hx1 : x + 1 < bs.length := by have := Nat.mod_lt i (show 0 < m by omega); omega
  have hy1 : y + 1 < bs.length := by have := Nat.mod_lt k (show 0 < m by omega); omega
  have d1 : (bs.length : Int) / 2 = (m : Int) := by omega
  have d2 : (i : Int) % (m : Int) * 2 = (x : Int) := by rw [hx]; simp
  have d3 : (k : Int) % (m : Int) * 2 = (y : Int) := by rw [hy]; simp
  have hx2 : x % 2 = 0 := by omega
  have hy2 : y % 2 = 0 := by omega
  have HX2 := Lib.hid hx2
  have HY2 := Lib.hid hy2
  clear hm hx hy hx2 hy2
  go_wp2_with fail
  go_quiet (fail)
  obtain ⟨w5, hw5, hb5⟩ : ∃ w5, w5 = w4.drewN nq ∧ Below w4.heap.size w4 w5 := ⟨_, rfl, below_drewN _ _⟩
  rw [← hw5]
  have HS5 : Hid (EndsSt w w5 s s A B sp dp (.slice a bs.length c) bs) := HS4.out.below hb5
  have v6 := below_cells hb5 _ _ u6
  have v7 := below_cells hb5 _ _ u7
  clear hw5 hb5 HS4 u6 u7 d1 d2 d3
  go_wp2_with (at_builtin; refine wpList_app' rfl _ _ rfl w5.heap.size _ [] rfl (own_lit w5 [] _ _ rfl (Nat.le_refl _) (Nat.zero_le _)) _ bs rfl (HS5.out.2.2.2.alloc _) (by simp; omega) (by simp) ?_; intro M am cm w6 EM OM LM NM hcm)
  obtain rfl : M = bs := by have := EM.out; simpa using this
  have L6 : Below w5.heap.size w5 w6 := (below_alloc _ _).trans LM.out
  have HS6 : Hid (EndsSt w w6 s s A B sp dp (.slice a M.length c) M) := HS5.out.below L6
  have r6 := below_cells L6 _ _ v6
  have r7 := below_cells L6 _ _ v7
  obtain ⟨ba, oa, rfl, ca⟩ : ∃ b o, a = some ⟨b, o, none⟩ ∧ ∀ i x, M[i]? = some x → w5.cell? ⟨b, o + i, none⟩ = some (.int .u8 (x.toNat : Int)) := by
    obtain ⟨a', c', e', _, _, hat⟩ := HS5.out.2.2.2
    simp only [Value.slice.injEq, true_and] at e'
    obtain ⟨rfl, rfl⟩ := e'
    rcases hat with h | h
    · rw [h] at hl4; simp at hl4
    · exact h
  obtain ⟨gm, cap, he, hgb1, hgb2, hgb3, hgb4⟩ : ∃ gb cap, Value.slice am M.length cm = .slice (some ⟨gb, 0, none⟩) M.length cap ∧ w5.heap.size ≤ gb ∧ gb < w6.heap.size ∧ M.length ≤ cap ∧ cap ≤ maxLen := by
    rcases OM.out.shape with ⟨_, h⟩ | h
    · rw [h] at hl4; simp at hl4
    · exact h
  simp only [Value.slice.injEq, true_and] at he
  obtain ⟨rfl, rfl⟩ := he
  have gx : ∀ j, j < M.length → M[j]? = some (M.getD j 0) := fun j hj => by simp [List.getD, hj]
  obtain ⟨px, hpx⟩ : ∃ b, b = M.getD x 0 := ⟨_, rfl⟩
  obtain ⟨px1, hpx1⟩ : ∃ b, b = M.getD (x + 1) 0 := ⟨_, rfl⟩
  obtain ⟨py, hpy⟩ : ∃ b, b = M.getD y 0 := ⟨_, rfl⟩
  obtain ⟨py1, hpy1⟩ : ∃ b, b = M.getD (y + 1) 0 := ⟨_, rfl⟩
  have ex := gx x (by omega)
  have ex1 := gx (x + 1) hx1
  have ey := gx y (by omega)
  have ey1 := gx (y + 1) hy1
  rw [← hpx] at ex
  rw [← hpx1] at ex1
  rw [← hpy] at ey
  rw [← hpy1] at ey1
  have hne : ba ≠ gm := by
    have h1 := World.block_lt_of_cell? w5 _ (ca y _ ey)
    have h2 : ba < w5.heap.size := h1
    omega
  have tx := below_cells L6 _ _ (ca x _ ex)
  have tx1 := below_cells L6 _ _ (ca (x + 1) _ ex1)
  have ty := below_cells L6 _ _ (ca y _ ey)
  have ty1 := below_cells L6 _ _ (ca (y + 1) _ ey1)
  have ox := own_cell OM.out ex
  have ox1 := own_cell OM.out ex1
  have oy := own_cell OM.out ey
  have oy1 := own_cell OM.out ey1
  have fr := fun j => own_free OM.out j
  have frx := fr x
  have frx1 := fr (x + 1)
  have fry := fr y
  have fry1 := fr (y + 1)
  have wx : IntKind.i64.wrap ((x : Int) + 1) = (x : Int) + 1 := IntWalk.i64_in _ (by omega)
  have wy : IntKind.i64.wrap ((y : Int) + 1) = (y : Int) + 1 := IntWalk.i64_in _ (by omega)
  have nx : ((x : Int) + 1).toNat = x + 1 := by omega
  have ny : ((y : Int) + 1).toNat = y + 1 := by omega
  have bx : (x : Int) < (M.length : Int) := by omega
  have bx1 : (x : Int) + 1 < (M.length : Int) := by omega
  have by0 : (y : Int) < (M.length : Int) := by omega
  have by1 : (y : Int) + 1 < (M.length : Int) := by omega
  have bx2 : (0 : Int) ≤ (x : Int) + 1 := by omega
  have by2 : (0 : Int) ≤ (y : Int) + 1 := by omega
  have EX := Lib.hid ex
  have EX1 := Lib.hid ex1
  have EY := Lib.hid ey
  have EY1 := Lib.hid ey1
  have PX := Lib.hid hpx
  have PX1 := Lib.hid hpx1
  have PY := Lib.hid hpy
  have PY1 := Lib.hid hpy1
  have HG1 := Lib.hid hgb1
  have CX := Lib.hid (ca x _ ex)
  have CX1 := Lib.hid (ca (x + 1) _ ex1)
  have V6 := Lib.hid v6
  have V7 := Lib.hid v7
  have HL6 := Lib.hid L6
  clear gx ca ex ex1 ey ey1 hpx hpx1 hpy hpy1 hgb2 hgb4 fr L6 v6 v7 EM LM NM r6 r7 HS6
  go_region
  have L7 : Hid (Below w5.heap.size w5 ((w6.setCell ⟨gm, x, none⟩ (.int .u8 (py.toNat : Int))).setCell ⟨gm, x + 1, none⟩ (.int .u8 (py1.toNat : Int))).drew) := ((HL6.out.setCell (by exact HG1.out) _).setCell (by exact HG1.out) _).drew
  have o7 := (own_store' (own_store' OM.out x py) (x + 1) py1).drew
  obtain ⟨N1, hN1⟩ : ∃ N1, N1 = (M.set x py).set (x + 1) py1 := ⟨_, rfl⟩
  have hN1l : N1.length = M.length := by rw [hN1]; simp
  rw [← hN1, hN1l] at o7
  have O7 : Hid (Own ((w6.setCell ⟨gm, x, none⟩ (.int .u8 (py.toNat : Int))).setCell ⟨gm, x + 1, none⟩ (.int .u8 (py1.toNat : Int))).drew w5.heap.size (.slice (some ⟨gm, 0, none⟩) M.length cm) N1) := o7
  clear o7 tx tx1 ty ty1 ox ox1 oy oy1 frx frx1 fry fry1
  generalize ((w6.setCell ⟨gm, x, none⟩ (.int .u8 (py.toNat : Int))).setCell ⟨gm, x + 1, none⟩ (.int .u8 (py1.toNat : Int))).drew = w7 at O7 L7 ⊢
  have O7' : Own w7 w5.heap.size (.slice (some ⟨gm, 0, none⟩) N1.length cm) N1 := by rw [hN1l]; exact O7.out
  have tx := below_cells L7.out _ _ CX.out
  have tx1 := below_cells L7.out _ _ CX1.out
  have oy := own_cell O7' (j := y) (x := N1[y]'(by omega)) (by rw [List.getElem?_eq_getElem])
  have oy1 := own_cell O7' (j := y + 1) (x := N1[y + 1]'(by omega)) (by rw [List.getElem?_eq_getElem])
  have fry := own_free O7' y
  have fry1 := own_free O7' (y + 1)
  have HO7 := Lib.hid O7'
  have HN1 := Lib.hid hN1
  have HN1L := Lib.hid hN1l
  clear O7'
  go_wp2_with fail
  go_region
  have L8 : Hid (Below w5.heap.size w5 ((w7.setCell ⟨gm, y, none⟩ (.int .u8 (px.toNat : Int))).setCell ⟨gm, y + 1, none⟩ (.int .u8 (px1.toNat : Int))).drew) := ((L7.out.setCell (by exact HG1.out) _).setCell (by exact HG1.out) _).drew
  have o8 := (own_store' (own_store' HO7.out y px) (y + 1) px1).drew
  obtain ⟨N2, hN2⟩ : ∃ N2, N2 = (N1.set y px).set (y + 1) px1 := ⟨_, rfl⟩
  have hN2l : N2.length = M.length := by rw [hN2]; simp [HN1L.out]
  have hN2m : N2 = mixed M x y := by rw [hN2, HN1.out, PX.out, PX1.out, PY.out, PY1.out]; rfl
  rw [← hN2, hN2l] at o8
  have O8 : Hid (Bs ((w7.setCell ⟨gm, y, none⟩ (.int .u8 (px.toNat : Int))).setCell ⟨gm, y + 1, none⟩ (.int .u8 (px1.toNat : Int))).drew (.slice (some ⟨gm, 0, none⟩) M.length cm) N2) := Own.bs o8
  have HN2L := Lib.hid hN2l
  have HN2M := Lib.hid hN2m
  clear o8 tx tx1 oy oy1 fry fry1 hN1 hN1l hN2 hN2l hN2m
  generalize ((w7.setCell ⟨gm, y, none⟩ (.int .u8 (px.toNat : Int))).setCell ⟨gm, y + 1, none⟩ (.int .u8 (px1.toNat : Int))).drew = w8 at O8 L8 ⊢
  have HS8 : Hid (EndsSt w w8 s s A B sp dp (.slice (some ⟨ba, oa, none⟩) M.length c) M) := HS5.out.below L8.out
  have v6 := below_cells L8.out _ _ V6.out
  have v7 := below_cells L8.out _ _ V7.out
  clear O7 L7 HO7 HL6 wx wy nx ny bx bx1 by0 by1 bx2 by2
  go_wp2_with (first | ((with_reducible refine wpList_load61 w.heap.size s A sp ?_ ?_ ?_ ?_); rfl; exact HS8.out.2.1; exact HA.out) | ((with_reducible refine wpList_load61 (w.heap.size + 1) s B dp ?_ ?_ ?_ ?_); rfl; exact HS8.out.2.2.1; exact HB.out))
  refine (uput_yes _ s A B sp dp _ N2 HA.out HB.out O8.out (by rw [HN2L.out]; exact hl) hsp hdp).mono ?_
  rintro e w9 ⟨U, a9, c9, rfl, hU, oU, bU, q9, q10⟩
  have HS9 : Hid (Below w.heap.size w w9) := HS8.out.1.trans (bU.mono HS8.out.1.size)
  have hUW : U = udpW sp dp S N2 := by
    rw [HSS.out, ← udpS_mixed s A B sp dp M x y HA.out HB.out HX2.out HY2.out hx1 hy1, ← HN2M.out]; exact Eq.trans hU (udpB_W ..)
  have hUl : U.length = 8 + M.length := by rw [hUW, udpW_len, HN2L.out]
  have hu6 := udpW_at sp dp S N2
  rw [← hUW, ← HHI.out, ← HLO.out] at hu6
  obtain ⟨b9, o9, rfl, cu⟩ : ∃ b o, a9 = some ⟨b, o, none⟩ ∧ ∀ i x, U[i]? = some x → w9.cell? ⟨b, o + i, none⟩ = some (.int .u8 (x.toNat : Int)) := by
    obtain ⟨a', c', e', _, _, hat⟩ := oU.bs
    simp only [Value.slice.injEq, true_and] at e'
    obtain ⟨rfl, rfl⟩ := e'
    rcases hat with h | h
    · rw [h] at hUl; simp at hUl; omega
    · exact h
  have m6 := cu 6 _ hu6.1
  have m7 := cu 7 _ hu6.2
  have n6 := below_cells bU _ _ v6
  have n7 := below_cells bU _ _ v7
  clear cu hu6 hUW hU oU bU v6 v7 HS8 L8 O8
  go_wp2_with fail
  first
    | go_ret
    | (go_quiet (fail); go_wp2_with fail; go_ret)
  exact ⟨rfl, by first | exact HS9.out | exact HS9.out.trans ((below_drewN _ _).mono HS9.out.size)⟩
set_option maxRecDepth 100000 in
set_option maxHeartbeats 1000000 in
theorem law_uturned_short (w : World) (s t : Bool) (A B : List UInt8) (sp dp : Nat) (v : Value) (bs : List UInt8) (i k : Nat) (hb : Bs w v bs) (hl : bs.length < 4) :
    Calls Try.prog 11 #[.agg (endC s A sp), .agg (endC t B dp), v, .int .u16 i, .int .u16 k] w fun e w' => e = .returned (.bool true) ∧ Below w.heap.size w w' := by
  have HS : Hid (EndsSt w _ s t A B sp dp v bs) := endsSt_new w s t A B sp dp v bs hb
  obtain ⟨a, c, rfl, hl1, hl2, hat⟩ := hb
  clear hat
  unfold maxLen at hl2
  have h4 : (bs.length : Int) < 4 := by omega
  go_enter Try.func11, Try.ntmps11
  go_wp2_with fail
  refine (known18 _).mono ?_; rintro e w1 ⟨rfl, hb1⟩
  have HS1 : Hid (EndsSt w w1 s t A B sp dp (.slice a bs.length c) bs) := HS.out.below hb1
  clear hb1 HS
  go_wp2_with fail
  go_ret
  exact ⟨rfl, HS1.out.1⟩

set_option maxRecDepth 100000 in
set_option maxHeartbeats 1000000 in
theorem law_uturned_great (w : World) (s t : Bool) (A B : List UInt8) (sp dp : Nat) (v : Value) (bs : List UInt8) (i k : Nat) (hb : Bs w v bs) (hl : 300 < bs.length) :
    Calls Try.prog 11 #[.agg (endC s A sp), .agg (endC t B dp), v, .int .u16 i, .int .u16 k] w fun e w' => e = .returned (.bool true) ∧ Below w.heap.size w w' := by
  have HS : Hid (EndsSt w _ s t A B sp dp v bs) := endsSt_new w s t A B sp dp v bs hb
  obtain ⟨a, c, rfl, hl1, hl2, hat⟩ := hb
  clear hat
  unfold maxLen at hl2
  have h4 : ¬ (bs.length : Int) < 4 := by omega
  have h3 : (300 : Int) < (bs.length : Int) := by omega
  go_enter Try.func11, Try.ntmps11
  go_wp2_with fail
  refine (known18 _).mono ?_; rintro e w1 ⟨rfl, hb1⟩
  have HS1 : Hid (EndsSt w w1 s t A B sp dp (.slice a bs.length c) bs) := HS.out.below hb1
  clear hb1 HS
  go_wp2_with fail
  go_ret
  exact ⟨rfl, HS1.out.1⟩

set_option maxRecDepth 100000 in
set_option maxHeartbeats 1000000 in
theorem law_uturned_other (w : World) (s t : Bool) (A B : List UInt8) (sp dp : Nat) (v : Value) (bs : List UInt8) (i k : Nat) (hb : Bs w v bs) (hl4 : 4 ≤ bs.length) (hl : bs.length ≤ 300) (hst : s ≠ t) :
    Calls Try.prog 11 #[.agg (endC s A sp), .agg (endC t B dp), v, .int .u16 i, .int .u16 k] w fun e w' => e = .returned (.bool true) ∧ Below w.heap.size w w' := by
  have HS : Hid (EndsSt w _ s t A B sp dp v bs) := endsSt_new w s t A B sp dp v bs hb
  obtain ⟨a, c, rfl, hl1, hl2, hat⟩ := hb
  clear hat
  unfold maxLen at hl2
  have h4 : ¬ (bs.length : Int) < 4 := by omega
  have h3 : ¬ (300 : Int) < (bs.length : Int) := by omega
  have hst1 : (s != t) = true := by simpa using hst
  have hst2 : (s == t) = false := by simpa using hst
  clear hst
  go_enter Try.func11, Try.ntmps11
  go_wp2_with fail
  refine (known18 _).mono ?_; rintro e w1 ⟨rfl, hb1⟩
  have HS1 : Hid (EndsSt w w1 s t A B sp dp (.slice a bs.length c) bs) := HS.out.below hb1
  have f1 := HS1.out.2.1.adr.flag
  have f2 := HS1.out.2.2.1.adr.flag
  clear hb1 HS
  go_wp2_with fail
  go_ret
  exact ⟨rfl, HS1.out.1⟩

theorem law_uturned' (w : World) (s t : Bool) (A B : List UInt8) (sp dp : Nat) (v : Value) (i k : Int) (hA : A.length = 16) (hB : B.length = 16) (hsp : sp < 65536) (hdp : dp < 65536) (hb : ∃ bs, Bs w v bs)
    (F3 : (Lit.int .u16 i).wf = true) (F4 : (Lit.int .u16 k).wf = true) :
    Calls Try.prog 11 #[.agg (endC s A sp), .agg (endC t B dp), v, .int .u16 i, .int .u16 k] w fun e w' => e = .returned (.bool true) ∧ Below w.heap.size w w' := by
  obtain ⟨bs, hb⟩ := hb
  have hx : 0 ≤ i ∧ i ≤ 65535 := by simpa [Lit.wf, IntKind.min, IntKind.max, IntKind.signed, IntKind.bits] using F3
  have hy : 0 ≤ k ∧ k ≤ 65535 := by simpa [Lit.wf, IntKind.min, IntKind.max, IntKind.signed, IntKind.bits] using F4
  obtain ⟨i, rfl⟩ := Int.eq_ofNat_of_zero_le hx.1
  obtain ⟨k, rfl⟩ := Int.eq_ofNat_of_zero_le hy.1
  by_cases h4 : bs.length < 4
  · exact law_uturned_short w s t A B sp dp v bs i k hb h4
  · by_cases hl : bs.length ≤ 300
    · by_cases hst : s = t
      · subst hst
        exact law_uturned w s A B sp dp v bs i k hA hB hb hl (by omega) hsp hdp (by omega) (by omega)
      · exact law_uturned_other w s t A B sp dp v bs i k hb (by omega) hl hst
    · exact law_uturned_great w s t A B sp dp v bs i k hb (by omega)
end Go.Proofs.Ytnckmaieghlpmaa
