/-
  The walk of horologelaw18.known.
-/
import Derived.Test.YtnckmaieghlpmaaK18
import Derived.Test.YtnckmaieghlpmaaStr
import Derived.Lib.SlBytesConst
namespace Go.Proofs.Ytnckmaieghlpmaa
open Go.RowKit
set_option linter.unusedVariables false

theorem ends_keep {w w2 w' : World} {s t : Bool} {A B : List UInt8} {sp dp : Nat} (h : EndsAt w w2 s t A B sp dp) (hb : Below w2.heap.size w2 w') :
    AdrAt w' w.heap.size 0 s A ∧ AdrAt w' (w.heap.size + 1) 0 t B ∧ Below w.heap.size w w' := ⟨h.one.below hb, h.two.below hb, h.bel.trans (hb.mono h.bel.size)⟩
theorem conv_lit {w : World} {v : Value} {bs : List UInt8} (S : ByteArray) (h : Bs w v bs) (hS : mkS bs = S) : (convert 24 9 v).run Try.prog w = .ok (.string S) w := hS ▸ conv_bs h

set_option maxRecDepth 100000 in
set_option maxHeartbeats 2000000 in
theorem known18 (w : World) :
    Calls Try.prog 37 #[] w fun e w' => e = .returned (.bool true) ∧ Below w.heap.size w w' := by
  have lA : kA.length = 16 := rfl
  have lB : kB.length = 16 := rfl
  have HA := Lib.hid lA
  have HB := Lib.hid lB
  have HE0 : Hid (EndsAt w ((w.alloc (.cells (endC false kA 123) 61)).alloc (.cells (endC false kB 123) 61)) false false kA kB 123 123) := ends_new w false false kA kB 123 123 lA lB
  have G0 : Hid (EndAt ((w.alloc (.cells (endC false kA 123) 61)).alloc (.cells (endC false kB 123) 61)) w.heap.size false kA 123) := (endAt_new w false kA 123).below (below_alloc _ _)
  have G1 : Hid (EndAt ((w.alloc (.cells (endC false kA 123) 61)).alloc (.cells (endC false kB 123) 61)) (w.heap.size + 1) false kB 123) := by
    have := endAt_new (w.alloc (.cells (endC false kA 123) 61)) false kB 123
    rw [size_alloc] at this; exact this
  clear lA lB
  have kc := fun (w : World) (C : Array Value) (n c : Nat) => Lib.run_convert_bytes_const (P := Try.prog) w 24 5 C n c Try.underlying24 Try.underlying5
  have ta52 : True := trivial
  have tb52 : True := trivial
  have ta54 : True := trivial
  have tb54 : True := trivial
  have ta61 : True := trivial
  have tb61 : True := trivial
  go_enter Try.func37, Try.ntmps37
  go_wp2_with (first
    | (have _t := ta52; (with_reducible refine wpList_build 52 (kA.map byteV).toArray ?_ ?_); exact kc52a; clear ta52)
    | (have _t := tb52; (with_reducible refine wpList_build 52 (kB.map byteV).toArray ?_ ?_); exact kc52b; clear tb52)
    | (have _t := ta54; (with_reducible refine wpList_build 54 (adrC false kA) ?_ ?_); exact kc54a; clear ta54)
    | (have _t := tb54; (with_reducible refine wpList_build 54 (adrC false kB) ?_ ?_); exact kc54b; clear tb54)
    | (have _t := ta61; (with_reducible refine wpList_build 61 (endC false kA 123) ?_ ?_); exact kc61a; clear ta61)
    | (have _t := tb61; (with_reducible refine wpList_build 61 (endC false kB 123) ?_ ?_); exact kc61b; clear tb61)
    | ((with_reducible refine wpList_store61 w w.heap.size false kA 123 ?_ ?_ ?_ ?_ ?_ ?_); rfl; rfl; rfl; rfl; exact HA.out)
    | ((with_reducible refine wpList_store61 (w.alloc (.cells (endC false kA 123) 61)) (w.heap.size + 1) false kB 123 ?_ ?_ ?_ ?_ ?_ ?_); rfl; rfl; (exact (size_alloc _ _).symm); rfl; exact HB.out)
    | ((with_reducible refine wpList_load61 w.heap.size false kA 123 ?_ ?_ ?_ ?_); rfl; exact G0.out; exact HA.out)
    | ((with_reducible refine wpList_load61 (w.heap.size + 1) false kB 123 ?_ ?_ ?_ ?_); rfl; exact G1.out; exact HB.out)
    | fail)
  generalize (w.alloc (.cells (endC false kA 123) 61)).alloc (.cells (endC false kB 123) 61) = w2 at HE0 G0 G1 ⊢
  have HE : Hid (EndsAt w w2 false false kA kB 123 123) := HE0
  have hcalls := uput_yes (w2.alloc (.cells #[.int .u8 255] 5)) false kA kB 123 123 (.slice (some ⟨w2.heap.size, 0, none⟩) 1 1) [255] HA.out HB.out (bs_new w2 [255] _ 5 _ rfl (by decide)) (by decide) (by decide) (by decide)
  rw [HE.out.sz] at hcalls
  have HC := Lib.hid hcalls
  clear hcalls HE0 G0 G1
  refine HC.out.mono ?_
  rintro e w3 ⟨Y, a, c, rfl, hY, oY, bY, q1, q2⟩
  obtain ⟨hd1, hd2, hd3⟩ := ends_keep HE.out (below_past bY)
  have EY : Hid (Y = [0, 123, 0, 123, 0, 9, 235, 226, 255]) := hY.trans k18_1
  have OY : Hid (Bs w3 (.slice a Y.length c) Y) := oY.bs
  have K3 : Hid (AdrAt w3 w.heap.size 0 false kA ∧ AdrAt w3 (w.heap.size + 1) 0 false kB ∧ Below w.heap.size w w3) := ⟨hd1, hd2, hd3⟩
  clear hd1 hd2 hd3 hY oY bY HC HE
  have tok1 : True := trivial
  go_wp2_with (first | ((with_reducible refine wpList_load54 w.heap.size 0 false kA ?_ ?_ ?_ ?_); rfl; exact K3.out.1; exact HA.out) | ((with_reducible refine wpList_load54 (w.heap.size + 1) 0 false kB ?_ ?_ ?_ ?_); rfl; exact K3.out.2.1; exact HB.out))
  have M3 : Hid (AdrAt (w3.alloc (.cells #[.int .u8 0, .int .u8 123, .int .u8 0, .int .u8 123, .int .u8 0, .int .u8 9, .int .u8 235, .int .u8 226, .int .u8 255] 5 (9, 10))) w.heap.size 0 false kA ∧ AdrAt (w3.alloc (.cells #[.int .u8 0, .int .u8 123, .int .u8 0, .int .u8 123, .int .u8 0, .int .u8 9, .int .u8 235, .int .u8 226, .int .u8 255] 5 (9, 10))) (w.heap.size + 1) 0 false kB ∧ Below w.heap.size w (w3.alloc (.cells #[.int .u8 0, .int .u8 123, .int .u8 0, .int .u8 123, .int .u8 0, .int .u8 9, .int .u8 235, .int .u8 226, .int .u8 255] 5 (9, 10)))) :=
    ⟨K3.out.1.below (below_alloc _ _), K3.out.2.1.below (below_alloc _ _), K3.out.2.2.trans ((below_alloc _ _).mono K3.out.2.2.size)⟩
  refine (open_yes8 _ false kA kB _ [0, 123, 0, 123, 0, 9, 235, 226, 255] HA.out HB.out (show Bs (w3.alloc (.cells #[.int .u8 0, .int .u8 123, .int .u8 0, .int .u8 123, .int .u8 0, .int .u8 9, .int .u8 235, .int .u8 226, .int .u8 255] 5 (9, 10))) (.slice (some ⟨w3.heap.size, 0, none⟩) 9 9) [0, 123, 0, 123, 0, 9, 235, 226, 255] from bs_new w3 [0, 123, 0, 123, 0, 9, 235, 226, 255] #[.int .u8 0, .int .u8 123, .int .u8 0, .int .u8 123, .int .u8 0, .int .u8 9, .int .u8 235, .int .u8 226, .int .u8 255] 5 (9, 10) rfl (by decide)) 9 60386 k18_2.symm k18_3.symm (by decide) (by decide) (by decide) (by decide) k18_4).mono ?_
  rintro e w4 ⟨v4, rfl, hv4, b4⟩
  rw [k18_5, k18_6]
  obtain ⟨a4, e4, h41, h42, hat4⟩ := hv4
  have hv4 : Bs w4 (.slice a4 1 1) [255] := ⟨a4, 1, rfl, Nat.le_refl _, by decide, hat4⟩
  obtain rfl : v4 = .slice a4 1 1 := e4
  have OV4 := Lib.hid hv4
  have OY4 : Hid (Bs w4 (.slice a Y.length c) Y) := (OY.out.alloc _).below b4
  have K4 : Hid (AdrAt w4 w.heap.size 0 false kA ∧ AdrAt w4 (w.heap.size + 1) 0 false kB ∧ Below w.heap.size w w4) := ⟨M3.out.1.below b4, M3.out.2.1.below b4, M3.out.2.2.trans (b4.mono M3.out.2.2.size)⟩
  clear h41 h42 hat4 hv4 b4 M3 K3 OY
  go_wp2_with (first | ((with_reducible refine wpList_load54 w.heap.size 0 false kA ?_ ?_ ?_ ?_); rfl; exact K4.out.1; exact HA.out) | ((with_reducible refine wpList_load54 (w.heap.size + 1) 0 false kB ?_ ?_ ?_ ?_); rfl; exact K4.out.2.1; exact HB.out))
  have M4 : Hid (AdrAt (w4.alloc (.cells #[.int .u8 0, .int .u8 123, .int .u8 0, .int .u8 123, .int .u8 0, .int .u8 9, .int .u8 0, .int .u8 0, .int .u8 255] 5 (9, 10))) w.heap.size 0 false kA ∧ AdrAt (w4.alloc (.cells #[.int .u8 0, .int .u8 123, .int .u8 0, .int .u8 123, .int .u8 0, .int .u8 9, .int .u8 0, .int .u8 0, .int .u8 255] 5 (9, 10))) (w.heap.size + 1) 0 false kB ∧ Below w.heap.size w (w4.alloc (.cells #[.int .u8 0, .int .u8 123, .int .u8 0, .int .u8 123, .int .u8 0, .int .u8 9, .int .u8 0, .int .u8 0, .int .u8 255] 5 (9, 10)))) :=
    ⟨K4.out.1.below (below_alloc _ _), K4.out.2.1.below (below_alloc _ _), K4.out.2.2.trans ((below_alloc _ _).mono K4.out.2.2.size)⟩
  refine (open_yes6 _ kA kB _ [0, 123, 0, 123, 0, 9, 0, 0, 255] HA.out HB.out (show Bs (w4.alloc (.cells #[.int .u8 0, .int .u8 123, .int .u8 0, .int .u8 123, .int .u8 0, .int .u8 9, .int .u8 0, .int .u8 0, .int .u8 255] 5 (9, 10))) (.slice (some ⟨w4.heap.size, 0, none⟩) 9 9) [0, 123, 0, 123, 0, 9, 0, 0, 255] from bs_new w4 [0, 123, 0, 123, 0, 9, 0, 0, 255] #[.int .u8 0, .int .u8 123, .int .u8 0, .int .u8 123, .int .u8 0, .int .u8 9, .int .u8 0, .int .u8 0, .int .u8 255] 5 (9, 10) rfl (by decide)) 9 0 k18_7.symm k18_8.symm (by decide) (by decide) (by decide) rfl).mono ?_
  rintro e w5 ⟨v5, rfl, hv5, b5⟩
  rw [k18_9, k18_10]
  obtain ⟨a5, e5, h51, h52, hat5⟩ := hv5
  have hv5 : Bs w5 (.slice a5 1 1) [255] := ⟨a5, 1, rfl, Nat.le_refl _, by decide, hat5⟩
  obtain rfl : v5 = .slice a5 1 1 := e5
  have OV5 := Lib.hid hv5
  have OV45 : Hid (Bs w5 (.slice a4 1 1) [255]) := (OV4.out.alloc _).below b5
  have OY5 : Hid (Bs w5 (.slice a Y.length c) Y) := (OY4.out.alloc _).below b5
  have K5 : Hid (AdrAt w5 w.heap.size 0 false kA ∧ AdrAt w5 (w.heap.size + 1) 0 false kB ∧ Below w.heap.size w w5) := ⟨M4.out.1.below b5, M4.out.2.1.below b5, M4.out.2.2.trans (b5.mono M4.out.2.2.size)⟩
  clear h51 h52 hat5 hv5 b5 M4 K4 OY4 OV4
  go_wp2_with (first | ((with_reducible refine wpList_load54 w.heap.size 0 false kA ?_ ?_ ?_ ?_); rfl; exact K5.out.1; exact HA.out) | ((with_reducible refine wpList_load54 (w.heap.size + 1) 0 false kB ?_ ?_ ?_ ?_); rfl; exact K5.out.2.1; exact HB.out))
  refine (open_no7 _ false kA kB _ [0, 123, 0, 123, 0, 9, 235, 227, 255] HA.out HB.out (show Bs (w5.alloc (.cells #[.int .u8 0, .int .u8 123, .int .u8 0, .int .u8 123, .int .u8 0, .int .u8 9, .int .u8 235, .int .u8 227, .int .u8 255] 5 (9, 10))) (.slice (some ⟨w5.heap.size, 0, none⟩) 9 9) [0, 123, 0, 123, 0, 9, 235, 227, 255] from bs_new w5 [0, 123, 0, 123, 0, 9, 235, 227, 255] #[.int .u8 0, .int .u8 123, .int .u8 0, .int .u8 123, .int .u8 0, .int .u8 9, .int .u8 235, .int .u8 227, .int .u8 255] 5 (9, 10) rfl (by decide)) 9 60387 k18_11.symm k18_12.symm (by decide) (by decide) (by decide) (by decide) k18_13).mono ?_
  rintro e w6 ⟨rfl, b6⟩
  have hk1 := conv_lit ⟨#[0, 123, 0, 123, 0, 9, 235, 226, 255]⟩ ((OY5.out.alloc _).below b6) (by rw [EY.out]; rfl)
  have hk2 := conv_lit ⟨#[255]⟩ ((OV45.out.alloc _).below b6) rfl
  have hk3 := conv_lit ⟨#[255]⟩ ((OV5.out.alloc _).below b6) rfl
  have K6 : Hid (Below w.heap.size w w6) := K5.out.2.2.trans ((below_past b6).mono K5.out.2.2.size)
  clear b6 K5 OY5 OV45 OV5
  go_wp2_with fail
  go_ret
  exact ⟨rfl, K6.out⟩
end Go.Proofs.Ytnckmaieghlpmaa
