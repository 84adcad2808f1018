/-
  The walk of horologelaw17.known.
-/
import Derived.Test.YtnckmaieghlpmaaZ7
import Derived.Test.YtnckmaieghlpmaaZ4
namespace Go.Proofs.Ytnckmaieghlpmaa
open Go.RowKit
set_option linter.unusedVariables false
set_option linter.unusedSimpArgs false

def nm0 : NameD := ⟨false, [0, 0, 0, 0, 0, 0, 0, 0, 0, 0, 0, 0, 0, 0, 0, 0], false, [0, 0, 0, 0, 0, 0, 0, 0, 0, 0, 0, 0, 0, 0, 0, 0], 0, 0⟩
def pt0 (pos : Int) (more : Bool) (bs : List UInt8) : PartD := ⟨nm0, pos, more, bs⟩
theorem nm0_fit : nm0.fit := ⟨⟨rfl, rfl⟩, by decide, by decide⟩
theorem built90a (a : Int) (ad : Option Addr) (n c : Nat) (bs : List UInt8) : Try.prog.built 90 [(4, .int .i64 a), (6, .slice ad n c)] = some (partA (pt0 a false bs) (.slice ad n c)) := by kernel_rfl
theorem built90b (ad : Option Addr) (n c : Nat) (bs : List UInt8) : Try.prog.built 90 [(5, .bool true), (6, .slice ad n c)] = some (partA (pt0 0 true bs) (.slice ad n c)) := by kernel_rfl
theorem make1 (w : World) : (Instr.makeSlice 24 (.int .i64 1) (.int .i64 1)).run Try.prog w = .ok (.slice (some ⟨w.heap.size, 0, none⟩) 1 1) (w.alloc (.cells #[.int .u8 0] 5)) := by kernel_rfl
theorem make5 (w : World) : (Instr.makeSlice 24 (.int .i64 5) (.int .i64 5)).run Try.prog w = .ok (.slice (some ⟨w.heap.size, 0, none⟩) 5 5) (w.alloc (.cells #[.int .u8 0, .int .u8 0, .int .u8 0, .int .u8 0, .int .u8 0] 5)) := by kernel_rfl
theorem make7 (w : World) : (Instr.makeSlice 24 (.int .i64 7) (.int .i64 7)).run Try.prog w = .ok (.slice (some ⟨w.heap.size, 0, none⟩) 7 7) (w.alloc (.cells #[.int .u8 0, .int .u8 0, .int .u8 0, .int .u8 0, .int .u8 0, .int .u8 0, .int .u8 0] 5)) := by kernel_rfl
theorem make8 (w : World) : (Instr.makeSlice 24 (.int .i64 8) (.int .i64 8)).run Try.prog w = .ok (.slice (some ⟨w.heap.size, 0, none⟩) 8 8) (w.alloc (.cells #[.int .u8 0, .int .u8 0, .int .u8 0, .int .u8 0, .int .u8 0, .int .u8 0, .int .u8 0, .int .u8 0] 5)) := by kernel_rfl
theorem make16 (w : World) : (Instr.makeSlice 24 (.int .i64 16) (.int .i64 16)).run Try.prog w = .ok (.slice (some ⟨w.heap.size, 0, none⟩) 16 16) (w.alloc (.cells #[.int .u8 0, .int .u8 0, .int .u8 0, .int .u8 0, .int .u8 0, .int .u8 0, .int .u8 0, .int .u8 0, .int .u8 0, .int .u8 0, .int .u8 0, .int .u8 0, .int .u8 0, .int .u8 0, .int .u8 0, .int .u8 0] 5)) := by kernel_rfl
attribute [local go_sem] make1 make5 make7 make8 make16
theorem kt1 : takeS 2 100 ([]) (pt0 8 false [8, 9, 10]) = ⟨[(nm0, [pt0 8 false [8, 9, 10]])], [], false, 7⟩ := by kernel_rfl
theorem kt2 : takeS 2 100 ([(nm0, [pt0 8 false [8, 9, 10]])]) (pt0 0 true [0, 1, 2, 3, 4, 5, 6, 7]) = ⟨[], [0, 1, 2, 3, 4, 5, 6, 7, 8, 9, 10], true, 0⟩ := by kernel_rfl
theorem kt3 : takeS 2 100 ([]) (pt0 0 true [0, 0, 0, 0, 0, 0, 0, 0]) = ⟨[(nm0, [pt0 0 true [0, 0, 0, 0, 0, 0, 0, 0]])], [], false, 7⟩ := by kernel_rfl
theorem kt4 : takeS 2 100 ([(nm0, [pt0 0 true [0, 0, 0, 0, 0, 0, 0, 0]])]) (pt0 0 true [0, 0, 0, 0, 0, 0, 0, 0]) = ⟨[(nm0, [pt0 0 true [0, 0, 0, 0, 0, 0, 0, 0]])], [], false, 7⟩ := by kernel_rfl
theorem kt5 : takeS 2 100 ([(nm0, [pt0 0 true [0, 0, 0, 0, 0, 0, 0, 0]])]) (pt0 0 true [0, 0, 0, 0, 0, 0, 0, 0, 0, 0, 0, 0, 0, 0, 0, 0]) = ⟨[], [], false, 8⟩ := by kernel_rfl
theorem kt6 : takeS 2 100 ([]) (pt0 4 false [0]) = ⟨[], [], false, 8⟩ := by kernel_rfl
theorem kt7 : takeS 2 100 ([]) (pt0 96 false [0, 0, 0, 0, 0]) = ⟨[], [], false, 8⟩ := by kernel_rfl
theorem kt8 : takeS 2 100 ([]) (pt0 0 true [0, 0, 0, 0, 0, 0, 0]) = ⟨[], [], false, 8⟩ := by kernel_rfl

set_option maxRecDepth 100000 in
set_option maxHeartbeats 8000000 in
theorem known17 (w : World) :
    Calls Try.prog 47 #[] w fun e w' => e = .returned (.bool true) ∧ Below w.heap.size w w' := by
  have hd : decide (mkS [0, 1, 2, 3, 4, 5, 6, 7, 8, 9, 10] = mkS [0, 1, 2, 3, 4, 5, 6, 7, 8, 9, 10]) = true := by simp
  clear hd
  go_enter Try.func47, Try.ntmps47
  go_wp2_with fail
  refine (new_any w 2 100).mono ?_
  rintro e w1 ⟨rfl, rfl⟩
  have K0 := Lib.hid (ks_new w w w.heap.size 2 100 0 (Below.refl _ _) (Nat.le_refl _))
  generalize (w.alloc (.cells #[.int .i64 2, .int .i64 100, .slice none 0 0] 115)) = w0 at K0 ⊢
  go_wp2_with ((with_reducible refine wpList_build 90 (partA (pt0 8 false [8, 9, 10]) (.slice _ _ _)) ?_ ?_); exact built90a _ _ _ _ _)
  refine (ks_take (K0.out.alloc _) kt1 (by decide) nm0_fit (bs_new _ [8, 9, 10] _ 5 _ rfl (by decide)) (fun _ => K0.out.new _ _) (by decide) (by decide)).mono ?_
  rintro e w1 ⟨u, M1, rfl, ho, hk, _, _, _⟩
  obtain ⟨a1, c1, rfl, _, _⟩ := ownsRow_shape ho
  have K1 := Lib.hid hk
  clear ho hk
  go_wp2_with ((with_reducible refine wpList_build 90 (partA (pt0 0 true [0, 1, 2, 3, 4, 5, 6, 7]) (.slice _ _ _)) ?_ ?_); exact built90b _ _ _ _)
  refine (ks_take (K1.out.alloc _) kt2 (by decide) nm0_fit (bs_new _ [0, 1, 2, 3, 4, 5, 6, 7] _ 5 _ rfl (by decide)) (fun _ => K1.out.new _ _) (by decide) (by decide)).mono ?_
  rintro e w2 ⟨u, M2, rfl, ho, hk, _, _, _⟩
  obtain ⟨a2, c2, rfl, _, _⟩ := ownsRow_shape ho
  have K2 := Lib.hid hk
  have hcv : (convert 24 9 (.slice a2 11 c2)).run Try.prog w2 = .ok (.string ⟨#[0, 1, 2, 3, 4, 5, 6, 7, 8, 9, 10]⟩) w2 := conv_bs ho.bs
  clear ho hk
  go_wp2_with ((with_reducible refine wpList_build 90 (partA (pt0 0 true [0, 0, 0, 0, 0, 0, 0, 0]) (.slice _ _ _)) ?_ ?_); exact built90b _ _ _ _)
  refine (ks_take (K2.out.alloc _) kt3 (by decide) nm0_fit (bs_new _ [0, 0, 0, 0, 0, 0, 0, 0] _ 5 _ rfl (by decide)) (fun _ => K2.out.new _ _) (by decide) (by decide)).mono ?_
  rintro e w3 ⟨u, M3, rfl, ho, hk, _, _, _⟩
  obtain ⟨a3, c3, rfl, _, _⟩ := ownsRow_shape ho
  have K3 := Lib.hid hk
  clear ho hk
  go_wp2_with ((with_reducible refine wpList_build 90 (partA (pt0 0 true [0, 0, 0, 0, 0, 0, 0, 0]) (.slice _ _ _)) ?_ ?_); exact built90b _ _ _ _)
  refine (ks_take (K3.out.alloc _) kt4 (by decide) nm0_fit (bs_new _ [0, 0, 0, 0, 0, 0, 0, 0] _ 5 _ rfl (by decide)) (fun _ => K3.out.new _ _) (by decide) (by decide)).mono ?_
  rintro e w4 ⟨u, M4, rfl, ho, hk, _, _, _⟩
  obtain ⟨a4, c4, rfl, _, _⟩ := ownsRow_shape ho
  have K4 := Lib.hid hk
  clear ho hk
  go_wp2_with ((with_reducible refine wpList_build 90 (partA (pt0 0 true [0, 0, 0, 0, 0, 0, 0, 0, 0, 0, 0, 0, 0, 0, 0, 0]) (.slice _ _ _)) ?_ ?_); exact built90b _ _ _ _)
  refine (ks_take (K4.out.alloc _) kt5 (by decide) nm0_fit (bs_new _ [0, 0, 0, 0, 0, 0, 0, 0, 0, 0, 0, 0, 0, 0, 0, 0] _ 5 _ rfl (by decide)) (fun _ => K4.out.new _ _) (by decide) (by decide)).mono ?_
  rintro e w5 ⟨u, M5, rfl, ho, hk, _, _, _⟩
  obtain ⟨a5, c5, rfl, _, _⟩ := ownsRow_shape ho
  have K5 := Lib.hid hk
  clear ho hk
  go_wp2_with fail
  refine (ks_live K5.out (by decide)).mono ?_
  rintro e w5b ⟨rfl, hb⟩
  have K5b := Lib.hid (K5.out.below hb)
  clear hb
  go_wp2_with ((with_reducible refine wpList_build 90 (partA (pt0 4 false [0]) (.slice _ _ _)) ?_ ?_); exact built90a _ _ _ _ _)
  refine (ks_take (K5b.out.alloc _) kt6 (by decide) nm0_fit (bs_new _ [0] _ 5 _ rfl (by decide)) (fun _ => K5b.out.new _ _) (by decide) (by decide)).mono ?_
  rintro e w6 ⟨u, M6, rfl, ho, hk, _, _, _⟩
  obtain ⟨a6, c6, rfl, _, _⟩ := ownsRow_shape ho
  have K6 := Lib.hid hk
  clear ho hk
  go_wp2_with ((with_reducible refine wpList_build 90 (partA (pt0 96 false [0, 0, 0, 0, 0]) (.slice _ _ _)) ?_ ?_); exact built90a _ _ _ _ _)
  refine (ks_take (K6.out.alloc _) kt7 (by decide) nm0_fit (bs_new _ [0, 0, 0, 0, 0] _ 5 _ rfl (by decide)) (fun _ => K6.out.new _ _) (by decide) (by decide)).mono ?_
  rintro e w7 ⟨u, M7, rfl, ho, hk, _, _, _⟩
  obtain ⟨a7, c7, rfl, _, _⟩ := ownsRow_shape ho
  have K7 := Lib.hid hk
  clear ho hk
  go_wp2_with ((with_reducible refine wpList_build 90 (partA (pt0 0 true [0, 0, 0, 0, 0, 0, 0]) (.slice _ _ _)) ?_ ?_); exact built90b _ _ _ _)
  refine (ks_take (K7.out.alloc _) kt8 (by decide) nm0_fit (bs_new _ [0, 0, 0, 0, 0, 0, 0] _ 5 _ rfl (by decide)) (fun _ => K7.out.new _ _) (by decide) (by decide)).mono ?_
  rintro e w8 ⟨u, M8, rfl, ho, hk, _, _, _⟩
  obtain ⟨a8, c8, rfl, _, _⟩ := ownsRow_shape ho
  have K8 := Lib.hid hk
  clear ho hk
  go_wp2_with fail
  go_ret
  exact ⟨rfl, K8.out.bel⟩
end Go.Proofs.Ytnckmaieghlpmaa
