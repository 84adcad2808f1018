/-
  The walk of horologelaw14.known.
-/
import Derived.Test.YtnckmaieghlpmaaLkOpen
import Derived.Test.YtnckmaieghlpmaaLput2
import Derived.Test.YtnckmaieghlpmaaStr
import Derived.Lib.SlBytesConst
namespace Go.Proofs.Ytnckmaieghlpmaa
open Go.RowKit
set_option linter.unusedVariables false

def LkLit (w : World) (k : Int) (xs : List UInt8) (n : Nat) (d : Int) (e : Ending) (w' : World) : Prop :=
  ∃ a, e = .returned (.tuple #[.int .i64 k, .slice a n n, .int .u8 d]) ∧ Bs w' (.slice a n n) xs ∧ Below w.heap.size w w'
def LpLit (w : World) (xs : List UInt8) (n : Nat) (k : Int) (e : Ending) (w' : World) : Prop :=
  ∃ a c, e = .returned (.tuple #[.slice a n c, .int .i64 k]) ∧ Bs w' (.slice a n c) xs ∧ Below w.heap.size w w'
theorem open_lit (w : World) (l : Nat) (v : Value) (bs : List UInt8) (k d : Nat) (xs : List UInt8) (hb : Bs w v bs) (h : lkOpen l bs = (k, xs, d)) : Calls Try.prog 43 #[.int .u16 l, v] w (LkLit w k xs xs.length d) := by
  have := lopen_any w l v bs hb
  rw [h] at this; exact this
theorem put_lit (w : World) (l : Nat) (v : Int) (vt vb : Value) (ts : List Nat) (bs : List UInt8) (xs : List UInt8) (k : Nat) (ht : Ns w vt ts) (hb : Bs w vb bs) (hl : bs.length ≤ 4294967296) (h : lkPut l v ts bs = (xs, k)) :
    Calls Try.prog 45 #[.int .u16 l, .int .i64 v, vt, vb] w (LpLit w xs xs.length k) := by
  have := lput_any w l v vt vb ts bs ht hb hl
  rw [h] at this; exact this
theorem bs_none (w : World) : Bs w (.slice none 0 0) [] := ⟨none, 0, rfl, Nat.le_refl _, Nat.zero_le _, .inl rfl⟩
theorem ns_none (w : World) : Ns w (.slice none 0 0) [] := ⟨none, 0, rfl, Nat.le_refl _, Nat.zero_le _, .inl rfl, by simp⟩
theorem conv14 {w : World} {v : Value} {bs : List UInt8} (S : ByteArray) (h : Bs w v bs) (hS : mkS bs = S) : (convert 24 9 v).run Try.prog w = .ok (.string S) w := hS ▸ conv_bs h
theorem at_none {w w' : World} {o : Obj} (h : Below (w.alloc o).heap.size (w.alloc o) w') : Below w.heap.size w w' := below_past h

set_option maxRecDepth 100000 in
set_option maxHeartbeats 2000000 in
theorem known14 (w : World) : Calls Try.prog 42 #[] w fun e w' => e = .returned (.bool true) ∧ Below w.heap.size w w' := by
  have kc := fun (w : World) (C : Array Value) (n c : Nat) => Lib.run_convert_bytes_const (P := Try.prog) w 24 5 C n c Try.underlying24 Try.underlying5
  have L0 : Hid (Below w.heap.size w w) := Lib.hid (Below.refl _ _)
  go_enter Try.func42, Try.ntmps42
  go_wp2_with fail
  refine (show Calls Try.prog 43 #[.int .u16 101, .slice (some ⟨w.heap.size, 0, none⟩) 1 1] (w.alloc (.cells #[.int .u8 69] 5)) (LkLit _ 4 [69] 1 0) from open_lit _ 101 _ [69] 4 0 [69] (bs_new w [69] _ 5 _ rfl (by decide)) (by decide +kernel)).mono ?_
  rintro e w1 ⟨a1, rfl, hb1, bel1⟩
  have L1 : Hid (Below w.heap.size w w1) := Lib.hid (L0.out.trans ((below_past bel1).mono L0.out.size))
  clear bel1 L0
  clear hb1
  go_wp2_with fail
  refine (show Calls Try.prog 43 #[.int .u16 101, .slice (some ⟨w1.heap.size, 0, none⟩) 1 1] (w1.alloc (.cells #[.int .u8 96] 5)) (LkLit _ 6 [96] 1 0) from open_lit _ 101 _ [96] 6 0 [96] (bs_new w1 [96] _ 5 _ rfl (by decide)) (by decide +kernel)).mono ?_
  rintro e w2 ⟨a2, rfl, hb2, bel2⟩
  have L2 : Hid (Below w.heap.size w w2) := Lib.hid (L1.out.trans ((below_past bel2).mono L1.out.size))
  clear bel2 L1
  clear hb2
  go_wp2_with fail
  refine (show Calls Try.prog 43 #[.int .u16 101, .slice (some ⟨w2.heap.size, 0, none⟩) 1 1] (w2.alloc (.cells #[.int .u8 21] 5)) (LkLit _ 0 [] 0 2) from open_lit _ 101 _ [21] 0 2 [] (bs_new w2 [21] _ 5 _ rfl (by decide)) (by decide +kernel)).mono ?_
  rintro e w3 ⟨a3, rfl, hb3, bel3⟩
  have L3 : Hid (Below w.heap.size w w3) := Lib.hid (L2.out.trans ((below_past bel3).mono L2.out.size))
  clear bel3 L2
  clear hb3
  go_wp2_with fail
  refine (show Calls Try.prog 43 #[.int .u16 101, .slice none 0 0] w3 (LkLit w3 0 [] 0 3) from open_lit _ 101 _ [] 0 3 [] (bs_none _) (by decide +kernel)).mono ?_
  rintro e w4 ⟨a4, rfl, hb4, bel4⟩
  have L4 : Hid (Below w.heap.size w w4) := Lib.hid (L3.out.trans (bel4.mono L3.out.size))
  clear bel4 L3
  clear hb4
  go_wp2_with fail
  refine (show Calls Try.prog 43 #[.int .u16 1, .slice (some ⟨w4.heap.size, 0, none⟩) 19 19] (w4.alloc (.cells #[.int .u8 0, .int .u8 0, .int .u8 0, .int .u8 0, .int .u8 0, .int .u8 0, .int .u8 0, .int .u8 0, .int .u8 0, .int .u8 0, .int .u8 0, .int .u8 0, .int .u8 129, .int .u8 0, .int .u8 0, .int .u8 5, .int .u8 8, .int .u8 0, .int .u8 69] 5 (19, 20))) (LkLit _ 4 [69] 1 0) from open_lit _ 1 _ [0, 0, 0, 0, 0, 0, 0, 0, 0, 0, 0, 0, 129, 0, 0, 5, 8, 0, 69] 4 0 [69] (bs_new w4 [0, 0, 0, 0, 0, 0, 0, 0, 0, 0, 0, 0, 129, 0, 0, 5, 8, 0, 69] _ 5 _ rfl (by decide)) (by decide +kernel)).mono ?_
  rintro e w5 ⟨a5, rfl, hb5, bel5⟩
  have L5 : Hid (Below w.heap.size w w5) := Lib.hid (L4.out.trans ((below_past bel5).mono L4.out.size))
  clear bel5 L4
  have HB5 := Lib.hid hb5
  clear hb5
  go_wp2_with fail
  refine (show Calls Try.prog 45 #[.int .u16 113, .int .i64 6, .slice none 0 0, .slice (some ⟨w5.heap.size, 0, none⟩) 1 1] (w5.alloc (.cells #[.int .u8 96] 5)) (LpLit _ [0, 0, 0, 1, 0, 6, 0, 0, 0, 0, 0, 0, 0, 0, 134, 221, 96] 17 0) from put_lit _ 113 6 _ _ [] [96] [0, 0, 0, 1, 0, 6, 0, 0, 0, 0, 0, 0, 0, 0, 134, 221, 96] 0 (ns_none _) (bs_new w5 [96] _ 5 _ rfl (by decide)) (by decide) (by decide +kernel)).mono ?_
  rintro e w6 ⟨a6, c6, rfl, hb6, bel6⟩
  have L6 : Hid (Below w.heap.size w w6) := Lib.hid (L5.out.trans ((below_past bel6).mono L5.out.size))
  have hk1 := conv14 ⟨#[69]⟩ ((HB5.out.alloc _).below bel6) rfl
  have hk2 := conv14 ⟨#[0, 0, 0, 1, 0, 6, 0, 0, 0, 0, 0, 0, 0, 0, 134, 221, 96]⟩ hb6 rfl
  clear hb6 bel6 HB5 L5
  go_wp2_with fail
  go_ret
  exact ⟨rfl, L6.out⟩
end Go.Proofs.Ytnckmaieghlpmaa
