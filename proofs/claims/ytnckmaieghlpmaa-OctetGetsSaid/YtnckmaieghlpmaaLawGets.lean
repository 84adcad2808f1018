/-
  The walk of horologelaw07.OctetGets.
-/
import Derived.Test.YtnckmaieghlpmaaKnown7
import Derived.Test.YtnckmaieghlpmaaStr
import Derived.Deep.QuietTactic
import Derived.BigQuiet
namespace Go.Proofs.Ytnckmaieghlpmaa
open Go.RowKit
set_option linter.unusedVariables false

set_option maxRecDepth 100000 in
set_option maxHeartbeats 1000000 in
theorem law_gets_yes (w : World) (v : Value) (bs : List UInt8) (lit : Bool) (n m : Nat) (hb : Bs w v bs) (hl : bs.length ≤ 300) (h : n + m ≤ bs.length) :
    Calls Try.prog 4 #[v, .bool lit, .int .i64 n, .int .i64 m] w fun e w' => e = .returned (.bool true) ∧ Below w.heap.size w w' := by
  have HB := Lib.hid hb
  obtain ⟨a, c, rfl, hl1, hl2, hat⟩ := hb
  clear hat
  unfold maxLen at hl2
  obtain ⟨N, hN⟩ : ∃ N, N = getN lit bs n m := ⟨_, rfl⟩
  obtain ⟨ok, hok⟩ : ∃ ok, ok = getOk bs n m := ⟨_, rfl⟩
  have HN := Lib.hid hN
  have HK := Lib.hid hok
  clear hN hok
  go_enter Try.func4, Try.ntmps4
  go_wp2_with fail
  refine (known7 _).mono ?_; rintro e w1 ⟨rfl, hb1⟩
  have HB1 : Hid (Bs w1 _ bs) := HB.out.below hb1
  have HE1 := Lib.hid hb1
  clear hb1 HB
  go_wp2_with fail
  refine (get_any _ _ bs lit n m (HB1.out.alloc _)).mono ?_; rintro e w2 ⟨rfl, hb2⟩
  rw [← HN.out, ← HK.out]
  have hc0 := (cell_behind hb2 0).trans (World.cell?_alloc_new ..)
  have hc1 := (cell_behind hb2 1).trans (World.cell?_alloc_new ..)
  have hs2 : w1.heap.size < w2.heap.size := by have := hb2.size; simp at this; omega
  have HB2 : Hid (Bs w2 _ bs) := HB1.out.below (below_past hb2)
  have HE2 : Hid (Below w.heap.size w w2) := HE1.out.trans ((below_past hb2).mono HE1.out.size)
  clear HB1 hb2
  go_wp2_with fail
  refine (rget_any _ _ bs lit n m HB2.out).mono ?_; rintro e w3 ⟨rfl, rfl⟩
  rw [← HN.out, ← HK.out]
  go_wp2_with fail
  refine (cut_yes _ _ bs lit n m HB2.out h).mono ?_; rintro e w3 ⟨v1, rfl, hv1, hb3⟩
  obtain ⟨seg, hseg⟩ : ∃ seg, seg = (bs.drop n).take m := ⟨_, rfl⟩
  rw [← hseg] at hv1
  have hlen : m = seg.length := by rw [hseg]; simp; omega
  subst hlen
  have HSEG := Lib.hid hseg
  clear hseg
  have hd0 := (hb3.cell (p := ⟨w1.heap.size, 0, none⟩) hs2).trans hc0
  have hd1 := (hb3.cell (p := ⟨w1.heap.size, 1, none⟩) hs2).trans hc1
  have hs3 : w1.heap.size < w3.heap.size := by have := hb3.size; omega
  have HB3 : Hid (Bs w3 _ bs) := HB2.out.below hb3
  have HE3 : Hid (Below w.heap.size w w3) := HE2.out.trans (hb3.mono HE2.out.size)
  have hk1 : ∀ k, (convert 24 9 v1).run Try.prog (w3.drewN k) = .ok (.string (mkS seg)) (w3.drewN k) := fun k => conv_bs (w := w3.drewN k) hv1.bs
  obtain ⟨a1, rfl, hm1, hm2, hat⟩ := hv1
  clear hb3 hc0 hc1 HB2 HE2 hat hs2
  have hth : (seg.length : Int) ≤ (bs.length : Int) - (n : Int) := by omega
  obtain ⟨S, hS⟩ : ∃ S, S = mkS seg := ⟨_, rfl⟩
  simp only [← hS] at hk1
  obtain ⟨a2, ha2⟩ : ∃ a2, a2 = if c = n then a else Option.map (fun x => x.add n) a := ⟨_, rfl⟩
  have hk2 : ∀ k, (convert 24 9 (.slice a2 seg.length (c - n))).run Try.prog (w3.drewN k) = .ok (.string S) (w3.drewN k) := by
    intro k
    rw [hS]
    apply conv_bs (w := w3.drewN k)
    show Bs w3 _ _
    obtain ⟨c', hc'⟩ := HB3.out.cap
    have hcc : c' = c := by obtain ⟨_, e, _⟩ := hc'; simp only [Value.slice.injEq] at e; exact e.2.2.symm
    subst hcc
    have := (bsc_sliced hc' (l := n) (hi := n + seg.length) (m := c') (by omega) (by omega) (Nat.le_refl _) (by omega)).bs
    rw [show n + seg.length - n = seg.length by omega, ← HSEG.out] at this
    rw [ha2]
    simpa [sliced] using this
  have hsl : ∀ X, (Instr.slice 24 (.slice a bs.length c) (some (.int .i64 n)) (some (.int .i64 (n + seg.length))) none).run Try.prog X = .ok (.slice a2 seg.length (c - n)) X := by
    intro X
    rw [ha2]
    have h0 : (n : Int) + (seg.length : Int) ≤ c := by omega
    have h1 : (0 : Int) ≤ (n : Int) + (seg.length : Int) := by omega
    have h2 : n ≤ ((n : Int) + (seg.length : Int)).toNat := by omega
    have h3 : ((n : Int) + (seg.length : Int)).toNat - n = seg.length := by omega
    simp [go_sem, h0, h1, h2, h3, sliced]
  clear ha2 hS
  go_wp2_with fail
  go_quiet (fail)
  obtain ⟨w4, hw4, hb4⟩ : ∃ w4, w4 = w3.drewN nq ∧ Below w3.heap.size w3 w4 := ⟨_, rfl, below_drewN _ _⟩
  have hc0 := (hb4.cell (p := ⟨w1.heap.size, 0, none⟩) hs3).trans hd0
  have hc1 := (hb4.cell (p := ⟨w1.heap.size, 1, none⟩) hs3).trans hd1
  have hs4 : w1.heap.size < w4.heap.size := by have := hb4.size; omega
  have HB4 : Hid (Bs w4 (.slice a bs.length c) bs) := HB3.out.below hb4
  have HE4 : Hid (Below w.heap.size w w4) := HE3.out.trans (hb4.mono HE3.out.size)
  clear hb4
  rw [← hw4]
  clear hw4 hd0 hd1 hs3 HB3 HE3 hk1 hk2 hsl HSEG
  obtain ⟨N2, hN2⟩ : ∃ N, N = getN lit bs n 2 := ⟨_, rfl⟩
  obtain ⟨N4, hN4⟩ : ∃ N, N = getN lit bs n 4 := ⟨_, rfl⟩
  obtain ⟨N8, hN8⟩ : ∃ N, N = getN lit bs n 8 := ⟨_, rfl⟩
  have b2 : N2 < 65536 := hN2 ▸ getN_lt lit bs n 2
  have b4 : N4 < 4294967296 := hN4 ▸ getN_lt lit bs n 4
  have H2 := Lib.hid hN2
  have H4 := Lib.hid hN4
  have H8 := Lib.hid hN8
  clear hN2 hN4 hN8
  go_wp2_with fail
  refine (rget_any _ _ bs lit n 2 HB4.out).mono ?_; rintro e w5 ⟨rfl, rfl⟩
  rw [← H2.out]
  go_wp2_with fail
  refine (rget_any _ _ bs lit n 4 HB4.out).mono ?_; rintro e w5 ⟨rfl, rfl⟩
  rw [← H4.out]
  go_wp2_with fail
  refine (rget_any _ _ bs lit n 8 HB4.out).mono ?_; rintro e w5 ⟨rfl, rfl⟩
  rw [← H8.out]
  go_wp2_with fail
  refine (u16_any _ _ bs lit n HB4.out).mono ?_; rintro e w5 ⟨rfl, hb5⟩
  rw [← H2.out]
  have hd0 := (hb5.cell (p := ⟨w1.heap.size, 0, none⟩) hs4).trans hc0
  have hd1 := (hb5.cell (p := ⟨w1.heap.size, 1, none⟩) hs4).trans hc1
  have hs5 : w1.heap.size < w5.heap.size := by have := hb5.size; omega
  have HB5 : Hid (Bs w5 _ bs) := HB4.out.below hb5
  have HE5 : Hid (Below w.heap.size w w5) := HE4.out.trans (hb5.mono HE4.out.size)
  clear hb5 HB4 HE4 hc0 hc1
  go_wp2_with fail
  refine (u32_any _ _ bs lit n HB5.out).mono ?_; rintro e w6 ⟨rfl, hb6⟩
  rw [← H4.out]
  have hc0 := (hb6.cell (p := ⟨w1.heap.size, 0, none⟩) hs5).trans hd0
  have hc1 := (hb6.cell (p := ⟨w1.heap.size, 1, none⟩) hs5).trans hd1
  have HB6 : Hid (Bs w6 _ bs) := HB5.out.below hb6
  have HE6 : Hid (Below w.heap.size w w6) := HE5.out.trans (hb6.mono HE5.out.size)
  clear hb6 HB5 HE5 hd0 hd1
  go_wp2_with fail
  refine (u64_any _ _ bs lit n HB6.out).mono ?_; rintro e w7 ⟨rfl, hb7⟩
  rw [← H8.out]
  have HE7 : Hid (Below w.heap.size w w7) := HE6.out.trans (hb7.mono HE6.out.size)
  clear hb7
  go_wp2_with fail
  go_ret
  exact ⟨rfl, HE7.out⟩
set_option maxRecDepth 100000 in
set_option maxHeartbeats 1000000 in
theorem law_gets_no1 (w : World) (v : Value) (bs : List UInt8) (lit : Bool) (n m : Int) (hb : Bs w v bs) (hl : bs.length ≤ 300) (h1 : n < 0) :
    Calls Try.prog 4 #[v, .bool lit, .int .i64 n, .int .i64 m] w fun e w' => e = .returned (.bool true) ∧ Below w.heap.size w w' := by
  have HB := Lib.hid hb
  obtain ⟨a, c, rfl, hl1, hl2, hat⟩ := hb
  clear hat
  unfold maxLen at hl2
  have hno : ¬ (0 ≤ n ∧ 0 ≤ m ∧ n + m ≤ bs.length) := by omega
  have HNO := Lib.hid hno
  clear hno
  obtain ⟨N, hN⟩ : ∃ N, N = getN lit bs n m := ⟨_, rfl⟩
  obtain ⟨ok, hok⟩ : ∃ ok, ok = getOk bs n m := ⟨_, rfl⟩
  have HN := Lib.hid hN
  have HK := Lib.hid hok
  clear hN hok
  go_enter Try.func4, Try.ntmps4
  go_wp2_with fail
  refine (known7 _).mono ?_; rintro e w1 ⟨rfl, hb1⟩
  have HB1 : Hid (Bs w1 _ bs) := HB.out.below hb1
  have HE1 := Lib.hid hb1
  clear hb1 HB
  go_wp2_with fail
  refine (get_any _ _ bs lit n m (HB1.out.alloc _)).mono ?_; rintro e w2 ⟨rfl, hb2⟩
  rw [← HN.out, ← HK.out]
  have hc0 := (cell_behind hb2 0).trans (World.cell?_alloc_new ..)
  have hc1 := (cell_behind hb2 1).trans (World.cell?_alloc_new ..)
  have hs2 : w1.heap.size < w2.heap.size := by have := hb2.size; simp at this; omega
  have HB2 : Hid (Bs w2 _ bs) := HB1.out.below (below_past hb2)
  have HE2 : Hid (Below w.heap.size w w2) := HE1.out.trans ((below_past hb2).mono HE1.out.size)
  clear HB1 hb2
  go_wp2_with fail
  refine (rget_any _ _ bs lit n m HB2.out).mono ?_; rintro e w3 ⟨rfl, rfl⟩
  rw [← HN.out, ← HK.out]
  go_wp2_with fail
  refine (cut_no _ _ bs lit n m HB2.out HNO.out).mono ?_; rintro e w3 ⟨rfl, hb3⟩
  have hd0 := (hb3.cell (p := ⟨w1.heap.size, 0, none⟩) hs2).trans hc0
  have hd1 := (hb3.cell (p := ⟨w1.heap.size, 1, none⟩) hs2).trans hc1
  have hs3 : w1.heap.size < w3.heap.size := by have := hb3.size; omega
  have HB3 : Hid (Bs w3 _ bs) := HB2.out.below hb3
  have HE3 : Hid (Below w.heap.size w w3) := HE2.out.trans (hb3.mono HE2.out.size)
  clear hb3 hc0 hc1 HB2 HE2 hs2
  go_wp2_with fail
  go_quiet (fail)
  obtain ⟨w4, hw4, hb4⟩ : ∃ w4, w4 = w3.drewN nq ∧ Below w3.heap.size w3 w4 := ⟨_, rfl, below_drewN _ _⟩
  have hc0 := (hb4.cell (p := ⟨w1.heap.size, 0, none⟩) hs3).trans hd0
  have hc1 := (hb4.cell (p := ⟨w1.heap.size, 1, none⟩) hs3).trans hd1
  have hs4 : w1.heap.size < w4.heap.size := by have := hb4.size; omega
  have HB4 : Hid (Bs w4 (.slice a bs.length c) bs) := HB3.out.below hb4
  have HE4 : Hid (Below w.heap.size w w4) := HE3.out.trans (hb4.mono HE3.out.size)
  clear hb4
  rw [← hw4]
  clear hw4 hd0 hd1 hs3 HB3 HE3
  obtain ⟨N2, hN2⟩ : ∃ N, N = getN lit bs n 2 := ⟨_, rfl⟩
  obtain ⟨N4, hN4⟩ : ∃ N, N = getN lit bs n 4 := ⟨_, rfl⟩
  obtain ⟨N8, hN8⟩ : ∃ N, N = getN lit bs n 8 := ⟨_, rfl⟩
  have b2 : N2 < 65536 := hN2 ▸ getN_lt lit bs n 2
  have b4 : N4 < 4294967296 := hN4 ▸ getN_lt lit bs n 4
  have H2 := Lib.hid hN2
  have H4 := Lib.hid hN4
  have H8 := Lib.hid hN8
  clear hN2 hN4 hN8
  go_wp2_with fail
  refine (rget_any _ _ bs lit n 2 HB4.out).mono ?_; rintro e w5 ⟨rfl, rfl⟩
  rw [← H2.out]
  go_wp2_with fail
  refine (rget_any _ _ bs lit n 4 HB4.out).mono ?_; rintro e w5 ⟨rfl, rfl⟩
  rw [← H4.out]
  go_wp2_with fail
  refine (rget_any _ _ bs lit n 8 HB4.out).mono ?_; rintro e w5 ⟨rfl, rfl⟩
  rw [← H8.out]
  go_wp2_with fail
  refine (u16_any _ _ bs lit n HB4.out).mono ?_; rintro e w5 ⟨rfl, hb5⟩
  rw [← H2.out]
  have hd0 := (hb5.cell (p := ⟨w1.heap.size, 0, none⟩) hs4).trans hc0
  have hd1 := (hb5.cell (p := ⟨w1.heap.size, 1, none⟩) hs4).trans hc1
  have hs5 : w1.heap.size < w5.heap.size := by have := hb5.size; omega
  have HB5 : Hid (Bs w5 _ bs) := HB4.out.below hb5
  have HE5 : Hid (Below w.heap.size w w5) := HE4.out.trans (hb5.mono HE4.out.size)
  clear hb5 HB4 HE4 hc0 hc1
  go_wp2_with fail
  refine (u32_any _ _ bs lit n HB5.out).mono ?_; rintro e w6 ⟨rfl, hb6⟩
  rw [← H4.out]
  have hc0 := (hb6.cell (p := ⟨w1.heap.size, 0, none⟩) hs5).trans hd0
  have hc1 := (hb6.cell (p := ⟨w1.heap.size, 1, none⟩) hs5).trans hd1
  have HB6 : Hid (Bs w6 _ bs) := HB5.out.below hb6
  have HE6 : Hid (Below w.heap.size w w6) := HE5.out.trans (hb6.mono HE5.out.size)
  clear hb6 HB5 HE5 hd0 hd1
  go_wp2_with fail
  refine (u64_any _ _ bs lit n HB6.out).mono ?_; rintro e w7 ⟨rfl, hb7⟩
  rw [← H8.out]
  have HE7 : Hid (Below w.heap.size w w7) := HE6.out.trans (hb7.mono HE6.out.size)
  clear hb7
  go_wp2_with fail
  go_ret
  exact ⟨rfl, HE7.out⟩

set_option maxRecDepth 100000 in
set_option maxHeartbeats 1000000 in
theorem law_gets_no2 (w : World) (v : Value) (bs : List UInt8) (lit : Bool) (n m : Int) (hb : Bs w v bs) (hl : bs.length ≤ 300) (h0 : 0 ≤ n) (h1 : m < 0) :
    Calls Try.prog 4 #[v, .bool lit, .int .i64 n, .int .i64 m] w fun e w' => e = .returned (.bool true) ∧ Below w.heap.size w w' := by
  have HB := Lib.hid hb
  obtain ⟨a, c, rfl, hl1, hl2, hat⟩ := hb
  clear hat
  unfold maxLen at hl2
  have hno : ¬ (0 ≤ n ∧ 0 ≤ m ∧ n + m ≤ bs.length) := by omega
  have HNO := Lib.hid hno
  clear hno
  obtain ⟨N, hN⟩ : ∃ N, N = getN lit bs n m := ⟨_, rfl⟩
  obtain ⟨ok, hok⟩ : ∃ ok, ok = getOk bs n m := ⟨_, rfl⟩
  have HN := Lib.hid hN
  have HK := Lib.hid hok
  clear hN hok
  go_enter Try.func4, Try.ntmps4
  go_wp2_with fail
  refine (known7 _).mono ?_; rintro e w1 ⟨rfl, hb1⟩
  have HB1 : Hid (Bs w1 _ bs) := HB.out.below hb1
  have HE1 := Lib.hid hb1
  clear hb1 HB
  go_wp2_with fail
  refine (get_any _ _ bs lit n m (HB1.out.alloc _)).mono ?_; rintro e w2 ⟨rfl, hb2⟩
  rw [← HN.out, ← HK.out]
  have hc0 := (cell_behind hb2 0).trans (World.cell?_alloc_new ..)
  have hc1 := (cell_behind hb2 1).trans (World.cell?_alloc_new ..)
  have hs2 : w1.heap.size < w2.heap.size := by have := hb2.size; simp at this; omega
  have HB2 : Hid (Bs w2 _ bs) := HB1.out.below (below_past hb2)
  have HE2 : Hid (Below w.heap.size w w2) := HE1.out.trans ((below_past hb2).mono HE1.out.size)
  clear HB1 hb2
  go_wp2_with fail
  refine (rget_any _ _ bs lit n m HB2.out).mono ?_; rintro e w3 ⟨rfl, rfl⟩
  rw [← HN.out, ← HK.out]
  go_wp2_with fail
  refine (cut_no _ _ bs lit n m HB2.out HNO.out).mono ?_; rintro e w3 ⟨rfl, hb3⟩
  have hd0 := (hb3.cell (p := ⟨w1.heap.size, 0, none⟩) hs2).trans hc0
  have hd1 := (hb3.cell (p := ⟨w1.heap.size, 1, none⟩) hs2).trans hc1
  have hs3 : w1.heap.size < w3.heap.size := by have := hb3.size; omega
  have HB3 : Hid (Bs w3 _ bs) := HB2.out.below hb3
  have HE3 : Hid (Below w.heap.size w w3) := HE2.out.trans (hb3.mono HE2.out.size)
  clear hb3 hc0 hc1 HB2 HE2 hs2
  go_wp2_with fail
  go_quiet (fail)
  obtain ⟨w4, hw4, hb4⟩ : ∃ w4, w4 = w3.drewN nq ∧ Below w3.heap.size w3 w4 := ⟨_, rfl, below_drewN _ _⟩
  have hc0 := (hb4.cell (p := ⟨w1.heap.size, 0, none⟩) hs3).trans hd0
  have hc1 := (hb4.cell (p := ⟨w1.heap.size, 1, none⟩) hs3).trans hd1
  have hs4 : w1.heap.size < w4.heap.size := by have := hb4.size; omega
  have HB4 : Hid (Bs w4 (.slice a bs.length c) bs) := HB3.out.below hb4
  have HE4 : Hid (Below w.heap.size w w4) := HE3.out.trans (hb4.mono HE3.out.size)
  clear hb4
  rw [← hw4]
  clear hw4 hd0 hd1 hs3 HB3 HE3
  obtain ⟨N2, hN2⟩ : ∃ N, N = getN lit bs n 2 := ⟨_, rfl⟩
  obtain ⟨N4, hN4⟩ : ∃ N, N = getN lit bs n 4 := ⟨_, rfl⟩
  obtain ⟨N8, hN8⟩ : ∃ N, N = getN lit bs n 8 := ⟨_, rfl⟩
  have b2 : N2 < 65536 := hN2 ▸ getN_lt lit bs n 2
  have b4 : N4 < 4294967296 := hN4 ▸ getN_lt lit bs n 4
  have H2 := Lib.hid hN2
  have H4 := Lib.hid hN4
  have H8 := Lib.hid hN8
  clear hN2 hN4 hN8
  go_wp2_with fail
  refine (rget_any _ _ bs lit n 2 HB4.out).mono ?_; rintro e w5 ⟨rfl, rfl⟩
  rw [← H2.out]
  go_wp2_with fail
  refine (rget_any _ _ bs lit n 4 HB4.out).mono ?_; rintro e w5 ⟨rfl, rfl⟩
  rw [← H4.out]
  go_wp2_with fail
  refine (rget_any _ _ bs lit n 8 HB4.out).mono ?_; rintro e w5 ⟨rfl, rfl⟩
  rw [← H8.out]
  go_wp2_with fail
  refine (u16_any _ _ bs lit n HB4.out).mono ?_; rintro e w5 ⟨rfl, hb5⟩
  rw [← H2.out]
  have hd0 := (hb5.cell (p := ⟨w1.heap.size, 0, none⟩) hs4).trans hc0
  have hd1 := (hb5.cell (p := ⟨w1.heap.size, 1, none⟩) hs4).trans hc1
  have hs5 : w1.heap.size < w5.heap.size := by have := hb5.size; omega
  have HB5 : Hid (Bs w5 _ bs) := HB4.out.below hb5
  have HE5 : Hid (Below w.heap.size w w5) := HE4.out.trans (hb5.mono HE4.out.size)
  clear hb5 HB4 HE4 hc0 hc1
  go_wp2_with fail
  refine (u32_any _ _ bs lit n HB5.out).mono ?_; rintro e w6 ⟨rfl, hb6⟩
  rw [← H4.out]
  have hc0 := (hb6.cell (p := ⟨w1.heap.size, 0, none⟩) hs5).trans hd0
  have hc1 := (hb6.cell (p := ⟨w1.heap.size, 1, none⟩) hs5).trans hd1
  have HB6 : Hid (Bs w6 _ bs) := HB5.out.below hb6
  have HE6 : Hid (Below w.heap.size w w6) := HE5.out.trans (hb6.mono HE5.out.size)
  clear hb6 HB5 HE5 hd0 hd1
  go_wp2_with fail
  refine (u64_any _ _ bs lit n HB6.out).mono ?_; rintro e w7 ⟨rfl, hb7⟩
  rw [← H8.out]
  have HE7 : Hid (Below w.heap.size w w7) := HE6.out.trans (hb7.mono HE6.out.size)
  clear hb7
  go_wp2_with fail
  go_ret
  exact ⟨rfl, HE7.out⟩

set_option maxRecDepth 100000 in
set_option maxHeartbeats 1000000 in
theorem law_gets_no3 (w : World) (v : Value) (bs : List UInt8) (lit : Bool) (n m : Int) (hb : Bs w v bs) (hl : bs.length ≤ 300) (h0 : 0 ≤ n) (h2 : 0 ≤ m) (h1 : (bs.length : Int) < n) :
    Calls Try.prog 4 #[v, .bool lit, .int .i64 n, .int .i64 m] w fun e w' => e = .returned (.bool true) ∧ Below w.heap.size w w' := by
  have HB := Lib.hid hb
  obtain ⟨a, c, rfl, hl1, hl2, hat⟩ := hb
  clear hat
  unfold maxLen at hl2
  have hno : ¬ (0 ≤ n ∧ 0 ≤ m ∧ n + m ≤ bs.length) := by omega
  have HNO := Lib.hid hno
  clear hno
  obtain ⟨N, hN⟩ : ∃ N, N = getN lit bs n m := ⟨_, rfl⟩
  obtain ⟨ok, hok⟩ : ∃ ok, ok = getOk bs n m := ⟨_, rfl⟩
  have HN := Lib.hid hN
  have HK := Lib.hid hok
  clear hN hok
  go_enter Try.func4, Try.ntmps4
  go_wp2_with fail
  refine (known7 _).mono ?_; rintro e w1 ⟨rfl, hb1⟩
  have HB1 : Hid (Bs w1 _ bs) := HB.out.below hb1
  have HE1 := Lib.hid hb1
  clear hb1 HB
  go_wp2_with fail
  refine (get_any _ _ bs lit n m (HB1.out.alloc _)).mono ?_; rintro e w2 ⟨rfl, hb2⟩
  rw [← HN.out, ← HK.out]
  have hc0 := (cell_behind hb2 0).trans (World.cell?_alloc_new ..)
  have hc1 := (cell_behind hb2 1).trans (World.cell?_alloc_new ..)
  have hs2 : w1.heap.size < w2.heap.size := by have := hb2.size; simp at this; omega
  have HB2 : Hid (Bs w2 _ bs) := HB1.out.below (below_past hb2)
  have HE2 : Hid (Below w.heap.size w w2) := HE1.out.trans ((below_past hb2).mono HE1.out.size)
  clear HB1 hb2
  go_wp2_with fail
  refine (rget_any _ _ bs lit n m HB2.out).mono ?_; rintro e w3 ⟨rfl, rfl⟩
  rw [← HN.out, ← HK.out]
  go_wp2_with fail
  refine (cut_no _ _ bs lit n m HB2.out HNO.out).mono ?_; rintro e w3 ⟨rfl, hb3⟩
  have hd0 := (hb3.cell (p := ⟨w1.heap.size, 0, none⟩) hs2).trans hc0
  have hd1 := (hb3.cell (p := ⟨w1.heap.size, 1, none⟩) hs2).trans hc1
  have hs3 : w1.heap.size < w3.heap.size := by have := hb3.size; omega
  have HB3 : Hid (Bs w3 _ bs) := HB2.out.below hb3
  have HE3 : Hid (Below w.heap.size w w3) := HE2.out.trans (hb3.mono HE2.out.size)
  clear hb3 hc0 hc1 HB2 HE2 hs2
  go_wp2_with fail
  go_quiet (fail)
  obtain ⟨w4, hw4, hb4⟩ : ∃ w4, w4 = w3.drewN nq ∧ Below w3.heap.size w3 w4 := ⟨_, rfl, below_drewN _ _⟩
  have hc0 := (hb4.cell (p := ⟨w1.heap.size, 0, none⟩) hs3).trans hd0
  have hc1 := (hb4.cell (p := ⟨w1.heap.size, 1, none⟩) hs3).trans hd1
  have hs4 : w1.heap.size < w4.heap.size := by have := hb4.size; omega
  have HB4 : Hid (Bs w4 (.slice a bs.length c) bs) := HB3.out.below hb4
  have HE4 : Hid (Below w.heap.size w w4) := HE3.out.trans (hb4.mono HE3.out.size)
  clear hb4
  rw [← hw4]
  clear hw4 hd0 hd1 hs3 HB3 HE3
  obtain ⟨N2, hN2⟩ : ∃ N, N = getN lit bs n 2 := ⟨_, rfl⟩
  obtain ⟨N4, hN4⟩ : ∃ N, N = getN lit bs n 4 := ⟨_, rfl⟩
  obtain ⟨N8, hN8⟩ : ∃ N, N = getN lit bs n 8 := ⟨_, rfl⟩
  have b2 : N2 < 65536 := hN2 ▸ getN_lt lit bs n 2
  have b4 : N4 < 4294967296 := hN4 ▸ getN_lt lit bs n 4
  have H2 := Lib.hid hN2
  have H4 := Lib.hid hN4
  have H8 := Lib.hid hN8
  clear hN2 hN4 hN8
  go_wp2_with fail
  refine (rget_any _ _ bs lit n 2 HB4.out).mono ?_; rintro e w5 ⟨rfl, rfl⟩
  rw [← H2.out]
  go_wp2_with fail
  refine (rget_any _ _ bs lit n 4 HB4.out).mono ?_; rintro e w5 ⟨rfl, rfl⟩
  rw [← H4.out]
  go_wp2_with fail
  refine (rget_any _ _ bs lit n 8 HB4.out).mono ?_; rintro e w5 ⟨rfl, rfl⟩
  rw [← H8.out]
  go_wp2_with fail
  refine (u16_any _ _ bs lit n HB4.out).mono ?_; rintro e w5 ⟨rfl, hb5⟩
  rw [← H2.out]
  have hd0 := (hb5.cell (p := ⟨w1.heap.size, 0, none⟩) hs4).trans hc0
  have hd1 := (hb5.cell (p := ⟨w1.heap.size, 1, none⟩) hs4).trans hc1
  have hs5 : w1.heap.size < w5.heap.size := by have := hb5.size; omega
  have HB5 : Hid (Bs w5 _ bs) := HB4.out.below hb5
  have HE5 : Hid (Below w.heap.size w w5) := HE4.out.trans (hb5.mono HE4.out.size)
  clear hb5 HB4 HE4 hc0 hc1
  go_wp2_with fail
  refine (u32_any _ _ bs lit n HB5.out).mono ?_; rintro e w6 ⟨rfl, hb6⟩
  rw [← H4.out]
  have hc0 := (hb6.cell (p := ⟨w1.heap.size, 0, none⟩) hs5).trans hd0
  have hc1 := (hb6.cell (p := ⟨w1.heap.size, 1, none⟩) hs5).trans hd1
  have HB6 : Hid (Bs w6 _ bs) := HB5.out.below hb6
  have HE6 : Hid (Below w.heap.size w w6) := HE5.out.trans (hb6.mono HE5.out.size)
  clear hb6 HB5 HE5 hd0 hd1
  go_wp2_with fail
  refine (u64_any _ _ bs lit n HB6.out).mono ?_; rintro e w7 ⟨rfl, hb7⟩
  rw [← H8.out]
  have HE7 : Hid (Below w.heap.size w w7) := HE6.out.trans (hb7.mono HE6.out.size)
  clear hb7
  go_wp2_with fail
  go_ret
  exact ⟨rfl, HE7.out⟩

set_option maxRecDepth 100000 in
set_option maxHeartbeats 1000000 in
theorem law_gets_no4 (w : World) (v : Value) (bs : List UInt8) (lit : Bool) (n m : Int) (hb : Bs w v bs) (hl : bs.length ≤ 300) (h0 : 0 ≤ n) (h2 : 0 ≤ m) (h3 : n ≤ (bs.length : Int)) (h1 : (bs.length : Int) - n < m) :
    Calls Try.prog 4 #[v, .bool lit, .int .i64 n, .int .i64 m] w fun e w' => e = .returned (.bool true) ∧ Below w.heap.size w w' := by
  have HB := Lib.hid hb
  obtain ⟨a, c, rfl, hl1, hl2, hat⟩ := hb
  clear hat
  unfold maxLen at hl2
  have hdec : decide (m ≤ (bs.length : Int) - n) = false := by simp; omega
  have hno : ¬ (0 ≤ n ∧ 0 ≤ m ∧ n + m ≤ bs.length) := by omega
  have HNO := Lib.hid hno
  clear hno
  obtain ⟨N, hN⟩ : ∃ N, N = getN lit bs n m := ⟨_, rfl⟩
  obtain ⟨ok, hok⟩ : ∃ ok, ok = getOk bs n m := ⟨_, rfl⟩
  have HN := Lib.hid hN
  have HK := Lib.hid hok
  clear hN hok
  go_enter Try.func4, Try.ntmps4
  go_wp2_with fail
  refine (known7 _).mono ?_; rintro e w1 ⟨rfl, hb1⟩
  have HB1 : Hid (Bs w1 _ bs) := HB.out.below hb1
  have HE1 := Lib.hid hb1
  clear hb1 HB
  go_wp2_with fail
  refine (get_any _ _ bs lit n m (HB1.out.alloc _)).mono ?_; rintro e w2 ⟨rfl, hb2⟩
  rw [← HN.out, ← HK.out]
  have hc0 := (cell_behind hb2 0).trans (World.cell?_alloc_new ..)
  have hc1 := (cell_behind hb2 1).trans (World.cell?_alloc_new ..)
  have hs2 : w1.heap.size < w2.heap.size := by have := hb2.size; simp at this; omega
  have HB2 : Hid (Bs w2 _ bs) := HB1.out.below (below_past hb2)
  have HE2 : Hid (Below w.heap.size w w2) := HE1.out.trans ((below_past hb2).mono HE1.out.size)
  clear HB1 hb2
  go_wp2_with fail
  refine (rget_any _ _ bs lit n m HB2.out).mono ?_; rintro e w3 ⟨rfl, rfl⟩
  rw [← HN.out, ← HK.out]
  go_wp2_with fail
  refine (cut_no _ _ bs lit n m HB2.out HNO.out).mono ?_; rintro e w3 ⟨rfl, hb3⟩
  have hd0 := (hb3.cell (p := ⟨w1.heap.size, 0, none⟩) hs2).trans hc0
  have hd1 := (hb3.cell (p := ⟨w1.heap.size, 1, none⟩) hs2).trans hc1
  have hs3 : w1.heap.size < w3.heap.size := by have := hb3.size; omega
  have HB3 : Hid (Bs w3 _ bs) := HB2.out.below hb3
  have HE3 : Hid (Below w.heap.size w w3) := HE2.out.trans (hb3.mono HE2.out.size)
  clear hb3 hc0 hc1 HB2 HE2 hs2
  go_wp2_with fail
  go_quiet (fail)
  obtain ⟨w4, hw4, hb4⟩ : ∃ w4, w4 = w3.drewN nq ∧ Below w3.heap.size w3 w4 := ⟨_, rfl, below_drewN _ _⟩
  have hc0 := (hb4.cell (p := ⟨w1.heap.size, 0, none⟩) hs3).trans hd0
  have hc1 := (hb4.cell (p := ⟨w1.heap.size, 1, none⟩) hs3).trans hd1
  have hs4 : w1.heap.size < w4.heap.size := by have := hb4.size; omega
  have HB4 : Hid (Bs w4 (.slice a bs.length c) bs) := HB3.out.below hb4
  have HE4 : Hid (Below w.heap.size w w4) := HE3.out.trans (hb4.mono HE3.out.size)
  clear hb4
  rw [← hw4]
  clear hw4 hd0 hd1 hs3 HB3 HE3
  obtain ⟨N2, hN2⟩ : ∃ N, N = getN lit bs n 2 := ⟨_, rfl⟩
  obtain ⟨N4, hN4⟩ : ∃ N, N = getN lit bs n 4 := ⟨_, rfl⟩
  obtain ⟨N8, hN8⟩ : ∃ N, N = getN lit bs n 8 := ⟨_, rfl⟩
  have b2 : N2 < 65536 := hN2 ▸ getN_lt lit bs n 2
  have b4 : N4 < 4294967296 := hN4 ▸ getN_lt lit bs n 4
  have H2 := Lib.hid hN2
  have H4 := Lib.hid hN4
  have H8 := Lib.hid hN8
  clear hN2 hN4 hN8
  go_wp2_with fail
  refine (rget_any _ _ bs lit n 2 HB4.out).mono ?_; rintro e w5 ⟨rfl, rfl⟩
  rw [← H2.out]
  go_wp2_with fail
  refine (rget_any _ _ bs lit n 4 HB4.out).mono ?_; rintro e w5 ⟨rfl, rfl⟩
  rw [← H4.out]
  go_wp2_with fail
  refine (rget_any _ _ bs lit n 8 HB4.out).mono ?_; rintro e w5 ⟨rfl, rfl⟩
  rw [← H8.out]
  go_wp2_with fail
  refine (u16_any _ _ bs lit n HB4.out).mono ?_; rintro e w5 ⟨rfl, hb5⟩
  rw [← H2.out]
  have hd0 := (hb5.cell (p := ⟨w1.heap.size, 0, none⟩) hs4).trans hc0
  have hd1 := (hb5.cell (p := ⟨w1.heap.size, 1, none⟩) hs4).trans hc1
  have hs5 : w1.heap.size < w5.heap.size := by have := hb5.size; omega
  have HB5 : Hid (Bs w5 _ bs) := HB4.out.below hb5
  have HE5 : Hid (Below w.heap.size w w5) := HE4.out.trans (hb5.mono HE4.out.size)
  clear hb5 HB4 HE4 hc0 hc1
  go_wp2_with fail
  refine (u32_any _ _ bs lit n HB5.out).mono ?_; rintro e w6 ⟨rfl, hb6⟩
  rw [← H4.out]
  have hc0 := (hb6.cell (p := ⟨w1.heap.size, 0, none⟩) hs5).trans hd0
  have hc1 := (hb6.cell (p := ⟨w1.heap.size, 1, none⟩) hs5).trans hd1
  have HB6 : Hid (Bs w6 _ bs) := HB5.out.below hb6
  have HE6 : Hid (Below w.heap.size w w6) := HE5.out.trans (hb6.mono HE5.out.size)
  clear hb6 HB5 HE5 hd0 hd1
  go_wp2_with fail
  refine (u64_any _ _ bs lit n HB6.out).mono ?_; rintro e w7 ⟨rfl, hb7⟩
  rw [← H8.out]
  have HE7 : Hid (Below w.heap.size w w7) := HE6.out.trans (hb7.mono HE6.out.size)
  clear hb7
  go_wp2_with fail
  go_ret
  exact ⟨rfl, HE7.out⟩

set_option maxRecDepth 100000 in
set_option maxHeartbeats 1000000 in
theorem law_gets (w : World) (v : Value) (n m : Int) (lit : Bool) (F : ∃ bs, Bs w v bs) :
    Calls Try.prog 4 #[v, .bool lit, .int .i64 n, .int .i64 m] w fun e w' => e = .returned (.bool true) ∧ Below w.heap.size w w' := by
  obtain ⟨bs, hb⟩ := F
  by_cases hl : bs.length ≤ 300
  · by_cases h1 : n < 0
    · exact law_gets_no1 w v bs lit n m hb hl h1
    · by_cases h2 : m < 0
      · exact law_gets_no2 w v bs lit n m hb hl (by omega) h2
      · by_cases h3 : (bs.length : Int) < n
        · exact law_gets_no3 w v bs lit n m hb hl (by omega) (by omega) h3
        · by_cases h4 : (bs.length : Int) - n < m
          · exact law_gets_no4 w v bs lit n m hb hl (by omega) (by omega) (by omega) h4
          · obtain ⟨n, rfl⟩ := Int.eq_ofNat_of_zero_le (by omega : 0 ≤ n)
            obtain ⟨m, rfl⟩ := Int.eq_ofNat_of_zero_le (by omega : 0 ≤ m)
            exact law_gets_yes w v bs lit n m hb hl (by omega)
  · obtain ⟨a, c, rfl, hl1, hl2, hat⟩ := hb
    clear hat
    have hl3 : (300 : Int) < (bs.length : Int) := by omega
    go_enter Try.func4, Try.ntmps4
    go_wp2_with fail
    refine (known7 _).mono ?_; rintro e w1 ⟨rfl, hb1⟩
    have HE1 := Lib.hid hb1
    clear hb1
    go_wp2_with fail
    go_ret
    exact ⟨rfl, HE1.out⟩
theorem bs_of {H : Type} {d : DataW H} {w : World} {v : Value} (F : ∃ bs c, Bsc w v bs c ∧ bs.length ≤ Rows.uptoBulk d) : ∃ bs, Bs w v bs :=
  let ⟨bs, _, h, _⟩ := F; ⟨bs, h.bs⟩
end Go.Proofs.Ytnckmaieghlpmaa
