/-
  The walk of udp.sum.
-/
import Derived.Test.YtnckmaieghlpmaaAhead4
namespace Go.Proofs.Ytnckmaieghlpmaa
open Go.RowKit
set_option linter.unusedVariables false

def aheadF (s : Bool) (A B : List UInt8) (n : Nat) : List UInt8 := aheadB s A B n ++ List.replicate (if s then 0 else 28) 0
def aheadM (s : Bool) : Nat := if s then 40 else 12
theorem aheadB_len (s : Bool) (A B : List UInt8) (n : Nat) (hA : A.length = 16) (hB : B.length = 16) : (aheadB s A B n).length = aheadM s := by
  cases s <;> simp [aheadB, aheadM, hA, hB, numB_length]
theorem aheadF_len (s : Bool) (A B : List UInt8) (n : Nat) (hA : A.length = 16) (hB : B.length = 16) : (aheadF s A B n).length = 40 := by
  unfold aheadF; rw [List.length_append, aheadB_len s A B n hA hB]; cases s <;> simp [aheadM]
theorem aheadF_take (s : Bool) (A B : List UInt8) (n : Nat) (hA : A.length = 16) (hB : B.length = 16) : (aheadF s A B n).take (aheadM s) = aheadB s A B n := by
  unfold aheadF; rw [List.take_append_of_le_length (by rw [aheadB_len s A B n hA hB]; exact Nat.le_refl _), List.take_of_length_le (by rw [aheadB_len s A B n hA hB]; exact Nat.le_refl _)]
theorem aheadM_le (s : Bool) : 12 ≤ aheadM s ∧ aheadM s ≤ 40 := by cases s <;> decide

theorem ahead_any (w : World) (s t : Bool) (A B : List UInt8) (n : Nat) (hA : A.length = 16) (hB : B.length = 16) (hn : n ≤ 65535) :
    Calls Try.prog 84 #[.agg (adrC s A), .agg (adrC t B), .int .i64 n] w (AheadRet w (aheadF s A B n) (aheadM s)) := by
  cases s
  · exact ahead4_any w t A B n hA hB hn
  · have := ahead6_any w t A B n hA hB hn
    simpa [aheadF, aheadM] using this

theorem RowAt.bs {w : World} {g : Nat} {t : TypeId} {L : List UInt8} (h : RowAt w g t L) (m : Nat) (hm : m ≤ L.length) (c : Nat) (hc : m ≤ c) (hc2 : c ≤ maxLen) : Bs w (.slice (some ⟨g, 0, none⟩) m c) (L.take m) :=
  ⟨_, c, by rw [List.length_take, Nat.min_eq_left hm], by rw [List.length_take]; omega, hc2, .inr ⟨_, _, rfl, fun i x hx => by
    rw [Nat.zero_add]; exact h.cell i x (take_get hx)⟩⟩

theorem rowAt_zero (w : World) : RowAt (w.alloc (.cells (List.map byteV (List.replicate 40 0)).toArray 143)) w.heap.size 143 (List.replicate 40 0) := heap_alloc_new _ _

theorem slice143 (M : Nat) (hM : M = 12 ∨ M = 40) (W : World) (g : Nat) :
    (Instr.sliceAt 143 (.pointer (some ⟨g, 0, none⟩)) none (some (.int .i64 (M : Int))) none).run Try.prog W = .ok (.slice (some ⟨g, 0, none⟩) M 40) W := by
  rcases hM with rfl | rfl
  · simp [go_sem]
  · simp [go_sem]

def U16Ret (w : World) (n : Nat) (e : Ending) (w' : World) : Prop := e = .returned (.int .u16 n) ∧ Below w.heap.size w w'

set_option maxRecDepth 100000 in
set_option maxHeartbeats 1000000 in
theorem usum_any (w : World) (s t : Bool) (A B : List UInt8) (v : Value) (bs : List UInt8) (hA : A.length = 16) (hB : B.length = 16) (hb : Bs w v bs) (hl : bs.length ≤ 65535) :
    Calls Try.prog 59 #[.agg (adrC s A), .agg (adrC t B), v] w (U16Ret w (csum (aheadB s A B bs.length ++ bs))) := by
  have HBS := Lib.hid hb
  obtain ⟨a, c, rfl, hl1, hl2, hat⟩ := hb
  clear hat
  unfold maxLen at hl2
  obtain ⟨C, hC⟩ : ∃ C, C = csum (aheadB s A B bs.length ++ bs) := ⟨_, rfl⟩
  rw [← hC]
  obtain ⟨F, hF⟩ : ∃ F, F = aheadF s A B bs.length := ⟨_, rfl⟩
  have hF40 : F.length = 40 := hF ▸ aheadF_len s A B _ hA hB
  have hFt : F.take (aheadM s) = aheadB s A B bs.length := hF ▸ aheadF_take s A B _ hA hB
  obtain ⟨M, hM⟩ : ∃ M, M = aheadM s := ⟨_, rfl⟩
  have hM1 : M ≤ 40 := hM ▸ (aheadM_le s).2
  have hsl := slice143 M (by rw [hM]; cases s <;> simp [aheadM])
  rw [← hM] at hFt
  have HC := Lib.hid hC
  have HF := Lib.hid hF
  have HF40 := Lib.hid hF40
  have HFT := Lib.hid hFt
  have HM := Lib.hid hM
  have HA := Lib.hid hA
  have HB := Lib.hid hB
  have a1 : Hid (AdrAt ((w.alloc (.cells (adrC s A) 54)).alloc (.cells (adrC t B) 54)) w.heap.size 0 s A) := (adrAt_new w s A 54).below (below_alloc _ _)
  have a2 : Hid (AdrAt ((w.alloc (.cells (adrC s A) 54)).alloc (.cells (adrC t B) 54)) (w.heap.size + 1) 0 t B) := by
    have := adrAt_new (w.alloc (.cells (adrC s A) 54)) t B 54
    rw [size_alloc] at this; exact this
  clear hA hB hC hF hF40 hFt hM
  go_enter Try.func59, Try.ntmps59
  go_wp2_with (first | ((with_reducible refine wpList_load54 w.heap.size 0 s A ?_ ?_ ?_ ?_); rfl; exact a1.out; exact HA.out) | ((with_reducible refine wpList_load54 (w.heap.size + 1) 0 t B ?_ ?_ ?_ ?_); rfl; exact a2.out; exact HB.out))
  refine (ahead_any _ s t A B bs.length HA.out HB.out hl).mono ?_
  rintro e w1 ⟨rfl, hb1⟩
  rw [← HF.out, ← HM.out]
  have HB1 : Hid (Bs w1 (.slice a bs.length c) bs) := ((HBS.out.alloc _).alloc _).below hb1
  have HE1 : Hid (Below w.heap.size w w1) := ((below_alloc _ _).trans ((below_alloc _ _).mono (by simp))).trans (hb1.mono (by simp; omega))
  clear hb1 a1 a2 HBS
  have hz := rowAt_zero w1
  have HZ := Lib.hid hz
  clear hz
  go_wp2_with ((with_reducible refine wpList_store143 w1.heap.size (List.replicate 40 0) F ?_ ?_ ?_ ?_ ?_ ?_); rfl; rfl; exact HZ.out; rfl; exact HF40.out; intro w2 hR2 hb2 hs2; rw [size_alloc] at hs2; have HR2 := Lib.hid hR2; have HB2 := Lib.hid hb2; have HS2 := Lib.hid hs2; clear hR2 hb2 hs2)
  have hbS : Bs w2 (.slice (some ⟨w1.heap.size, 0, none⟩) M 40) (aheadB s A B bs.length) := by
    have := HR2.out.bs M (by rw [HF40.out]; exact hM1) 40 hM1 (by decide)
    rw [HFT.out] at this; exact this
  have hE2 : Below w1.heap.size w1 w2 := (below_alloc _ _).trans HB2.out
  have hbB : Bs w2 (.slice a bs.length c) bs := HB1.out.below hE2
  have HL : (aheadB s A B bs.length).length = M := by rw [HM.out]; exact aheadB_len s A B _ HA.out HB.out
  refine (sum_any _ _ _ [aheadB s A B bs.length, bs] (by simp) (by simp; omega) (rows2_two _ _ hbS hbB rfl)).mono ?_
  rintro e w3 ⟨rfl, rfl⟩
  rw [show csum [aheadB s A B bs.length, bs].flatten = C by rw [HC.out]; simp]
  have HE3 := Lib.hid (HE1.out.trans (hE2.mono HE1.out.size))
  clear hbS hE2 hbB HL hsl
  go_wp2_with fail
  go_ret
  exact ⟨rfl, HE3.out.alloc HE3.out.size _⟩
end Go.Proofs.Ytnckmaieghlpmaa
