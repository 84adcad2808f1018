/-
  The walk of udp.ahead, of either version.
-/
import Derived.Test.YtnckmaieghlpmaaAhead
namespace Go.Proofs.Ytnckmaieghlpmaa
open Go.RowKit
set_option linter.unusedVariables false

theorem take_get {α : Type} {l : List α} {n j : Nat} {x : α} (h : (l.take n)[j]? = some x) : l[j]? = some x := by
  rw [List.getElem?_take] at h
  split at h
  · exact h
  · cases h

def AheadRet (w : World) (cs : List UInt8) (m : Nat) (e : Ending) (w' : World) : Prop :=
  e = .returned (.tuple #[.agg (cs.map byteV).toArray, .int .i64 m]) ∧ Below w.heap.size w w'

set_option maxRecDepth 100000 in
set_option maxHeartbeats 1000000 in
theorem ahead4_any (w : World) (t : Bool) (A B : List UInt8) (n : Nat) (hA : A.length = 16) (hB : B.length = 16) (hn : n ≤ 65535) :
    Calls Try.prog 84 #[.agg (adrC false A), .agg (adrC t B), .int .i64 n] w (AheadRet w (aheadB false A B n ++ List.replicate 28 0) 12) := by
  have h1 := adr_zero false A
  have h2 := adr_zero t B
  obtain ⟨hi, hhi⟩ : ∃ hi, hi = UInt8.ofNat (n / 256 % 256) := ⟨_, rfl⟩
  obtain ⟨lo, hlo⟩ : ∃ lo, lo = UInt8.ofNat (n % 256) := ⟨_, rfl⟩
  have e1 : (n : Int) / 256 = (hi.toNat : Int) := by rw [hhi]; simp; omega
  have e2 : IntKind.u8.wrap (n : Int) = (lo.toNat : Int) := by rw [hlo, IntKind.wrap_u8]; simp
  have hfin := row4 A B n hA hB
  rw [← hhi, ← hlo] at hfin
  have hl1 : (splice (splice (List.replicate 40 (0 : UInt8)) 0 (A.take 4)) 4 (B.take 4)).length = 40 := by
    rw [length_splice _ _ _ (by rw [length_splice _ _ _ (by simp; try omega)]; simp; try omega), length_splice _ _ _ (by simp; try omega)]; simp
  have hcA : ((A.take 4).map byteV).length = 4 := by simp; try omega
  have hcB : ((B.take 4).map byteV).length = 4 := by simp; try omega
  have hA' : (A.take 4).length = 4 := by first | exact hA | (simp; omega)
  have HFIN := Lib.hid hfin
  have HL1 := Lib.hid hl1
  have HCA := Lib.hid hcA
  have HCB := Lib.hid hcB
  have HA' := Lib.hid hA'
  have hbyt : hi.toNat < 256 := hi.toNat_lt
  have HA := Lib.hid hA
  have HB := Lib.hid hB
  have E1 := Lib.hid e1
  have E2 := Lib.hid e2
  clear hA hB hhi hlo hfin hl1 hcA hcB e1 e2 hA'
  go_enter Try.func84, Try.ntmps84
  go_wp2_with fail
  have hbA := rowAt_adr w false A 54
  have hbB := rowAt_adr (w.alloc (.cells (adrC false A) 54)) t B 54
  rw [size_alloc] at hbB
  have hR : RowAt (((w.alloc (.cells (adrC false A) 54)).alloc (.cells (adrC t B) 54)).alloc (.cells (List.map byteV (List.replicate 40 0)).toArray 143)) (w.heap.size + 2) 143 (List.replicate 40 0) := by
    have := heap_alloc_new ((w.alloc (.cells (adrC false A) 54)).alloc (.cells (adrC t B) 54)) (.cells (List.map byteV (List.replicate 40 0)).toArray 143)
    rw [size_alloc, size_alloc] at this
    exact this
  have hX : Below w.heap.size w (((w.alloc (.cells (adrC false A) 54)).alloc (.cells (adrC t B) 54)).alloc (.cells (List.map byteV (List.replicate 40 0)).toArray 143)) :=
    (((Below.refl _ _).alloc (Nat.le_refl _) _).alloc (by simp) _).alloc (by simp; omega) _
  have hbA' := (hbA.same (below_cells (below_alloc _ (.cells (adrC t B) 54)))).same (below_cells (below_alloc _ (.cells (List.map byteV (List.replicate 40 0)).toArray 143)))
  have hbB' := hbB.same (below_cells (below_alloc _ (.cells (List.map byteV (List.replicate 40 0)).toArray 143)))
  change RowAt (((w.alloc (.cells (adrC false A) 54)).alloc (.cells (adrC t B) 54)).alloc (Obj.cells #[Value.int IntKind.u8 0, Value.int IntKind.u8 0, Value.int IntKind.u8 0, Value.int IntKind.u8 0, Value.int IntKind.u8 0, Value.int IntKind.u8 0, Value.int IntKind.u8 0, Value.int IntKind.u8 0, Value.int IntKind.u8 0, Value.int IntKind.u8 0, Value.int IntKind.u8 0, Value.int IntKind.u8 0, Value.int IntKind.u8 0, Value.int IntKind.u8 0, Value.int IntKind.u8 0, Value.int IntKind.u8 0, Value.int IntKind.u8 0, Value.int IntKind.u8 0, Value.int IntKind.u8 0, Value.int IntKind.u8 0, Value.int IntKind.u8 0, Value.int IntKind.u8 0, Value.int IntKind.u8 0, Value.int IntKind.u8 0, Value.int IntKind.u8 0, Value.int IntKind.u8 0, Value.int IntKind.u8 0, Value.int IntKind.u8 0, Value.int IntKind.u8 0, Value.int IntKind.u8 0, Value.int IntKind.u8 0, Value.int IntKind.u8 0, Value.int IntKind.u8 0, Value.int IntKind.u8 0, Value.int IntKind.u8 0, Value.int IntKind.u8 0, Value.int IntKind.u8 0, Value.int IntKind.u8 0, Value.int IntKind.u8 0, Value.int IntKind.u8 0] 143)) _ _ _ at hR
  change Below w.heap.size w (((w.alloc (.cells (adrC false A) 54)).alloc (.cells (adrC t B) 54)).alloc (Obj.cells #[Value.int IntKind.u8 0, Value.int IntKind.u8 0, Value.int IntKind.u8 0, Value.int IntKind.u8 0, Value.int IntKind.u8 0, Value.int IntKind.u8 0, Value.int IntKind.u8 0, Value.int IntKind.u8 0, Value.int IntKind.u8 0, Value.int IntKind.u8 0, Value.int IntKind.u8 0, Value.int IntKind.u8 0, Value.int IntKind.u8 0, Value.int IntKind.u8 0, Value.int IntKind.u8 0, Value.int IntKind.u8 0, Value.int IntKind.u8 0, Value.int IntKind.u8 0, Value.int IntKind.u8 0, Value.int IntKind.u8 0, Value.int IntKind.u8 0, Value.int IntKind.u8 0, Value.int IntKind.u8 0, Value.int IntKind.u8 0, Value.int IntKind.u8 0, Value.int IntKind.u8 0, Value.int IntKind.u8 0, Value.int IntKind.u8 0, Value.int IntKind.u8 0, Value.int IntKind.u8 0, Value.int IntKind.u8 0, Value.int IntKind.u8 0, Value.int IntKind.u8 0, Value.int IntKind.u8 0, Value.int IntKind.u8 0, Value.int IntKind.u8 0, Value.int IntKind.u8 0, Value.int IntKind.u8 0, Value.int IntKind.u8 0, Value.int IntKind.u8 0] 143)) at hX
  change At (((w.alloc (.cells (adrC false A) 54)).alloc (.cells (adrC t B) 54)).alloc (Obj.cells #[Value.int IntKind.u8 0, Value.int IntKind.u8 0, Value.int IntKind.u8 0, Value.int IntKind.u8 0, Value.int IntKind.u8 0, Value.int IntKind.u8 0, Value.int IntKind.u8 0, Value.int IntKind.u8 0, Value.int IntKind.u8 0, Value.int IntKind.u8 0, Value.int IntKind.u8 0, Value.int IntKind.u8 0, Value.int IntKind.u8 0, Value.int IntKind.u8 0, Value.int IntKind.u8 0, Value.int IntKind.u8 0, Value.int IntKind.u8 0, Value.int IntKind.u8 0, Value.int IntKind.u8 0, Value.int IntKind.u8 0, Value.int IntKind.u8 0, Value.int IntKind.u8 0, Value.int IntKind.u8 0, Value.int IntKind.u8 0, Value.int IntKind.u8 0, Value.int IntKind.u8 0, Value.int IntKind.u8 0, Value.int IntKind.u8 0, Value.int IntKind.u8 0, Value.int IntKind.u8 0, Value.int IntKind.u8 0, Value.int IntKind.u8 0, Value.int IntKind.u8 0, Value.int IntKind.u8 0, Value.int IntKind.u8 0, Value.int IntKind.u8 0, Value.int IntKind.u8 0, Value.int IntKind.u8 0, Value.int IntKind.u8 0, Value.int IntKind.u8 0] 143)) _ _ at hbA'
  change At (((w.alloc (.cells (adrC false A) 54)).alloc (.cells (adrC t B) 54)).alloc (Obj.cells #[Value.int IntKind.u8 0, Value.int IntKind.u8 0, Value.int IntKind.u8 0, Value.int IntKind.u8 0, Value.int IntKind.u8 0, Value.int IntKind.u8 0, Value.int IntKind.u8 0, Value.int IntKind.u8 0, Value.int IntKind.u8 0, Value.int IntKind.u8 0, Value.int IntKind.u8 0, Value.int IntKind.u8 0, Value.int IntKind.u8 0, Value.int IntKind.u8 0, Value.int IntKind.u8 0, Value.int IntKind.u8 0, Value.int IntKind.u8 0, Value.int IntKind.u8 0, Value.int IntKind.u8 0, Value.int IntKind.u8 0, Value.int IntKind.u8 0, Value.int IntKind.u8 0, Value.int IntKind.u8 0, Value.int IntKind.u8 0, Value.int IntKind.u8 0, Value.int IntKind.u8 0, Value.int IntKind.u8 0, Value.int IntKind.u8 0, Value.int IntKind.u8 0, Value.int IntKind.u8 0, Value.int IntKind.u8 0, Value.int IntKind.u8 0, Value.int IntKind.u8 0, Value.int IntKind.u8 0, Value.int IntKind.u8 0, Value.int IntKind.u8 0, Value.int IntKind.u8 0, Value.int IntKind.u8 0, Value.int IntKind.u8 0, Value.int IntKind.u8 0] 143)) _ _ at hbB'
  have hsz : (((w.alloc (.cells (adrC false A) 54)).alloc (.cells (adrC t B) 54)).alloc (Obj.cells #[Value.int IntKind.u8 0, Value.int IntKind.u8 0, Value.int IntKind.u8 0, Value.int IntKind.u8 0, Value.int IntKind.u8 0, Value.int IntKind.u8 0, Value.int IntKind.u8 0, Value.int IntKind.u8 0, Value.int IntKind.u8 0, Value.int IntKind.u8 0, Value.int IntKind.u8 0, Value.int IntKind.u8 0, Value.int IntKind.u8 0, Value.int IntKind.u8 0, Value.int IntKind.u8 0, Value.int IntKind.u8 0, Value.int IntKind.u8 0, Value.int IntKind.u8 0, Value.int IntKind.u8 0, Value.int IntKind.u8 0, Value.int IntKind.u8 0, Value.int IntKind.u8 0, Value.int IntKind.u8 0, Value.int IntKind.u8 0, Value.int IntKind.u8 0, Value.int IntKind.u8 0, Value.int IntKind.u8 0, Value.int IntKind.u8 0, Value.int IntKind.u8 0, Value.int IntKind.u8 0, Value.int IntKind.u8 0, Value.int IntKind.u8 0, Value.int IntKind.u8 0, Value.int IntKind.u8 0, Value.int IntKind.u8 0, Value.int IntKind.u8 0, Value.int IntKind.u8 0, Value.int IntKind.u8 0, Value.int IntKind.u8 0, Value.int IntKind.u8 0] 143)).heap.size = w.heap.size + 3 := by simp
  generalize (((w.alloc (.cells (adrC false A) 54)).alloc (.cells (adrC t B) 54)).alloc (Obj.cells #[Value.int IntKind.u8 0, Value.int IntKind.u8 0, Value.int IntKind.u8 0, Value.int IntKind.u8 0, Value.int IntKind.u8 0, Value.int IntKind.u8 0, Value.int IntKind.u8 0, Value.int IntKind.u8 0, Value.int IntKind.u8 0, Value.int IntKind.u8 0, Value.int IntKind.u8 0, Value.int IntKind.u8 0, Value.int IntKind.u8 0, Value.int IntKind.u8 0, Value.int IntKind.u8 0, Value.int IntKind.u8 0, Value.int IntKind.u8 0, Value.int IntKind.u8 0, Value.int IntKind.u8 0, Value.int IntKind.u8 0, Value.int IntKind.u8 0, Value.int IntKind.u8 0, Value.int IntKind.u8 0, Value.int IntKind.u8 0, Value.int IntKind.u8 0, Value.int IntKind.u8 0, Value.int IntKind.u8 0, Value.int IntKind.u8 0, Value.int IntKind.u8 0, Value.int IntKind.u8 0, Value.int IntKind.u8 0, Value.int IntKind.u8 0, Value.int IntKind.u8 0, Value.int IntKind.u8 0, Value.int IntKind.u8 0, Value.int IntKind.u8 0, Value.int IntKind.u8 0, Value.int IntKind.u8 0, Value.int IntKind.u8 0, Value.int IntKind.u8 0] 143)) = w3 at *
  obtain ⟨W, hW⟩ : ∃ W, W = w.heap.size := ⟨_, rfl⟩
  rw [← hW] at hbA' hbB' hR hX hsz ⊢
  have HBA := Lib.hid hbA'
  have HBB := Lib.hid hbB'
  have HR := Lib.hid hR
  have HX := Lib.hid hX
  have HW := Lib.hid hW
  have HS := Lib.hid hsz
  clear hbA hbB hbA' hbB' hR hX hW hsz
  go_still_tail 3, (by kernel_rfl)
  change wpList _ _ _ _ _ w3.drew
  refine wpList_copy_splice rfl (.tmp 11) (.tmp 13) 24 24 rfl 5 Try.underlying24 info5s _ _ _ _ _ _ rfl rfl (W + 2) 0 ((List.replicate 40 (0 : UInt8)).map byteV) 143 HR.out ((A.take 4).map byteV) (by rw [HCA.out]; rfl) (fun _ => ⟨rfl, _, rfl, fun j v hv => ?_⟩) (by rw [HCA.out, List.length_map, List.length_replicate]; omega) (bytes_oneCell _) (W + 2) w3.drew (Below.refl _ _) (Nat.le_refl _) ?_
  · have hx0 := hv
    rw [List.getElem?_map] at hx0
    obtain ⟨x, hx, rfl⟩ := Option.map_eq_some_iff.1 hx0
    have hx2 : A[j]? = some x := by exact take_get hx
    rcases HBA.out with h | ⟨b, o, e, h⟩
    · rw [h] at hx2; simp at hx2
    · cases e
      have hh := h j x hx2
      show w3.cell? _ = _
      rw [Addr.add_mid]; exact hh
  · intro w4 HG4 hb4
    rw [splice_map] at HG4
    have hbB4 : At w4 (some ⟨W + 1, 1, none⟩) B := by
      rcases HBB.out with h | ⟨b, o, e, h⟩
      · exact .inl h
      · cases e
        refine .inr ⟨_, _, rfl, fun i x hx => ?_⟩
        exact (hb4.cell (p := ⟨W + 1, 1 + i, none⟩) (by show W + 1 < W + 2; omega)).trans (h i x hx)
    have HBB4 := Lib.hid hbB4
    have HX4 : Hid (Below W w w4) := HX.out.trans ((below_drewN w3 1).mono (by have := HS.out; omega) |>.trans (hb4.mono (by omega)))
    have HS4 : Hid (w3.heap.size ≤ w4.heap.size) := hb4.size
    clear hb4 HBA HBB HR HX hbB4
    go_wp2_with fail
    go_still_tail 3, (by kernel_rfl)
    change wpList _ _ _ _ _ w4.drew
    refine wpList_copy_splice rfl (.tmp 15) (.tmp 17) 24 24 rfl 5 Try.underlying24 info5s _ _ _ _ _ _ rfl rfl (W + 2) 4 ((splice (List.replicate 40 (0 : UInt8)) 0 (A.take 4)).map byteV) 143 HG4.out ((B.take 4).map byteV) (by rw [HCB.out]; rfl) (fun _ => ⟨rfl, _, rfl, fun j v hv => ?_⟩) (by rw [HCB.out, List.length_map, length_splice _ _ _ (by rw [HA'.out]; simp)]; simp) (bytes_oneCell _) (W + 2) w4.drew (Below.refl _ _) (Nat.le_refl _) ?_
    · have hx0 := hv
      rw [List.getElem?_map] at hx0
      obtain ⟨x, hx, rfl⟩ := Option.map_eq_some_iff.1 hx0
      have hx2 : B[j]? = some x := by exact take_get hx
      rcases HBB4.out with h | ⟨b, o, e, h⟩
      · rw [h] at hx2; simp at hx2
      · cases e
        have hh := h j x hx2
        show w4.cell? _ = _
        rw [Addr.add_mid]; exact hh
    · intro w5 HG5 hb5
      rw [splice_map] at HG5
      have HX5 : Hid (Below W w w5) := HX4.out.trans ((below_drewN w4 1).mono (by have := HS.out; have := HS4.out; omega) |>.trans (hb5.mono (by omega)))
      clear hb5 HBB4 HX4 HG4
      obtain ⟨L, hL⟩ : ∃ L, L = splice (splice (List.replicate 40 (0 : UInt8)) 0 (A.take 4)) 4 (B.take 4) := ⟨_, rfl⟩
      rw [← hL] at HG5 HL1 HFIN
      have hR5 : RowAt w5 (W + 2) 143 L := HG5.out
      have c1 := hR5.cell 9 (L[9]'(by rw [HL1.out]; omega)) (by rw [List.getElem?_eq_getElem])
      have c2 := hR5.cell 10 (L[10]'(by rw [HL1.out]; omega)) (by rw [List.getElem?_eq_getElem])
      have c3 := hR5.cell 11 (L[11]'(by rw [HL1.out]; omega)) (by rw [List.getElem?_eq_getElem])
      have f1 := hR5.free 9
      have f2 := hR5.free 10
      have f3 := hR5.free 11
      have HR5 := Lib.hid hR5
      have ee1 := E1.out
      have ee2 := E2.out
      clear hR5 hL HG5
      have hstart : RowAt (((w5.setCell ⟨W + 2, 9, none⟩ (.int .u8 17)).setCell ⟨W + 2, 10, none⟩ (.int .u8 (hi.toNat : Int))).setCell ⟨W + 2, 11, none⟩ (.int .u8 (lo.toNat : Int))) (W + 2) 143 (aheadB false A B n ++ List.replicate 28 0) := by
        rw [← HFIN.out]; have hq := ((HR5.out.set 9 17).set 10 hi).set 11 lo
        rw [show (((17 : UInt8).toNat : Nat) : Int) = 17 from rfl] at hq
        exact hq
      have HST := Lib.hid hstart
      have HX6 : Hid (Below W w (((w5.setCell ⟨W + 2, 9, none⟩ (.int .u8 17)).setCell ⟨W + 2, 10, none⟩ (.int .u8 (hi.toNat : Int))).setCell ⟨W + 2, 11, none⟩ (.int .u8 (lo.toNat : Int)))) :=
        ((HX5.out.setCell (by show W ≤ W + 2; omega) _).setCell (by show W ≤ W + 2; omega) _).setCell (by show W ≤ W + 2; omega) _
      obtain ⟨F, hF⟩ : ∃ F, F = aheadB false A B n ++ List.replicate 28 0 := ⟨_, rfl⟩
      have hF40 : F.length = 40 := by rw [hF, ← HFIN.out]; simp [HL1.out]
      rw [← hF] at HST
      have HF40 := Lib.hid hF40
      have HFF := Lib.hid hF
      clear hstart hF hF40 HFIN
      go_wp2_with (first | ((with_reducible refine wpList_load143 (W + 2) F ?_ ?_ ?_ ?_); rfl; exact HST.out; exact HF40.out) | ((with_reducible refine wpList_store143_self (W + 2) F ?_ ?_ ?_ ?_ ?_); rfl; rfl; exact HST.out; exact HF40.out))
      have hl : (loadVar 143 ⟨W + 1 + 1, 0, none⟩).run Try.prog (((w5.setCell ⟨W + 1 + 1, 9, none⟩ (.int .u8 17)).setCell ⟨W + 1 + 1, 10, none⟩ (.int .u8 (hi.toNat : Int))).setCell ⟨W + 1 + 1, 11, none⟩ (.int .u8 (lo.toNat : Int))) = .ok (.agg (F.map byteV).toArray) _ := HST.out.load HF40.out
      refine bodyPost_ret (v := .tuple #[.agg (F.map byteV).toArray, .int .i64 12]) (by simp [results, Try.results84, asAddr, hl]) rfl ⟨?_, ?_⟩
      · rw [HFF.out]; rfl
      · rw [← HW.out]; exact HX6.out

set_option maxRecDepth 100000 in
set_option maxHeartbeats 1000000 in
theorem ahead6_any (w : World) (t : Bool) (A B : List UInt8) (n : Nat) (hA : A.length = 16) (hB : B.length = 16) (hn : n ≤ 65535) :
    Calls Try.prog 84 #[.agg (adrC true A), .agg (adrC t B), .int .i64 n] w (AheadRet w (aheadB true A B n) 40) := by
  have h1 := adr_zero true A
  have h2 := adr_zero t B
  obtain ⟨hi, hhi⟩ : ∃ hi, hi = UInt8.ofNat (n / 256 % 256) := ⟨_, rfl⟩
  obtain ⟨lo, hlo⟩ : ∃ lo, lo = UInt8.ofNat (n % 256) := ⟨_, rfl⟩
  have e1 : (n : Int) / 256 = (hi.toNat : Int) := by rw [hhi]; simp; omega
  have e2 : IntKind.u8.wrap (n : Int) = (lo.toNat : Int) := by rw [hlo, IntKind.wrap_u8]; simp
  have hfin := row6 A B n hA hB
  rw [← hhi, ← hlo] at hfin
  have hl1 : (splice (splice (List.replicate 40 (0 : UInt8)) 0 A) 16 B).length = 40 := by
    rw [length_splice _ _ _ (by rw [length_splice _ _ _ (by simp; try omega)]; simp; try omega), length_splice _ _ _ (by simp; try omega)]; simp
  have hcA : (A.map byteV).length = 16 := by simp; try omega
  have hcB : (B.map byteV).length = 16 := by simp; try omega
  have hA' : A.length = 16 := by first | exact hA | (simp; omega)
  have HFIN := Lib.hid hfin
  have HL1 := Lib.hid hl1
  have HCA := Lib.hid hcA
  have HCB := Lib.hid hcB
  have HA' := Lib.hid hA'
  have hbyt : hi.toNat < 256 := hi.toNat_lt
  have HA := Lib.hid hA
  have HB := Lib.hid hB
  have E1 := Lib.hid e1
  have E2 := Lib.hid e2
  clear hA hB hhi hlo hfin hl1 hcA hcB e1 e2 hA'
  go_enter Try.func84, Try.ntmps84
  go_wp2_with fail
  have hbA := rowAt_adr w true A 54
  have hbB := rowAt_adr (w.alloc (.cells (adrC true A) 54)) t B 54
  rw [size_alloc] at hbB
  have hR : RowAt (((w.alloc (.cells (adrC true A) 54)).alloc (.cells (adrC t B) 54)).alloc (.cells (List.map byteV (List.replicate 40 0)).toArray 143)) (w.heap.size + 2) 143 (List.replicate 40 0) := by
    have := heap_alloc_new ((w.alloc (.cells (adrC true A) 54)).alloc (.cells (adrC t B) 54)) (.cells (List.map byteV (List.replicate 40 0)).toArray 143)
    rw [size_alloc, size_alloc] at this
    exact this
  have hX : Below w.heap.size w (((w.alloc (.cells (adrC true A) 54)).alloc (.cells (adrC t B) 54)).alloc (.cells (List.map byteV (List.replicate 40 0)).toArray 143)) :=
    (((Below.refl _ _).alloc (Nat.le_refl _) _).alloc (by simp) _).alloc (by simp; omega) _
  have hbA' := (hbA.same (below_cells (below_alloc _ (.cells (adrC t B) 54)))).same (below_cells (below_alloc _ (.cells (List.map byteV (List.replicate 40 0)).toArray 143)))
  have hbB' := hbB.same (below_cells (below_alloc _ (.cells (List.map byteV (List.replicate 40 0)).toArray 143)))
  change RowAt (((w.alloc (.cells (adrC true A) 54)).alloc (.cells (adrC t B) 54)).alloc (Obj.cells #[Value.int IntKind.u8 0, Value.int IntKind.u8 0, Value.int IntKind.u8 0, Value.int IntKind.u8 0, Value.int IntKind.u8 0, Value.int IntKind.u8 0, Value.int IntKind.u8 0, Value.int IntKind.u8 0, Value.int IntKind.u8 0, Value.int IntKind.u8 0, Value.int IntKind.u8 0, Value.int IntKind.u8 0, Value.int IntKind.u8 0, Value.int IntKind.u8 0, Value.int IntKind.u8 0, Value.int IntKind.u8 0, Value.int IntKind.u8 0, Value.int IntKind.u8 0, Value.int IntKind.u8 0, Value.int IntKind.u8 0, Value.int IntKind.u8 0, Value.int IntKind.u8 0, Value.int IntKind.u8 0, Value.int IntKind.u8 0, Value.int IntKind.u8 0, Value.int IntKind.u8 0, Value.int IntKind.u8 0, Value.int IntKind.u8 0, Value.int IntKind.u8 0, Value.int IntKind.u8 0, Value.int IntKind.u8 0, Value.int IntKind.u8 0, Value.int IntKind.u8 0, Value.int IntKind.u8 0, Value.int IntKind.u8 0, Value.int IntKind.u8 0, Value.int IntKind.u8 0, Value.int IntKind.u8 0, Value.int IntKind.u8 0, Value.int IntKind.u8 0] 143)) _ _ _ at hR
  change Below w.heap.size w (((w.alloc (.cells (adrC true A) 54)).alloc (.cells (adrC t B) 54)).alloc (Obj.cells #[Value.int IntKind.u8 0, Value.int IntKind.u8 0, Value.int IntKind.u8 0, Value.int IntKind.u8 0, Value.int IntKind.u8 0, Value.int IntKind.u8 0, Value.int IntKind.u8 0, Value.int IntKind.u8 0, Value.int IntKind.u8 0, Value.int IntKind.u8 0, Value.int IntKind.u8 0, Value.int IntKind.u8 0, Value.int IntKind.u8 0, Value.int IntKind.u8 0, Value.int IntKind.u8 0, Value.int IntKind.u8 0, Value.int IntKind.u8 0, Value.int IntKind.u8 0, Value.int IntKind.u8 0, Value.int IntKind.u8 0, Value.int IntKind.u8 0, Value.int IntKind.u8 0, Value.int IntKind.u8 0, Value.int IntKind.u8 0, Value.int IntKind.u8 0, Value.int IntKind.u8 0, Value.int IntKind.u8 0, Value.int IntKind.u8 0, Value.int IntKind.u8 0, Value.int IntKind.u8 0, Value.int IntKind.u8 0, Value.int IntKind.u8 0, Value.int IntKind.u8 0, Value.int IntKind.u8 0, Value.int IntKind.u8 0, Value.int IntKind.u8 0, Value.int IntKind.u8 0, Value.int IntKind.u8 0, Value.int IntKind.u8 0, Value.int IntKind.u8 0] 143)) at hX
  change At (((w.alloc (.cells (adrC true A) 54)).alloc (.cells (adrC t B) 54)).alloc (Obj.cells #[Value.int IntKind.u8 0, Value.int IntKind.u8 0, Value.int IntKind.u8 0, Value.int IntKind.u8 0, Value.int IntKind.u8 0, Value.int IntKind.u8 0, Value.int IntKind.u8 0, Value.int IntKind.u8 0, Value.int IntKind.u8 0, Value.int IntKind.u8 0, Value.int IntKind.u8 0, Value.int IntKind.u8 0, Value.int IntKind.u8 0, Value.int IntKind.u8 0, Value.int IntKind.u8 0, Value.int IntKind.u8 0, Value.int IntKind.u8 0, Value.int IntKind.u8 0, Value.int IntKind.u8 0, Value.int IntKind.u8 0, Value.int IntKind.u8 0, Value.int IntKind.u8 0, Value.int IntKind.u8 0, Value.int IntKind.u8 0, Value.int IntKind.u8 0, Value.int IntKind.u8 0, Value.int IntKind.u8 0, Value.int IntKind.u8 0, Value.int IntKind.u8 0, Value.int IntKind.u8 0, Value.int IntKind.u8 0, Value.int IntKind.u8 0, Value.int IntKind.u8 0, Value.int IntKind.u8 0, Value.int IntKind.u8 0, Value.int IntKind.u8 0, Value.int IntKind.u8 0, Value.int IntKind.u8 0, Value.int IntKind.u8 0, Value.int IntKind.u8 0] 143)) _ _ at hbA'
  change At (((w.alloc (.cells (adrC true A) 54)).alloc (.cells (adrC t B) 54)).alloc (Obj.cells #[Value.int IntKind.u8 0, Value.int IntKind.u8 0, Value.int IntKind.u8 0, Value.int IntKind.u8 0, Value.int IntKind.u8 0, Value.int IntKind.u8 0, Value.int IntKind.u8 0, Value.int IntKind.u8 0, Value.int IntKind.u8 0, Value.int IntKind.u8 0, Value.int IntKind.u8 0, Value.int IntKind.u8 0, Value.int IntKind.u8 0, Value.int IntKind.u8 0, Value.int IntKind.u8 0, Value.int IntKind.u8 0, Value.int IntKind.u8 0, Value.int IntKind.u8 0, Value.int IntKind.u8 0, Value.int IntKind.u8 0, Value.int IntKind.u8 0, Value.int IntKind.u8 0, Value.int IntKind.u8 0, Value.int IntKind.u8 0, Value.int IntKind.u8 0, Value.int IntKind.u8 0, Value.int IntKind.u8 0, Value.int IntKind.u8 0, Value.int IntKind.u8 0, Value.int IntKind.u8 0, Value.int IntKind.u8 0, Value.int IntKind.u8 0, Value.int IntKind.u8 0, Value.int IntKind.u8 0, Value.int IntKind.u8 0, Value.int IntKind.u8 0, Value.int IntKind.u8 0, Value.int IntKind.u8 0, Value.int IntKind.u8 0, Value.int IntKind.u8 0] 143)) _ _ at hbB'
  have hsz : (((w.alloc (.cells (adrC true A) 54)).alloc (.cells (adrC t B) 54)).alloc (Obj.cells #[Value.int IntKind.u8 0, Value.int IntKind.u8 0, Value.int IntKind.u8 0, Value.int IntKind.u8 0, Value.int IntKind.u8 0, Value.int IntKind.u8 0, Value.int IntKind.u8 0, Value.int IntKind.u8 0, Value.int IntKind.u8 0, Value.int IntKind.u8 0, Value.int IntKind.u8 0, Value.int IntKind.u8 0, Value.int IntKind.u8 0, Value.int IntKind.u8 0, Value.int IntKind.u8 0, Value.int IntKind.u8 0, Value.int IntKind.u8 0, Value.int IntKind.u8 0, Value.int IntKind.u8 0, Value.int IntKind.u8 0, Value.int IntKind.u8 0, Value.int IntKind.u8 0, Value.int IntKind.u8 0, Value.int IntKind.u8 0, Value.int IntKind.u8 0, Value.int IntKind.u8 0, Value.int IntKind.u8 0, Value.int IntKind.u8 0, Value.int IntKind.u8 0, Value.int IntKind.u8 0, Value.int IntKind.u8 0, Value.int IntKind.u8 0, Value.int IntKind.u8 0, Value.int IntKind.u8 0, Value.int IntKind.u8 0, Value.int IntKind.u8 0, Value.int IntKind.u8 0, Value.int IntKind.u8 0, Value.int IntKind.u8 0, Value.int IntKind.u8 0] 143)).heap.size = w.heap.size + 3 := by simp
  generalize (((w.alloc (.cells (adrC true A) 54)).alloc (.cells (adrC t B) 54)).alloc (Obj.cells #[Value.int IntKind.u8 0, Value.int IntKind.u8 0, Value.int IntKind.u8 0, Value.int IntKind.u8 0, Value.int IntKind.u8 0, Value.int IntKind.u8 0, Value.int IntKind.u8 0, Value.int IntKind.u8 0, Value.int IntKind.u8 0, Value.int IntKind.u8 0, Value.int IntKind.u8 0, Value.int IntKind.u8 0, Value.int IntKind.u8 0, Value.int IntKind.u8 0, Value.int IntKind.u8 0, Value.int IntKind.u8 0, Value.int IntKind.u8 0, Value.int IntKind.u8 0, Value.int IntKind.u8 0, Value.int IntKind.u8 0, Value.int IntKind.u8 0, Value.int IntKind.u8 0, Value.int IntKind.u8 0, Value.int IntKind.u8 0, Value.int IntKind.u8 0, Value.int IntKind.u8 0, Value.int IntKind.u8 0, Value.int IntKind.u8 0, Value.int IntKind.u8 0, Value.int IntKind.u8 0, Value.int IntKind.u8 0, Value.int IntKind.u8 0, Value.int IntKind.u8 0, Value.int IntKind.u8 0, Value.int IntKind.u8 0, Value.int IntKind.u8 0, Value.int IntKind.u8 0, Value.int IntKind.u8 0, Value.int IntKind.u8 0, Value.int IntKind.u8 0] 143)) = w3 at *
  obtain ⟨W, hW⟩ : ∃ W, W = w.heap.size := ⟨_, rfl⟩
  rw [← hW] at hbA' hbB' hR hX hsz ⊢
  have HBA := Lib.hid hbA'
  have HBB := Lib.hid hbB'
  have HR := Lib.hid hR
  have HX := Lib.hid hX
  have HW := Lib.hid hW
  have HS := Lib.hid hsz
  clear hbA hbB hbA' hbB' hR hX hW hsz
  go_still_tail 3, (by kernel_rfl)
  change wpList _ _ _ _ _ w3.drew
  refine wpList_copy_splice rfl (.tmp 28) (.tmp 30) 24 24 rfl 5 Try.underlying24 info5s _ _ _ _ _ _ rfl rfl (W + 2) 0 ((List.replicate 40 (0 : UInt8)).map byteV) 143 HR.out (A.map byteV) (by rw [HCA.out]; rfl) (fun _ => ⟨rfl, _, rfl, fun j v hv => ?_⟩) (by rw [HCA.out, List.length_map, List.length_replicate]; omega) (bytes_oneCell _) (W + 2) w3.drew (Below.refl _ _) (Nat.le_refl _) ?_
  · have hx0 := hv
    rw [List.getElem?_map] at hx0
    obtain ⟨x, hx, rfl⟩ := Option.map_eq_some_iff.1 hx0
    have hx2 : A[j]? = some x := by exact hx
    rcases HBA.out with h | ⟨b, o, e, h⟩
    · rw [h] at hx2; simp at hx2
    · cases e
      have hh := h j x hx2
      show w3.cell? _ = _
      rw [Addr.add_mid]; exact hh
  · intro w4 HG4 hb4
    rw [splice_map] at HG4
    have hbB4 : At w4 (some ⟨W + 1, 1, none⟩) B := by
      rcases HBB.out with h | ⟨b, o, e, h⟩
      · exact .inl h
      · cases e
        refine .inr ⟨_, _, rfl, fun i x hx => ?_⟩
        exact (hb4.cell (p := ⟨W + 1, 1 + i, none⟩) (by show W + 1 < W + 2; omega)).trans (h i x hx)
    have HBB4 := Lib.hid hbB4
    have HX4 : Hid (Below W w w4) := HX.out.trans ((below_drewN w3 1).mono (by have := HS.out; omega) |>.trans (hb4.mono (by omega)))
    have HS4 : Hid (w3.heap.size ≤ w4.heap.size) := hb4.size
    clear hb4 HBA HBB HR HX hbB4
    go_wp2_with fail
    go_still_tail 3, (by kernel_rfl)
    change wpList _ _ _ _ _ w4.drew
    refine wpList_copy_splice rfl (.tmp 32) (.tmp 34) 24 24 rfl 5 Try.underlying24 info5s _ _ _ _ _ _ rfl rfl (W + 2) 16 ((splice (List.replicate 40 (0 : UInt8)) 0 A).map byteV) 143 HG4.out (B.map byteV) (by rw [HCB.out]; rfl) (fun _ => ⟨rfl, _, rfl, fun j v hv => ?_⟩) (by rw [HCB.out, List.length_map, length_splice _ _ _ (by rw [HA'.out]; simp)]; simp) (bytes_oneCell _) (W + 2) w4.drew (Below.refl _ _) (Nat.le_refl _) ?_
    · have hx0 := hv
      rw [List.getElem?_map] at hx0
      obtain ⟨x, hx, rfl⟩ := Option.map_eq_some_iff.1 hx0
      have hx2 : B[j]? = some x := by exact hx
      rcases HBB4.out with h | ⟨b, o, e, h⟩
      · rw [h] at hx2; simp at hx2
      · cases e
        have hh := h j x hx2
        show w4.cell? _ = _
        rw [Addr.add_mid]; exact hh
    · intro w5 HG5 hb5
      rw [splice_map] at HG5
      have HX5 : Hid (Below W w w5) := HX4.out.trans ((below_drewN w4 1).mono (by have := HS.out; have := HS4.out; omega) |>.trans (hb5.mono (by omega)))
      clear hb5 HBB4 HX4 HG4
      obtain ⟨L, hL⟩ : ∃ L, L = splice (splice (List.replicate 40 (0 : UInt8)) 0 A) 16 B := ⟨_, rfl⟩
      rw [← hL] at HG5 HL1 HFIN
      have hR5 : RowAt w5 (W + 2) 143 L := HG5.out
      have c1 := hR5.cell 34 (L[34]'(by rw [HL1.out]; omega)) (by rw [List.getElem?_eq_getElem])
      have c2 := hR5.cell 35 (L[35]'(by rw [HL1.out]; omega)) (by rw [List.getElem?_eq_getElem])
      have c3 := hR5.cell 39 (L[39]'(by rw [HL1.out]; omega)) (by rw [List.getElem?_eq_getElem])
      have f1 := hR5.free 34
      have f2 := hR5.free 35
      have f3 := hR5.free 39
      have HR5 := Lib.hid hR5
      have ee1 := E1.out
      have ee2 := E2.out
      clear hR5 hL HG5
      have hstart : RowAt (((w5.setCell ⟨W + 2, 34, none⟩ (.int .u8 (hi.toNat : Int))).setCell ⟨W + 2, 35, none⟩ (.int .u8 (lo.toNat : Int))).setCell ⟨W + 2, 39, none⟩ (.int .u8 17)) (W + 2) 143 (aheadB true A B n) := by
        rw [← HFIN.out]; have hq := ((HR5.out.set 34 hi).set 35 lo).set 39 17
        rw [show (((17 : UInt8).toNat : Nat) : Int) = 17 from rfl] at hq
        exact hq
      have HST := Lib.hid hstart
      have HX6 : Hid (Below W w (((w5.setCell ⟨W + 2, 34, none⟩ (.int .u8 (hi.toNat : Int))).setCell ⟨W + 2, 35, none⟩ (.int .u8 (lo.toNat : Int))).setCell ⟨W + 2, 39, none⟩ (.int .u8 17))) :=
        ((HX5.out.setCell (by show W ≤ W + 2; omega) _).setCell (by show W ≤ W + 2; omega) _).setCell (by show W ≤ W + 2; omega) _
      obtain ⟨F, hF⟩ : ∃ F, F = aheadB true A B n := ⟨_, rfl⟩
      have hF40 : F.length = 40 := by rw [hF, ← HFIN.out]; simp [HL1.out]
      rw [← hF] at HST
      have HF40 := Lib.hid hF40
      have HFF := Lib.hid hF
      clear hstart hF hF40 HFIN
      go_wp2_with (first | ((with_reducible refine wpList_load143 (W + 2) F ?_ ?_ ?_ ?_); rfl; exact HST.out; exact HF40.out) | ((with_reducible refine wpList_store143_self (W + 2) F ?_ ?_ ?_ ?_ ?_); rfl; rfl; exact HST.out; exact HF40.out))
      have hl : (loadVar 143 ⟨W + 1 + 1, 0, none⟩).run Try.prog (((w5.setCell ⟨W + 1 + 1, 34, none⟩ (.int .u8 (hi.toNat : Int))).setCell ⟨W + 1 + 1, 35, none⟩ (.int .u8 (lo.toNat : Int))).setCell ⟨W + 1 + 1, 39, none⟩ (.int .u8 17)) = .ok (.agg (F.map byteV).toArray) _ := HST.out.load HF40.out
      refine bodyPost_ret (v := .tuple #[.agg (F.map byteV).toArray, .int .i64 40]) (by simp [results, Try.results84, asAddr, hl]) rfl ⟨?_, ?_⟩
      · rw [HFF.out]; rfl
      · rw [← HW.out]; exact HX6.out

end Go.Proofs.Ytnckmaieghlpmaa
