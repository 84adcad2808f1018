/-
  The walk of udp.Open.
-/
import Derived.Test.YtnckmaieghlpmaaUref
import Derived.Deep.RegionHeld3
import Derived.Deep.QuietTactic
import Derived.BigQuiet
namespace Go.Proofs.Ytnckmaieghlpmaa
open Go.RowKit
set_option linter.unusedVariables false

/-- where Open stands: both addresses, the row -/
def OpenSt (w wr : World) (s t : Bool) (A B : List UInt8) (v : Value) (bs : List UInt8) : Prop :=
  Below w.heap.size w wr ∧ AdrAt wr w.heap.size 0 s A ∧ AdrAt wr (w.heap.size + 1) 0 t B ∧ wr.cell? ⟨w.heap.size + 2, 0, none⟩ = some v ∧ wr.cell? ⟨w.heap.size + 2, 1, none⟩ = some (.bool false) ∧ Bs wr v bs ∧ w.heap.size + 2 < wr.heap.size
theorem OpenSt.below {w wr w' : World} {s t : Bool} {A B : List UInt8} {v : Value} {bs : List UInt8} (h : OpenSt w wr s t A B v bs) (hb : Below wr.heap.size wr w') : OpenSt w w' s t A B v bs :=
  ⟨h.1.trans (hb.mono h.1.size), h.2.1.below hb, h.2.2.1.below hb, below_cells hb _ _ h.2.2.2.1, below_cells hb _ _ h.2.2.2.2.1, h.2.2.2.2.2.1.below hb, Nat.lt_of_lt_of_le h.2.2.2.2.2.2 hb.size⟩
theorem openSt_new (w : World) (s t : Bool) (A B : List UInt8) (v : Value) (bs : List UInt8) (hb : Bs w v bs) :
    OpenSt w (((w.alloc (.cells (adrC s A) 54)).alloc (.cells (adrC t B) 54)).alloc (.cells #[v, .bool false] 30)) s t A B v bs := by
  have hz : ((w.alloc (.cells (adrC s A) 54)).alloc (.cells (adrC t B) 54)).heap.size = w.heap.size + 2 := by simp
  refine ⟨(((Below.refl _ _).alloc (Nat.le_refl _) _).alloc (by simp) _).alloc (by simp; omega) _, ((adrAt_new w s A 54).below (below_alloc _ _)).below (below_alloc _ _), ?_, ?_, ?_, ((hb.alloc _).alloc _).alloc _, by simp⟩
  · have := adrAt_new (w.alloc (.cells (adrC s A) 54)) t B 54
    rw [size_alloc] at this; exact this.below (below_alloc _ _)
  · have := World.cell?_alloc_mark ((w.alloc (.cells (adrC s A) 54)).alloc (.cells (adrC t B) 54)) #[v, .bool false] 30 (0, 0) 0
    rw [hz] at this; exact this
  · have := World.cell?_alloc_mark ((w.alloc (.cells (adrC s A) 54)).alloc (.cells (adrC t B) 54)) #[v, .bool false] 30 (0, 0) 1
    rw [hz] at this; exact this

/-- why there is no datagram; 0: there is one -/
def udpWhy (s t : Bool) (A B bs : List UInt8) : Nat :=
  if s ≠ t then 4 else if bs.length < 8 then 3 else if getN false bs 4 2 < 8 then 4 else if bs.length < getN false bs 4 2 then 3
  else if getN false bs 6 2 = 0 ∧ s = false then 0
  else if getN false bs 6 2 = 0 ∨ csum (aheadB s A B (getN false bs 4 2) ++ bs.take (getN false bs 4 2)) ≠ 0 then 5 else 0

def OpenNo (w : World) (c : Nat) (e : Ending) (w' : World) : Prop :=
  e = .returned (.tuple #[.int .u16 0, .int .u16 0, .slice none 0 0, .int .u8 c]) ∧ Below w.heap.size w w'
def OpenYes (w : World) (f t m : Nat) (xs : List UInt8) (e : Ending) (w' : World) : Prop :=
  ∃ v, e = .returned (.tuple #[.int .u16 f, .int .u16 t, v, .int .u8 0]) ∧ Bsc w' v xs m ∧ Below w.heap.size w w'
theorem openS_keep {w w' w'' : World} {s t : Bool} {A B : List UInt8} {v : Value} {bs : List UInt8} (hb : Below w'.heap.size w' w'') (h : OpenSt w w' s t A B v bs) :
    w''.cell? ⟨w.heap.size + 2, 0, none⟩ = some v ∧ w''.cell? ⟨w.heap.size + 2, 1, none⟩ = some (.bool false) ∧ OpenSt w w'' s t A B v bs :=
  have h' := h.below hb
  ⟨h'.2.2.2.1, h'.2.2.2.2.1, h'⟩
theorem OpenSt.bytes {w w' : World} {s t : Bool} {A B : List UInt8} {v : Value} {bs : List UInt8} (h : OpenSt w w' s t A B v bs) : Bs w' v bs := h.2.2.2.2.2.1

set_option maxRecDepth 100000 in
set_option maxHeartbeats 1000000 in
theorem open_no1 (w : World) (s t : Bool) (A B : List UInt8) (v : Value) (bs : List UInt8) (hA : A.length = 16) (hB : B.length = 16) (hb : Bs w v bs) (N O : Nat) (hN : N = getN false bs 4 2) (hO : O = getN false bs 6 2) (hst : s ≠ t) :
    Calls Try.prog 38 #[.agg (adrC s A), .agg (adrC t B), v] w (OpenNo w 4) := by
  have HS : Hid (OpenSt w _ s t A B v bs) := openSt_new w s t A B v bs hb
  obtain ⟨a, c, rfl, hl1, hl2, hat⟩ := hb
  clear hat
  unfold maxLen at hl2
  have hN6 : N < 65536 := hN ▸ getN_lt false bs 4 2
  have hO6 : O < 65536 := hO ▸ getN_lt false bs 6 2
  have HN := Lib.hid hN
  have HO := Lib.hid hO
  have HA := Lib.hid hA
  have HB := Lib.hid hB
  clear hN hO hA hB
  go_enter Try.func38, Try.ntmps38
  go_wp2_with fail
  refine (u16_any _ _ bs false 4 HS.out.2.2.2.2.2.1).mono ?_
  rintro e w1 ⟨rfl, hb1⟩
  rw [← HN.out]
  have HS1 : Hid (OpenSt w w1 s t A B (.slice a bs.length c) bs) := HS.out.below hb1
  clear hb1 HS
  go_wp2_with (first | ((with_reducible refine wpList_load54 w.heap.size 0 s A ?_ ?_ ?_ ?_); rfl; exact HS1.out.2.1; exact HA.out) | ((with_reducible refine wpList_load54 (w.heap.size + 1) 0 t B ?_ ?_ ?_ ?_); rfl; exact HS1.out.2.2.1; exact HB.out))
  refine (mixed_any _ s t A B).mono ?_
  rintro e w2 ⟨rfl, hb2⟩
  have HS2 : Hid (OpenSt w w2 s t A B (.slice a bs.length c) bs) := HS1.out.below hb2
  clear hb2 HS1
  have hst' : (s != t) = true := by simpa using hst
  rw [hst']
  clear hst hst'
  go_wp2_with fail
  refine bodyPost_ret (v := .tuple #[.int .u16 0, .int .u16 0, .slice none 0 0, .int .u8 4]) (by simp [results, Try.results38]) rfl ⟨rfl, HS2.out.1⟩

set_option maxRecDepth 100000 in
set_option maxHeartbeats 1000000 in
theorem open_no2 (w : World) (s : Bool) (A B : List UInt8) (v : Value) (bs : List UInt8) (hA : A.length = 16) (hB : B.length = 16) (hb : Bs w v bs) (N O : Nat) (hN : N = getN false bs 4 2) (hO : O = getN false bs 6 2) (hlen : bs.length < 8) :
    Calls Try.prog 38 #[.agg (adrC s A), .agg (adrC s B), v] w (OpenNo w 3) := by
  have HS : Hid (OpenSt w _ s s A B v bs) := openSt_new w s s A B v bs hb
  obtain ⟨a, c, rfl, hl1, hl2, hat⟩ := hb
  clear hat
  unfold maxLen at hl2
  have hN6 : N < 65536 := hN ▸ getN_lt false bs 4 2
  have hO6 : O < 65536 := hO ▸ getN_lt false bs 6 2
  have HN := Lib.hid hN
  have HO := Lib.hid hO
  have HA := Lib.hid hA
  have HB := Lib.hid hB
  clear hN hO hA hB
  go_enter Try.func38, Try.ntmps38
  go_wp2_with fail
  refine (u16_any _ _ bs false 4 HS.out.2.2.2.2.2.1).mono ?_
  rintro e w1 ⟨rfl, hb1⟩
  rw [← HN.out]
  have HS1 : Hid (OpenSt w w1 s s A B (.slice a bs.length c) bs) := HS.out.below hb1
  clear hb1 HS
  go_wp2_with (first | ((with_reducible refine wpList_load54 w.heap.size 0 s A ?_ ?_ ?_ ?_); rfl; exact HS1.out.2.1; exact HA.out) | ((with_reducible refine wpList_load54 (w.heap.size + 1) 0 s B ?_ ?_ ?_ ?_); rfl; exact HS1.out.2.2.1; exact HB.out))
  refine (mixed_any _ s s A B).mono ?_
  rintro e w2 ⟨rfl, hb2⟩
  have HS2 : Hid (OpenSt w w2 s s A B (.slice a bs.length c) bs) := HS1.out.below hb2
  clear hb2 HS1
  rw [show (s != s) = false by simp]
  go_wp2_with fail
  refine bodyPost_ret (v := .tuple #[.int .u16 0, .int .u16 0, .slice none 0 0, .int .u8 3]) (by simp [results, Try.results38]) rfl ⟨rfl, HS2.out.1⟩

set_option maxRecDepth 100000 in
set_option maxHeartbeats 1000000 in
theorem open_no3 (w : World) (s : Bool) (A B : List UInt8) (v : Value) (bs : List UInt8) (hA : A.length = 16) (hB : B.length = 16) (hb : Bs w v bs) (N O : Nat) (hN : N = getN false bs 4 2) (hO : O = getN false bs 6 2) (hlen : 8 ≤ bs.length) (hn : N < 8) :
    Calls Try.prog 38 #[.agg (adrC s A), .agg (adrC s B), v] w (OpenNo w 4) := by
  have HS : Hid (OpenSt w _ s s A B v bs) := openSt_new w s s A B v bs hb
  obtain ⟨a, c, rfl, hl1, hl2, hat⟩ := hb
  clear hat
  unfold maxLen at hl2
  have hN6 : N < 65536 := hN ▸ getN_lt false bs 4 2
  have hO6 : O < 65536 := hO ▸ getN_lt false bs 6 2
  have HN := Lib.hid hN
  have HO := Lib.hid hO
  have HA := Lib.hid hA
  have HB := Lib.hid hB
  clear hN hO hA hB
  go_enter Try.func38, Try.ntmps38
  go_wp2_with fail
  refine (u16_any _ _ bs false 4 HS.out.2.2.2.2.2.1).mono ?_
  rintro e w1 ⟨rfl, hb1⟩
  rw [← HN.out]
  have HS1 : Hid (OpenSt w w1 s s A B (.slice a bs.length c) bs) := HS.out.below hb1
  clear hb1 HS
  go_wp2_with (first | ((with_reducible refine wpList_load54 w.heap.size 0 s A ?_ ?_ ?_ ?_); rfl; exact HS1.out.2.1; exact HA.out) | ((with_reducible refine wpList_load54 (w.heap.size + 1) 0 s B ?_ ?_ ?_ ?_); rfl; exact HS1.out.2.2.1; exact HB.out))
  refine (mixed_any _ s s A B).mono ?_
  rintro e w2 ⟨rfl, hb2⟩
  have HS2 : Hid (OpenSt w w2 s s A B (.slice a bs.length c) bs) := HS1.out.below hb2
  clear hb2 HS1
  rw [show (s != s) = false by simp]
  go_wp2_with fail
  refine bodyPost_ret (v := .tuple #[.int .u16 0, .int .u16 0, .slice none 0 0, .int .u8 4]) (by simp [results, Try.results38]) rfl ⟨rfl, HS2.out.1⟩

set_option maxRecDepth 100000 in
set_option maxHeartbeats 1000000 in
theorem open_no4 (w : World) (s : Bool) (A B : List UInt8) (v : Value) (bs : List UInt8) (hA : A.length = 16) (hB : B.length = 16) (hb : Bs w v bs) (N O : Nat) (hN : N = getN false bs 4 2) (hO : O = getN false bs 6 2) (hlen : 8 ≤ bs.length) (hn : 8 ≤ N) (hs : bs.length < N) :
    Calls Try.prog 38 #[.agg (adrC s A), .agg (adrC s B), v] w (OpenNo w 3) := by
  have HS : Hid (OpenSt w _ s s A B v bs) := openSt_new w s s A B v bs hb
  obtain ⟨a, c, rfl, hl1, hl2, hat⟩ := hb
  clear hat
  unfold maxLen at hl2
  have hN6 : N < 65536 := hN ▸ getN_lt false bs 4 2
  have hO6 : O < 65536 := hO ▸ getN_lt false bs 6 2
  have HN := Lib.hid hN
  have HO := Lib.hid hO
  have HA := Lib.hid hA
  have HB := Lib.hid hB
  clear hN hO hA hB
  go_enter Try.func38, Try.ntmps38
  go_wp2_with fail
  refine (u16_any _ _ bs false 4 HS.out.2.2.2.2.2.1).mono ?_
  rintro e w1 ⟨rfl, hb1⟩
  rw [← HN.out]
  have HS1 : Hid (OpenSt w w1 s s A B (.slice a bs.length c) bs) := HS.out.below hb1
  clear hb1 HS
  go_wp2_with (first | ((with_reducible refine wpList_load54 w.heap.size 0 s A ?_ ?_ ?_ ?_); rfl; exact HS1.out.2.1; exact HA.out) | ((with_reducible refine wpList_load54 (w.heap.size + 1) 0 s B ?_ ?_ ?_ ?_); rfl; exact HS1.out.2.2.1; exact HB.out))
  refine (mixed_any _ s s A B).mono ?_
  rintro e w2 ⟨rfl, hb2⟩
  have HS2 : Hid (OpenSt w w2 s s A B (.slice a bs.length c) bs) := HS1.out.below hb2
  clear hb2 HS1
  rw [show (s != s) = false by simp]
  go_wp2_with fail
  refine bodyPost_ret (v := .tuple #[.int .u16 0, .int .u16 0, .slice none 0 0, .int .u8 3]) (by simp [results, Try.results38]) rfl ⟨rfl, HS2.out.1⟩

set_option maxRecDepth 100000 in
set_option maxHeartbeats 1000000 in
theorem open_no5 (w : World) (A B : List UInt8) (v : Value) (bs : List UInt8) (hA : A.length = 16) (hB : B.length = 16) (hb : Bs w v bs) (N O : Nat) (hN : N = getN false bs 4 2) (hO : O = getN false bs 6 2) (hlen : 8 ≤ bs.length) (hn : 8 ≤ N) (hs : N ≤ bs.length) (ho : O = 0) :
    Calls Try.prog 38 #[.agg (adrC true A), .agg (adrC true B), v] w (OpenNo w 5) := by
  have HS : Hid (OpenSt w _ true true A B v bs) := openSt_new w true true A B v bs hb
  obtain ⟨a, c, rfl, hl1, hl2, hat⟩ := hb
  clear hat
  unfold maxLen at hl2
  have hN6 : N < 65536 := hN ▸ getN_lt false bs 4 2
  have hO6 : O < 65536 := hO ▸ getN_lt false bs 6 2
  subst ho
  have HN := Lib.hid hN
  have HO := Lib.hid hO
  have HA := Lib.hid hA
  have HB := Lib.hid hB
  clear hN hO hA hB
  go_enter Try.func38, Try.ntmps38
  go_wp2_with fail
  refine (u16_any _ _ bs false 4 HS.out.2.2.2.2.2.1).mono ?_
  rintro e w1 ⟨rfl, hb1⟩
  rw [← HN.out]
  have HS1 : Hid (OpenSt w w1 true true A B (.slice a bs.length c) bs) := HS.out.below hb1
  clear hb1 HS
  go_wp2_with (first | ((with_reducible refine wpList_load54 w.heap.size 0 true A ?_ ?_ ?_ ?_); rfl; exact HS1.out.2.1; exact HA.out) | ((with_reducible refine wpList_load54 (w.heap.size + 1) 0 true B ?_ ?_ ?_ ?_); rfl; exact HS1.out.2.2.1; exact HB.out))
  refine (mixed_any _ true true A B).mono ?_
  rintro e w2 ⟨rfl, hb2⟩
  have HS2 : Hid (OpenSt w w2 true true A B (.slice a bs.length c) bs) := HS1.out.below hb2
  clear hb2 HS1
  rw [show (true != true) = false by simp]
  have e0 := HS2.out.2.2.2.1
  have e1 := HS2.out.2.2.2.2.1
  go_wp2_with fail
  refine (u16_any _ _ bs false 6 HS2.out.2.2.2.2.2.1).mono ?_
  rintro e w3 ⟨rfl, hb3⟩
  rw [← HO.out]
  have HS3 : Hid (OpenSt w w3 true true A B (.slice a bs.length c) bs) := HS2.out.below hb3
  clear hb3 HS2 e0 e1
  have z0 := HS3.out.2.1.flag
  go_wp2_with fail
  go_quiet (fail)
  go_wp2_with fail
  refine bodyPost_ret (v := .tuple #[.int .u16 0, .int .u16 0, .slice none 0 0, .int .u8 5]) (by simp [results, Try.results38]) rfl ⟨rfl, HS3.out.1.trans ((below_drewN _ _).mono HS3.out.1.size)⟩

set_option maxRecDepth 100000 in
set_option maxHeartbeats 1000000 in
theorem open_yes6 (w : World) (A B : List UInt8) (v : Value) (bs : List UInt8) (hA : A.length = 16) (hB : B.length = 16) (hb : Bs w v bs) (N O : Nat) (hN : N = getN false bs 4 2) (hO : O = getN false bs 6 2) (hlen : 8 ≤ bs.length) (hn : 8 ≤ N) (hs : N ≤ bs.length) (ho : O = 0) :
    Calls Try.prog 38 #[.agg (adrC false A), .agg (adrC false B), v] w (OpenYes w (getN false bs 0 2) (getN false bs 2 2) (N - 8) ((bs.drop 8).take (N - 8))) := by
  have HS : Hid (OpenSt w _ false false A B v bs) := openSt_new w false false A B v bs hb
  obtain ⟨a, c, rfl, hl1, hl2, hat⟩ := hb
  clear hat
  unfold maxLen at hl2
  have hN6 : N < 65536 := hN ▸ getN_lt false bs 4 2
  have hO6 : O < 65536 := hO ▸ getN_lt false bs 6 2
  subst ho
  have HN := Lib.hid hN
  have HO := Lib.hid hO
  have HA := Lib.hid hA
  have HB := Lib.hid hB
  clear hN hO hA hB
  go_enter Try.func38, Try.ntmps38
  go_wp2_with fail
  refine (u16_any _ _ bs false 4 HS.out.2.2.2.2.2.1).mono ?_
  rintro e w1 ⟨rfl, hb1⟩
  rw [← HN.out]
  have HS1 : Hid (OpenSt w w1 false false A B (.slice a bs.length c) bs) := HS.out.below hb1
  clear hb1 HS
  go_wp2_with (first | ((with_reducible refine wpList_load54 w.heap.size 0 false A ?_ ?_ ?_ ?_); rfl; exact HS1.out.2.1; exact HA.out) | ((with_reducible refine wpList_load54 (w.heap.size + 1) 0 false B ?_ ?_ ?_ ?_); rfl; exact HS1.out.2.2.1; exact HB.out))
  refine (mixed_any _ false false A B).mono ?_
  rintro e w2 ⟨rfl, hb2⟩
  have HS2 : Hid (OpenSt w w2 false false A B (.slice a bs.length c) bs) := HS1.out.below hb2
  clear hb2 HS1
  rw [show (false != false) = false by simp]
  have e0 := HS2.out.2.2.2.1
  have e1 := HS2.out.2.2.2.2.1
  go_wp2_with fail
  refine (u16_any _ _ bs false 6 HS2.out.2.2.2.2.2.1).mono ?_
  rintro e w3 ⟨rfl, hb3⟩
  rw [← HO.out]
  have HS3 : Hid (OpenSt w w3 false false A B (.slice a bs.length c) bs) := HS2.out.below hb3
  clear hb3 HS2 e0 e1
  have z0 := HS3.out.2.1.flag
  have hl3 : True := trivial
  have HS5 := HS3
  generalize w3 = w5 at *
  clear HS3
  go_wp2_with fail
  have hS := HS5.out
  have q1 := hS.2.2.2.1
  have q2 := hS.2.2.2.2.1
  clear HS5 hl3
  have i0 : (0 : Int) ≤ (N : Int) := by omega
  have i1 : (N : Int) ≤ (c : Int) := by omega
  have i3 : (8 : Int) ≤ (N : Int) := by omega
  have i4 : (N : Int) ≤ (N : Int) := by omega
  go_region_held3 (fun w' => w'.cell? ⟨w.heap.size + 2, 0, none⟩ = some (.slice a bs.length c) ∧ w'.cell? ⟨w.heap.size + 2, 1, none⟩ = some (.bool false) ∧ OpenSt w w' false false A B (.slice a bs.length c) bs)
    ((first | (go_split_ands; exact openS_keep (below_drewN _ 1) (by assumption)) | (go_split_ands; exact openS_keep (by assumption) (by assumption))))
    (first | (go_at_call 29; go_split_ands; refine (u16_any _ _ bs false _ (OpenSt.bytes (by assumption))).mono ?_; rintro e w' ⟨rfl, hb⟩; dsimp only))
  rename_i hh
  have HF := Lib.hid hh.2.2
  clear hh
  have hv : Bsc w' (.slice (if N = 8 then a else Option.map (fun x => { block := x.block, off := x.off + 8 }) a) (N - 8) (N - 8)) ((bs.drop 8).take (N - 8)) (N - 8) := by
    obtain ⟨c', hc'⟩ := HF.out.bytes.cap
    have hcc : c' = c := by obtain ⟨_, e, _⟩ := hc'; simp only [Value.slice.injEq] at e; exact e.2.2.symm
    subst hcc
    have := bsc_sliced hc' (l := 8) (hi := N) (m := N) (by omega) (Nat.le_refl _) (by omega) hs
    simpa [sliced, Addr.add] using this
  generalize (if N = 8 then a else Option.map (fun x => ({ block := x.block, off := x.off + 8 } : Addr)) a) = av at hv ⊢
  have HV := Lib.hid hv
  clear hv
  go_wp2_with fail
  refine bodyPost_ret (v := .tuple #[.int .u16 (getN false bs 0 2), .int .u16 (getN false bs 2 2), .slice av (N - 8) (N - 8), .int .u8 0]) (by simp [results, Try.results38]) rfl ⟨_, rfl, HV.out, HF.out.1⟩

set_option maxRecDepth 100000 in
set_option maxHeartbeats 1000000 in
theorem open_no7 (w : World) (s : Bool) (A B : List UInt8) (v : Value) (bs : List UInt8) (hA : A.length = 16) (hB : B.length = 16) (hb : Bs w v bs) (N O : Nat) (hN : N = getN false bs 4 2) (hO : O = getN false bs 6 2) (hlen : 8 ≤ bs.length) (hn : 8 ≤ N) (hs : N ≤ bs.length) (ho : 0 < O) (hc : csum (aheadB s A B N ++ bs.take N) ≠ 0) :
    Calls Try.prog 38 #[.agg (adrC s A), .agg (adrC s B), v] w (OpenNo w 5) := by
  have HS : Hid (OpenSt w _ s s A B v bs) := openSt_new w s s A B v bs hb
  obtain ⟨a, c, rfl, hl1, hl2, hat⟩ := hb
  clear hat
  unfold maxLen at hl2
  have hN6 : N < 65536 := hN ▸ getN_lt false bs 4 2
  have hO6 : O < 65536 := hO ▸ getN_lt false bs 6 2
  have HN := Lib.hid hN
  have HO := Lib.hid hO
  have HA := Lib.hid hA
  have HB := Lib.hid hB
  clear hN hO hA hB
  go_enter Try.func38, Try.ntmps38
  go_wp2_with fail
  refine (u16_any _ _ bs false 4 HS.out.2.2.2.2.2.1).mono ?_
  rintro e w1 ⟨rfl, hb1⟩
  rw [← HN.out]
  have HS1 : Hid (OpenSt w w1 s s A B (.slice a bs.length c) bs) := HS.out.below hb1
  clear hb1 HS
  go_wp2_with (first | ((with_reducible refine wpList_load54 w.heap.size 0 s A ?_ ?_ ?_ ?_); rfl; exact HS1.out.2.1; exact HA.out) | ((with_reducible refine wpList_load54 (w.heap.size + 1) 0 s B ?_ ?_ ?_ ?_); rfl; exact HS1.out.2.2.1; exact HB.out))
  refine (mixed_any _ s s A B).mono ?_
  rintro e w2 ⟨rfl, hb2⟩
  have HS2 : Hid (OpenSt w w2 s s A B (.slice a bs.length c) bs) := HS1.out.below hb2
  clear hb2 HS1
  rw [show (s != s) = false by simp]
  have e0 := HS2.out.2.2.2.1
  have e1 := HS2.out.2.2.2.2.1
  go_wp2_with fail
  refine (u16_any _ _ bs false 6 HS2.out.2.2.2.2.2.1).mono ?_
  rintro e w3 ⟨rfl, hb3⟩
  rw [← HO.out]
  have HS3 : Hid (OpenSt w w3 s s A B (.slice a bs.length c) bs) := HS2.out.below hb3
  clear hb3 HS2 e0 e1
  have z0 := HS3.out.2.1.flag
  have ho' : ((O : Int) == 0) = false := by simp; omega
  go_wp2_with fail
  have i0 : (0 : Int) ≤ (N : Int) := by omega
  have i1 : (N : Int) ≤ (c : Int) := by omega
  refine wp_region_still_tail 8 (by kernel_rfl) (by kernel_rfl) ?_
  simp only [List.take_succ_cons, List.take_zero, List.drop_succ_cons, List.drop_zero]
  still_step
  still_step
  still_step
  refine wpStill_load54 w.heap.size 0 s A (by rfl) (by rfl) HS3.out.2.1 HA.out ?_
  refine wpStill_load54 (w.heap.size + 1) 0 s B (by rfl) (by rfl) HS3.out.2.2.1 HB.out ?_
  still_step
  still_step
  still_step
  refine wpStill_nil ?_
  change wpList _ _ _ _ _ w3.drew
  have HS4 : Hid (OpenSt w w3.drew s s A B (.slice a bs.length c) bs) := HS3.out.below (below_drewN w3 1)
  generalize w3.drew = w4 at HS4 ⊢
  obtain ⟨C, hC⟩ : ∃ C, C = csum (aheadB s A B N ++ bs.take N) := ⟨_, rfl⟩
  rw [← hC] at hc
  have hlN : (bs.take N).length = N := by rw [List.length_take]; omega
  have HC := Lib.hid hC
  have HL := Lib.hid hlN
  clear hC hlN HS3 z0
  go_wp2_with fail
  refine (usum_any _ s s A B _ (bs.take N) HA.out HB.out (bs_take HS4.out.bytes hs) (by rw [HL.out]; omega)).mono ?_
  rintro e w5 ⟨rfl, hb5⟩
  rw [HL.out, ← HC.out]
  have HS5 : Hid (OpenSt w w5 s s A B (.slice a bs.length c) bs) := HS4.out.below hb5
  clear hb5 HS4
  have hc1 : ((C : Int) == 0) = false := by simp; omega
  have hc2 : ((C : Int) != 0) = true := by simp; omega
  clear hc
  go_wp2_with fail
  refine bodyPost_ret (v := .tuple #[.int .u16 0, .int .u16 0, .slice none 0 0, .int .u8 5]) (by simp [results, Try.results38]) rfl ⟨rfl, HS5.out.1⟩

set_option maxRecDepth 100000 in
set_option maxHeartbeats 1000000 in
theorem open_yes8 (w : World) (s : Bool) (A B : List UInt8) (v : Value) (bs : List UInt8) (hA : A.length = 16) (hB : B.length = 16) (hb : Bs w v bs) (N O : Nat) (hN : N = getN false bs 4 2) (hO : O = getN false bs 6 2) (hlen : 8 ≤ bs.length) (hn : 8 ≤ N) (hs : N ≤ bs.length) (ho : 0 < O) (hc : csum (aheadB s A B N ++ bs.take N) = 0) :
    Calls Try.prog 38 #[.agg (adrC s A), .agg (adrC s B), v] w (OpenYes w (getN false bs 0 2) (getN false bs 2 2) (N - 8) ((bs.drop 8).take (N - 8))) := by
  have HS : Hid (OpenSt w _ s s A B v bs) := openSt_new w s s A B v bs hb
  obtain ⟨a, c, rfl, hl1, hl2, hat⟩ := hb
  clear hat
  unfold maxLen at hl2
  have hN6 : N < 65536 := hN ▸ getN_lt false bs 4 2
  have hO6 : O < 65536 := hO ▸ getN_lt false bs 6 2
  have HN := Lib.hid hN
  have HO := Lib.hid hO
  have HA := Lib.hid hA
  have HB := Lib.hid hB
  clear hN hO hA hB
  go_enter Try.func38, Try.ntmps38
  go_wp2_with fail
  refine (u16_any _ _ bs false 4 HS.out.2.2.2.2.2.1).mono ?_
  rintro e w1 ⟨rfl, hb1⟩
  rw [← HN.out]
  have HS1 : Hid (OpenSt w w1 s s A B (.slice a bs.length c) bs) := HS.out.below hb1
  clear hb1 HS
  go_wp2_with (first | ((with_reducible refine wpList_load54 w.heap.size 0 s A ?_ ?_ ?_ ?_); rfl; exact HS1.out.2.1; exact HA.out) | ((with_reducible refine wpList_load54 (w.heap.size + 1) 0 s B ?_ ?_ ?_ ?_); rfl; exact HS1.out.2.2.1; exact HB.out))
  refine (mixed_any _ s s A B).mono ?_
  rintro e w2 ⟨rfl, hb2⟩
  have HS2 : Hid (OpenSt w w2 s s A B (.slice a bs.length c) bs) := HS1.out.below hb2
  clear hb2 HS1
  rw [show (s != s) = false by simp]
  have e0 := HS2.out.2.2.2.1
  have e1 := HS2.out.2.2.2.2.1
  go_wp2_with fail
  refine (u16_any _ _ bs false 6 HS2.out.2.2.2.2.2.1).mono ?_
  rintro e w3 ⟨rfl, hb3⟩
  rw [← HO.out]
  have HS3 : Hid (OpenSt w w3 s s A B (.slice a bs.length c) bs) := HS2.out.below hb3
  clear hb3 HS2 e0 e1
  have z0 := HS3.out.2.1.flag
  have ho' : ((O : Int) == 0) = false := by simp; omega
  go_wp2_with fail
  have i0 : (0 : Int) ≤ (N : Int) := by omega
  have i1 : (N : Int) ≤ (c : Int) := by omega
  refine wp_region_still_tail 8 (by kernel_rfl) (by kernel_rfl) ?_
  simp only [List.take_succ_cons, List.take_zero, List.drop_succ_cons, List.drop_zero]
  still_step
  still_step
  still_step
  refine wpStill_load54 w.heap.size 0 s A (by rfl) (by rfl) HS3.out.2.1 HA.out ?_
  refine wpStill_load54 (w.heap.size + 1) 0 s B (by rfl) (by rfl) HS3.out.2.2.1 HB.out ?_
  still_step
  still_step
  still_step
  refine wpStill_nil ?_
  change wpList _ _ _ _ _ w3.drew
  have HS4 : Hid (OpenSt w w3.drew s s A B (.slice a bs.length c) bs) := HS3.out.below (below_drewN w3 1)
  generalize w3.drew = w4 at HS4 ⊢
  obtain ⟨C, hC⟩ : ∃ C, C = csum (aheadB s A B N ++ bs.take N) := ⟨_, rfl⟩
  rw [← hC] at hc
  have hlN : (bs.take N).length = N := by rw [List.length_take]; omega
  have HC := Lib.hid hC
  have HL := Lib.hid hlN
  clear hC hlN HS3 z0
  go_wp2_with fail
  refine (usum_any _ s s A B _ (bs.take N) HA.out HB.out (bs_take HS4.out.bytes hs) (by rw [HL.out]; omega)).mono ?_
  rintro e w5 ⟨rfl, hb5⟩
  rw [HL.out, ← HC.out]
  have HS5 : Hid (OpenSt w w5 s s A B (.slice a bs.length c) bs) := HS4.out.below hb5
  clear hb5 HS4
  have hl3 : True := trivial
  subst hc
  go_wp2_with fail
  have hS := HS5.out
  have q1 := hS.2.2.2.1
  have q2 := hS.2.2.2.2.1
  clear HS5 hl3
  have i0 : (0 : Int) ≤ (N : Int) := by omega
  have i1 : (N : Int) ≤ (c : Int) := by omega
  have i3 : (8 : Int) ≤ (N : Int) := by omega
  have i4 : (N : Int) ≤ (N : Int) := by omega
  go_region_held3 (fun w' => w'.cell? ⟨w.heap.size + 2, 0, none⟩ = some (.slice a bs.length c) ∧ w'.cell? ⟨w.heap.size + 2, 1, none⟩ = some (.bool false) ∧ OpenSt w w' s s A B (.slice a bs.length c) bs)
    ((first | (go_split_ands; exact openS_keep (below_drewN _ 1) (by assumption)) | (go_split_ands; exact openS_keep (by assumption) (by assumption))))
    (first | (go_at_call 29; go_split_ands; refine (u16_any _ _ bs false _ (OpenSt.bytes (by assumption))).mono ?_; rintro e w' ⟨rfl, hb⟩; dsimp only))
  rename_i hh
  have HF := Lib.hid hh.2.2
  clear hh
  have hv : Bsc w' (.slice (if N = 8 then a else Option.map (fun x => { block := x.block, off := x.off + 8 }) a) (N - 8) (N - 8)) ((bs.drop 8).take (N - 8)) (N - 8) := by
    obtain ⟨c', hc'⟩ := HF.out.bytes.cap
    have hcc : c' = c := by obtain ⟨_, e, _⟩ := hc'; simp only [Value.slice.injEq] at e; exact e.2.2.symm
    subst hcc
    have := bsc_sliced hc' (l := 8) (hi := N) (m := N) (by omega) (Nat.le_refl _) (by omega) hs
    simpa [sliced, Addr.add] using this
  generalize (if N = 8 then a else Option.map (fun x => ({ block := x.block, off := x.off + 8 } : Addr)) a) = av at hv ⊢
  have HV := Lib.hid hv
  clear hv
  go_wp2_with fail
  refine bodyPost_ret (v := .tuple #[.int .u16 (getN false bs 0 2), .int .u16 (getN false bs 2 2), .slice av (N - 8) (N - 8), .int .u8 0]) (by simp [results, Try.results38]) rfl ⟨_, rfl, HV.out, HF.out.1⟩

end Go.Proofs.Ytnckmaieghlpmaa
