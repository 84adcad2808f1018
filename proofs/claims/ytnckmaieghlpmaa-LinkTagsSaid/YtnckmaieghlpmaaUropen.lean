/-
  The walk of horologeref18.Open.
-/
import Derived.Test.YtnckmaieghlpmaaUopen
import Derived.Test.YtnckmaieghlpmaaRsum
import Derived.Deep.RegionLaw
namespace Go.Proofs.Ytnckmaieghlpmaa
open Go.RowKit
set_option linter.unusedVariables false

theorem sixteen (A : List UInt8) (h : A.length = 16) : ∃ a0 a1 a2 a3 a4 a5 a6 a7 a8 a9 a10 a11 a12 a13 a14 a15, A = [a0, a1, a2, a3, a4, a5, a6, a7, a8, a9, a10, a11, a12, a13, a14, a15] := by
  match A, h with
  | [a0, a1, a2, a3, a4, a5, a6, a7, a8, a9, a10, a11, a12, a13, a14, a15], _ => exact ⟨_, _, _, _, _, _, _, _, _, _, _, _, _, _, _, _, rfl⟩
theorem AdrAt.cells16 {w : World} {g : Nat} {s : Bool} {a0 a1 a2 a3 a4 a5 a6 a7 a8 a9 a10 a11 a12 a13 a14 a15 : UInt8} (h : AdrAt w g 0 s [a0, a1, a2, a3, a4, a5, a6, a7, a8, a9, a10, a11, a12, a13, a14, a15]) :
    w.cell? ⟨g, 0, none⟩ = some (.bool s) ∧ w.cell? ⟨g, 1, none⟩ = some (.int .u8 (a0.toNat : Int)) ∧ w.cell? ⟨g, 2, none⟩ = some (.int .u8 (a1.toNat : Int)) ∧ w.cell? ⟨g, 3, none⟩ = some (.int .u8 (a2.toNat : Int)) ∧ w.cell? ⟨g, 4, none⟩ = some (.int .u8 (a3.toNat : Int)) ∧ w.cell? ⟨g, 5, none⟩ = some (.int .u8 (a4.toNat : Int)) ∧ w.cell? ⟨g, 6, none⟩ = some (.int .u8 (a5.toNat : Int)) ∧ w.cell? ⟨g, 7, none⟩ = some (.int .u8 (a6.toNat : Int)) ∧ w.cell? ⟨g, 8, none⟩ = some (.int .u8 (a7.toNat : Int)) ∧ w.cell? ⟨g, 9, none⟩ = some (.int .u8 (a8.toNat : Int)) ∧ w.cell? ⟨g, 10, none⟩ = some (.int .u8 (a9.toNat : Int)) ∧ w.cell? ⟨g, 11, none⟩ = some (.int .u8 (a10.toNat : Int)) ∧ w.cell? ⟨g, 12, none⟩ = some (.int .u8 (a11.toNat : Int)) ∧ w.cell? ⟨g, 13, none⟩ = some (.int .u8 (a12.toNat : Int)) ∧ w.cell? ⟨g, 14, none⟩ = some (.int .u8 (a13.toNat : Int)) ∧ w.cell? ⟨g, 15, none⟩ = some (.int .u8 (a14.toNat : Int)) ∧ w.cell? ⟨g, 16, none⟩ = some (.int .u8 (a15.toNat : Int)) :=
  ⟨by have := h 0 _ rfl; rwa [Nat.zero_add] at this, by have := h 1 _ rfl; rwa [Nat.zero_add] at this, by have := h 2 _ rfl; rwa [Nat.zero_add] at this, by have := h 3 _ rfl; rwa [Nat.zero_add] at this, by have := h 4 _ rfl; rwa [Nat.zero_add] at this, by have := h 5 _ rfl; rwa [Nat.zero_add] at this, by have := h 6 _ rfl; rwa [Nat.zero_add] at this, by have := h 7 _ rfl; rwa [Nat.zero_add] at this, by have := h 8 _ rfl; rwa [Nat.zero_add] at this, by have := h 9 _ rfl; rwa [Nat.zero_add] at this, by have := h 10 _ rfl; rwa [Nat.zero_add] at this, by have := h 11 _ rfl; rwa [Nat.zero_add] at this, by have := h 12 _ rfl; rwa [Nat.zero_add] at this, by have := h 13 _ rfl; rwa [Nat.zero_add] at this, by have := h 14 _ rfl; rwa [Nat.zero_add] at this, by have := h 15 _ rfl; rwa [Nat.zero_add] at this, by have := h 16 _ rfl; rwa [Nat.zero_add] at this⟩

/-- where the document's Open stands -/
def ROpenSt (w wr : World) (s t : Bool) (A B : List UInt8) (v : Value) (bs : List UInt8) : Prop :=
  Below w.heap.size w wr ∧ AdrAt wr w.heap.size 0 s A ∧ AdrAt wr (w.heap.size + 1) 0 t B ∧ Bs wr v bs ∧ w.heap.size + 1 < wr.heap.size
theorem ROpenSt.below {w wr w' : World} {s t : Bool} {A B : List UInt8} {v : Value} {bs : List UInt8} (h : ROpenSt w wr s t A B v bs) (hb : Below wr.heap.size wr w') : ROpenSt w w' s t A B v bs :=
  ⟨h.1.trans (hb.mono h.1.size), h.2.1.below hb, h.2.2.1.below hb, h.2.2.2.1.below hb, Nat.lt_of_lt_of_le h.2.2.2.2 hb.size⟩
theorem rOpenSt_new (w : World) (s t : Bool) (A B : List UInt8) (v : Value) (bs : List UInt8) (hb : Bs w v bs) :
    ROpenSt w ((w.alloc (.cells (adrC s A) 54)).alloc (.cells (adrC t B) 54)) s t A B v bs := by
  refine ⟨((Below.refl _ _).alloc (Nat.le_refl _) _).alloc (by simp) _, (adrAt_new w s A 54).below (below_alloc _ _), ?_, (hb.alloc _).alloc _, by simp⟩
  have := adrAt_new (w.alloc (.cells (adrC s A) 54)) t B 54
  rw [size_alloc] at this; exact this

theorem number_q (w : World) (v : Value) (bs : List UInt8) (k : Int) (n : Nat) (hb : Bs w v bs) :
    Calls Try.prog 60 #[v, .int .i64 k, .int .i64 2] (w.drewN n) fun e w'' => e = .returned (.int .i64 (getN false bs k 2)) ∧ ∃ m, w'' = w.drewN m :=
  (number_any (w.drewN n) v bs k hb).mono fun _ _ h => ⟨h.1, n, h.2.symm⟩

def ROpenNo (w : World) (c : Nat) (e : Ending) (w' : World) : Prop :=
  e = .returned (.tuple #[.int .i64 0, .int .i64 0, .slice none 0 0, .int .i64 c]) ∧ Below w.heap.size w w'
def ROpenBoth (w : World) (C f t : Nat) (xs : List UInt8) (e : Ending) (w' : World) : Prop :=
  (C ≠ 0 → e = .returned (.tuple #[.int .i64 0, .int .i64 0, .slice none 0 0, .int .i64 5]) ∧ Below w.heap.size w w') ∧
  (C = 0 → ∃ v, e = .returned (.tuple #[.int .i64 f, .int .i64 t, v, .int .i64 0]) ∧ Bs w' v xs ∧ Below w.heap.size w w')
def ROpenYes (w : World) (f t : Nat) (xs : List UInt8) (e : Ending) (w' : World) : Prop :=
  ∃ v, e = .returned (.tuple #[.int .i64 f, .int .i64 t, v, .int .i64 0]) ∧ Bs w' v xs ∧ Below w.heap.size w w'

set_option maxRecDepth 100000 in
set_option maxHeartbeats 1000000 in
theorem ropen_no1 (w : World) (s t : Bool) (A B : List UInt8) (v : Value) (bs : List UInt8) (hA : A.length = 16) (hB : B.length = 16) (hb : Bs w v bs) (N O : Nat) (hN : N = getN false bs 4 2) (hO : O = getN false bs 6 2) (hst : s ≠ t) :
    Calls Try.prog 39 #[.agg (adrC s A), .agg (adrC t B), v] w (ROpenNo w 4) := by
  have HS : Hid (ROpenSt w _ s t A B v bs) := rOpenSt_new w s t A B v bs hb
  obtain ⟨a, c, rfl, hl1, hl2, hat⟩ := hb
  clear hat
  unfold maxLen at hl2
  have hN6 : N < 65536 := hN ▸ getN_lt false bs 4 2
  have hO6 : O < 65536 := hO ▸ getN_lt false bs 6 2
  have HN := Lib.hid hN
  have HO := Lib.hid hO
  have HA := Lib.hid hA
  have HB := Lib.hid hB
  have h1 := adr_zero s A
  have h2 := adr_zero t B
  clear hN hO hA hB
  go_enter Try.func39, Try.ntmps39
  have hst1 : (s != t) = true := by simpa using hst
  have hst2 : (s == t) = false := by simpa using hst
  go_wp2_with fail
  refine bodyPost_ret (v := .tuple #[.int .i64 0, .int .i64 0, .slice none 0 0, .int .i64 4]) (by simp [results, Try.results39]) rfl ⟨rfl, HS.out.1⟩

set_option maxRecDepth 100000 in
set_option maxHeartbeats 1000000 in
theorem ropen_no2 (w : World) (s : Bool) (A B : List UInt8) (v : Value) (bs : List UInt8) (hA : A.length = 16) (hB : B.length = 16) (hb : Bs w v bs) (N O : Nat) (hN : N = getN false bs 4 2) (hO : O = getN false bs 6 2) (hlen : bs.length < 8) :
    Calls Try.prog 39 #[.agg (adrC s A), .agg (adrC s B), v] w (ROpenNo w 3) := by
  have HS : Hid (ROpenSt w _ s s A B v bs) := rOpenSt_new w s s A B v bs hb
  obtain ⟨a, c, rfl, hl1, hl2, hat⟩ := hb
  clear hat
  unfold maxLen at hl2
  have hN6 : N < 65536 := hN ▸ getN_lt false bs 4 2
  have hO6 : O < 65536 := hO ▸ getN_lt false bs 6 2
  have HN := Lib.hid hN
  have HO := Lib.hid hO
  have HA := Lib.hid hA
  have HB := Lib.hid hB
  have h1 := adr_zero s A
  have h2 := adr_zero s B
  clear hN hO hA hB
  go_enter Try.func39, Try.ntmps39
  go_wp2_with fail
  refine bodyPost_ret (v := .tuple #[.int .i64 0, .int .i64 0, .slice none 0 0, .int .i64 3]) (by simp [results, Try.results39]) rfl ⟨rfl, HS.out.1⟩

set_option maxRecDepth 100000 in
set_option maxHeartbeats 1000000 in
theorem ropen_no3 (w : World) (s : Bool) (A B : List UInt8) (v : Value) (bs : List UInt8) (hA : A.length = 16) (hB : B.length = 16) (hb : Bs w v bs) (N O : Nat) (hN : N = getN false bs 4 2) (hO : O = getN false bs 6 2) (hlen : 8 ≤ bs.length) (hn : N < 8) :
    Calls Try.prog 39 #[.agg (adrC s A), .agg (adrC s B), v] w (ROpenNo w 4) := by
  have HS : Hid (ROpenSt w _ s s A B v bs) := rOpenSt_new w s s A B v bs hb
  obtain ⟨a, c, rfl, hl1, hl2, hat⟩ := hb
  clear hat
  unfold maxLen at hl2
  have hN6 : N < 65536 := hN ▸ getN_lt false bs 4 2
  have hO6 : O < 65536 := hO ▸ getN_lt false bs 6 2
  have HN := Lib.hid hN
  have HO := Lib.hid hO
  have HA := Lib.hid hA
  have HB := Lib.hid hB
  have h1 := adr_zero s A
  have h2 := adr_zero s B
  clear hN hO hA hB
  go_enter Try.func39, Try.ntmps39
  go_wp2_with fail
  refine (number_any _ _ bs 4 HS.out.2.2.2.1).mono ?_
  rintro e w1 ⟨rfl, rfl⟩
  rw [← HN.out]
  go_wp2_with fail
  refine bodyPost_ret (v := .tuple #[.int .i64 0, .int .i64 0, .slice none 0 0, .int .i64 4]) (by simp [results, Try.results39]) rfl ⟨rfl, HS.out.1⟩

set_option maxRecDepth 100000 in
set_option maxHeartbeats 1000000 in
theorem ropen_no4 (w : World) (s : Bool) (A B : List UInt8) (v : Value) (bs : List UInt8) (hA : A.length = 16) (hB : B.length = 16) (hb : Bs w v bs) (N O : Nat) (hN : N = getN false bs 4 2) (hO : O = getN false bs 6 2) (hlen : 8 ≤ bs.length) (hn : 8 ≤ N) (hs : bs.length < N) :
    Calls Try.prog 39 #[.agg (adrC s A), .agg (adrC s B), v] w (ROpenNo w 3) := by
  have HS : Hid (ROpenSt w _ s s A B v bs) := rOpenSt_new w s s A B v bs hb
  obtain ⟨a, c, rfl, hl1, hl2, hat⟩ := hb
  clear hat
  unfold maxLen at hl2
  have hN6 : N < 65536 := hN ▸ getN_lt false bs 4 2
  have hO6 : O < 65536 := hO ▸ getN_lt false bs 6 2
  have HN := Lib.hid hN
  have HO := Lib.hid hO
  have HA := Lib.hid hA
  have HB := Lib.hid hB
  have h1 := adr_zero s A
  have h2 := adr_zero s B
  clear hN hO hA hB
  go_enter Try.func39, Try.ntmps39
  go_wp2_with fail
  refine (number_any _ _ bs 4 HS.out.2.2.2.1).mono ?_
  rintro e w1 ⟨rfl, rfl⟩
  rw [← HN.out]
  go_wp2_with fail
  refine bodyPost_ret (v := .tuple #[.int .i64 0, .int .i64 0, .slice none 0 0, .int .i64 3]) (by simp [results, Try.results39]) rfl ⟨rfl, HS.out.1⟩

set_option maxRecDepth 100000 in
set_option maxHeartbeats 1000000 in
theorem ropen_no5 (w : World) (A B : List UInt8) (v : Value) (bs : List UInt8) (hA : A.length = 16) (hB : B.length = 16) (hb : Bs w v bs) (N O : Nat) (hN : N = getN false bs 4 2) (hO : O = getN false bs 6 2) (hlen : 8 ≤ bs.length) (hn : 8 ≤ N) (hs : N ≤ bs.length) (ho : O = 0) :
    Calls Try.prog 39 #[.agg (adrC true A), .agg (adrC true B), v] w (ROpenNo w 5) := by
  have HS : Hid (ROpenSt w _ true true A B v bs) := rOpenSt_new w true true A B v bs hb
  obtain ⟨a, c, rfl, hl1, hl2, hat⟩ := hb
  clear hat
  unfold maxLen at hl2
  have hN6 : N < 65536 := hN ▸ getN_lt false bs 4 2
  have hO6 : O < 65536 := hO ▸ getN_lt false bs 6 2
  subst ho
  have HN := Lib.hid hN
  have HO := Lib.hid hO
  have HA := Lib.hid hA
  have HB := Lib.hid hB
  have h1 := adr_zero true A
  have h2 := adr_zero true B
  clear hN hO hA hB
  go_enter Try.func39, Try.ntmps39
  go_wp2_with fail
  refine (number_any _ _ bs 4 HS.out.2.2.2.1).mono ?_
  rintro e w1 ⟨rfl, rfl⟩
  rw [← HN.out]
  go_wp2_with fail
  refine (number_any _ _ bs 6 HS.out.2.2.2.1).mono ?_
  rintro e w1 ⟨rfl, rfl⟩
  rw [← HO.out]
  go_wp2_with fail
  go_quiet (fail)
  go_wp2_with fail
  refine bodyPost_ret (v := .tuple #[.int .i64 0, .int .i64 0, .slice none 0 0, .int .i64 5]) (by simp [results, Try.results39]) rfl ⟨rfl, HS.out.1.trans ((below_drewN _ _).mono HS.out.1.size)⟩

set_option maxRecDepth 100000 in
set_option maxHeartbeats 1000000 in
theorem ropen_yes6 (w : World) (A B : List UInt8) (v : Value) (bs : List UInt8) (hA : A.length = 16) (hB : B.length = 16) (hb : Bs w v bs) (N O : Nat) (hN : N = getN false bs 4 2) (hO : O = getN false bs 6 2) (hlen : 8 ≤ bs.length) (hn : 8 ≤ N) (hs : N ≤ bs.length) (ho : O = 0) :
    Calls Try.prog 39 #[.agg (adrC false A), .agg (adrC false B), v] w (ROpenYes w (getN false bs 0 2) (getN false bs 2 2) ((bs.drop 8).take (N - 8))) := by
  have HS : Hid (ROpenSt w _ false false A B v bs) := rOpenSt_new w false false A B v bs hb
  obtain ⟨a, c, rfl, hl1, hl2, hat⟩ := hb
  clear hat
  unfold maxLen at hl2
  have hN6 : N < 65536 := hN ▸ getN_lt false bs 4 2
  have hO6 : O < 65536 := hO ▸ getN_lt false bs 6 2
  subst ho
  have HN := Lib.hid hN
  have HO := Lib.hid hO
  have HA := Lib.hid hA
  have HB := Lib.hid hB
  have h1 := adr_zero false A
  have h2 := adr_zero false B
  clear hN hO hA hB
  go_enter Try.func39, Try.ntmps39
  go_wp2_with fail
  refine (number_any _ _ bs 4 HS.out.2.2.2.1).mono ?_
  rintro e w1 ⟨rfl, rfl⟩
  rw [← HN.out]
  go_wp2_with fail
  refine (number_any _ _ bs 6 HS.out.2.2.2.1).mono ?_
  rintro e w1 ⟨rfl, rfl⟩
  rw [← HO.out]
  obtain ⟨nq, hnq⟩ : ∃ X : Nat, X = X := ⟨0, rfl⟩
  have i0 : (0 : Int) ≤ (N : Int) := by omega
  have i1 : (N : Int) ≤ (c : Int) := by omega
  have i3 : (8 : Int) ≤ (N : Int) := by omega
  go_wp2_with fail
  go_quiet ((go_at_call 60; exact number_q _ _ bs _ _ HS.out.2.2.2.1))
  have hv : Bs ((w.alloc (Obj.cells (adrC false A) 54)).alloc (Obj.cells (adrC false B) 54)) (.slice (if c = 8 then a else Option.map (fun x => { block := x.block, off := x.off + 8 }) a) (N - 8) (c - 8)) ((bs.drop 8).take (N - 8)) := by
    obtain ⟨c', hc'⟩ := HS.out.2.2.2.1.cap
    have hcc : c' = c := by obtain ⟨_, e, _⟩ := hc'; simp only [Value.slice.injEq] at e; exact e.2.2.symm
    subst hcc
    have := (bsc_sliced hc' (l := 8) (hi := N) (m := c') (by omega) (by omega) (Nat.le_refl _) hs).bs
    simpa [sliced, Addr.add] using this
  generalize (if c = 8 then a else Option.map (fun x => ({ block := x.block, off := x.off + 8 } : Addr)) a) = av at hv ⊢
  have HV := Lib.hid hv
  clear hv hnq
  go_wp2_with fail
  refine bodyPost_ret (v := .tuple #[.int .i64 (getN false bs 0 2), .int .i64 (getN false bs 2 2), .slice av (N - 8) (c - 8), .int .i64 0]) (by simp [results, Try.results39]) rfl ⟨_, rfl, HV.out, HS.out.1.trans ((below_drewN _ _).mono HS.out.1.size)⟩

set_option maxRecDepth 100000 in
set_option maxHeartbeats 1000000 in
theorem ropen_both (w : World) (s : Bool) (A B : List UInt8) (v : Value) (bs : List UInt8) (hA : A.length = 16) (hB : B.length = 16) (hb : Bs w v bs) (N O : Nat) (hN : N = getN false bs 4 2) (hO : O = getN false bs 6 2) (hlen : 8 ≤ bs.length) (hn : 8 ≤ N) (hs : N ≤ bs.length) (ho : 0 < O) :
    Calls Try.prog 39 #[.agg (adrC s A), .agg (adrC s B), v] w (ROpenBoth w (csum (aheadB s A B N ++ bs.take N)) (getN false bs 0 2) (getN false bs 2 2) ((bs.drop 8).take (N - 8))) := by
  have HS : Hid (ROpenSt w _ s s A B v bs) := rOpenSt_new w s s A B v bs hb
  obtain ⟨a, c, rfl, hl1, hl2, hat⟩ := hb
  clear hat
  unfold maxLen at hl2
  have hN6 : N < 65536 := hN ▸ getN_lt false bs 4 2
  have hO6 : O < 65536 := hO ▸ getN_lt false bs 6 2
  obtain ⟨a0, a1, a2, a3, a4, a5, a6, a7, a8, a9, a10, a11, a12, a13, a14, a15, rfl⟩ := sixteen A hA
  obtain ⟨b0, b1, b2, b3, b4, b5, b6, b7, b8, b9, b10, b11, b12, b13, b14, b15, rfl⟩ := sixteen B hB
  have HN := Lib.hid hN
  have HO := Lib.hid hO
  have HA := Lib.hid hA
  have HB := Lib.hid hB
  have h1 := adr_zero s [a0, a1, a2, a3, a4, a5, a6, a7, a8, a9, a10, a11, a12, a13, a14, a15]
  have h2 := adr_zero s [b0, b1, b2, b3, b4, b5, b6, b7, b8, b9, b10, b11, b12, b13, b14, b15]
  clear hN hO hA hB
  go_enter Try.func39, Try.ntmps39
  go_wp2_with fail
  refine (number_any _ _ bs 4 HS.out.2.2.2.1).mono ?_
  rintro e w1 ⟨rfl, rfl⟩
  rw [← HN.out]
  go_wp2_with fail
  refine (number_any _ _ bs 6 HS.out.2.2.2.1).mono ?_
  rintro e w1 ⟨rfl, rfl⟩
  rw [← HO.out]
  have ho1 : ((O : Int) == 0) = false := by simp; omega
  have ho2 : ((O : Int) != 0) = true := by simp; omega
  go_wp2_with fail
  generalize (w.alloc (.cells (adrC s [a0, a1, a2, a3, a4, a5, a6, a7, a8, a9, a10, a11, a12, a13, a14, a15]) 54)).alloc (.cells (adrC s [b0, b1, b2, b3, b4, b5, b6, b7, b8, b9, b10, b11, b12, b13, b14, b15]) 54) = w4 at HS ⊢
  have i0 : (0 : Int) ≤ (N : Int) := by omega
  have i1 : (N : Int) ≤ (c : Int) := by omega
  obtain ⟨x0, x1, x2, x3, x4, x5, x6, x7, x8, x9, x10, x11, x12, x13, x14, x15, x16⟩ := HS.out.2.1.cells16
  obtain ⟨y0, y1, y2, y3, y4, y5, y6, y7, y8, y9, y10, y11, y12, y13, y14, y15, y16⟩ := HS.out.2.2.1.cells16
  obtain ⟨C, hC⟩ : ∃ C, C = csum (aheadB s [a0, a1, a2, a3, a4, a5, a6, a7, a8, a9, a10, a11, a12, a13, a14, a15] [b0, b1, b2, b3, b4, b5, b6, b7, b8, b9, b10, b11, b12, b13, b14, b15] N ++ bs.take N) := ⟨_, rfl⟩
  rw [← hC]
  have hlN : (bs.take N).length = N := by rw [List.length_take]; omega
  have HC := Lib.hid hC
  have HL := Lib.hid hlN
  have HAL := Lib.hid (show (aheadB s [a0, a1, a2, a3, a4, a5, a6, a7, a8, a9, a10, a11, a12, a13, a14, a15] [b0, b1, b2, b3, b4, b5, b6, b7, b8, b9, b10, b11, b12, b13, b14, b15] N).length ≤ 40 by rw [aheadB_len s _ _ _ rfl rfl]; exact (aheadM_le s).2)
  clear hC hlN
  have HSd : Hid (ROpenSt w w4.drew s s [a0, a1, a2, a3, a4, a5, a6, a7, a8, a9, a10, a11, a12, a13, a14, a15] [b0, b1, b2, b3, b4, b5, b6, b7, b8, b9, b10, b11, b12, b13, b14, b15] (.slice a bs.length c) bs) := HS.out.below (below_drewN w4 1)
  go_region_law (first
    | (refine step_app_g (by rfl) _ _ (by rfl) w4.heap.size _ Y1 (by rfl) O1.out _ (bs.take N) (by rfl) HB5.out (by rw [HL.out, E1.out]; have := HAL.out; omega) S5.out ?_; intro Y2 a2' c2 w6 E2 O2 L2 N2 hc2)
    | (go_simp; go_at_call 61; refine (rahead_any _ s s [a0, a1, a2, a3, a4, a5, a6, a7, a8, a9, a10, a11, a12, a13, a14, a15] [b0, b1, b2, b3, b4, b5, b6, b7, b8, b9, b10, b11, b12, b13, b14, b15] N rfl rfl (by omega)).mono ?_; rintro e w5 ⟨Y1, a1', c1, rfl, e1, o1, l1, q1, q2⟩; have E1 := Lib.hid e1; have O1 := Lib.hid o1; have L1 := Lib.hid l1; have HB5 : Hid (Bs w5 (.slice a N c) (bs.take N)) := bs_take (HSd.out.2.2.2.1.below l1) hs; have S5 := Lib.hid l1.size; clear e1 o1 l1; dsimp only)
    | (go_simp; go_at_call 25; refine (rsum_any _ _ Y2 (by have q1 := N2.out; have q2 := HL.out; have q3 := HAL.out; have q4 : Y1.length = (aheadB s [a0, a1, a2, a3, a4, a5, a6, a7, a8, a9, a10, a11, a12, a13, a14, a15] [b0, b1, b2, b3, b4, b5, b6, b7, b8, b9, b10, b11, b12, b13, b14, b15] N).length := congrArg List.length E1.out; omega) O2.out.bs).mono ?_; rintro e w7 ⟨rfl, rfl⟩; have hcs : csum Y2 = C := (congrArg csum (E2.out.trans (congrArg (· ++ bs.take N) E1.out))).trans HC.out.symm; rw [hcs]; clear hcs; dsimp only))
  all_goals
    have HS5 : Hid (ROpenSt w w6 s s [a0, a1, a2, a3, a4, a5, a6, a7, a8, a9, a10, a11, a12, a13, a14, a15] [b0, b1, b2, b3, b4, b5, b6, b7, b8, b9, b10, b11, b12, b13, b14, b15] (.slice a bs.length c) bs) := HSd.out.below (L1.out.trans L2.out)
    clear x0 x1 x2 x3 x4 x5 x6 x7 x8 x9 x10 x11 x12 x13 x14 x15 x16 y0 y1 y2 y3 y4 y5 y6 y7 y8 y9 y10 y11 y12 y13 y14 y15 y16
    clear HS HSd
    by_cases hc0 : C = 0
    · have hc1 : ((C : Int) == 0) = true := by simp [hc0]
      have hc2 : ((C : Int) != 0) = false := by simp [hc0]
      have HC0 := Lib.hid hc0
      clear hc0
      obtain ⟨nq, hnq⟩ : ∃ X : Nat, X = X := ⟨0, rfl⟩
      have i0 : (0 : Int) ≤ (N : Int) := by omega
      have i1 : (N : Int) ≤ (c : Int) := by omega
      have i3 : (8 : Int) ≤ (N : Int) := by omega
      go_wp2_with fail
      go_quiet ((go_at_call 60; exact number_q _ _ bs _ _ HS5.out.2.2.2.1))
      have hv : Bs w6 (.slice (if c = 8 then a else Option.map (fun x => { block := x.block, off := x.off + 8 }) a) (N - 8) (c - 8)) ((bs.drop 8).take (N - 8)) := by
        obtain ⟨c', hc'⟩ := HS5.out.2.2.2.1.cap
        have hcc : c' = c := by obtain ⟨_, e, _⟩ := hc'; simp only [Value.slice.injEq] at e; exact e.2.2.symm
        subst hcc
        have := (bsc_sliced hc' (l := 8) (hi := N) (m := c') (by omega) (by omega) (Nat.le_refl _) hs).bs
        simpa [sliced, Addr.add] using this
      generalize (if c = 8 then a else Option.map (fun x => ({ block := x.block, off := x.off + 8 } : Addr)) a) = av at hv ⊢
      have HV := Lib.hid hv
      clear hv hnq
      go_wp2_with fail
      refine bodyPost_ret (v := .tuple #[.int .i64 (getN false bs 0 2), .int .i64 (getN false bs 2 2), .slice av (N - 8) (c - 8), .int .i64 0]) (by simp [results, Try.results39]) rfl ⟨fun h => absurd (HC.out.symm.trans HC0.out) h, fun _ => ⟨_, rfl, HV.out, HS5.out.1.trans ((below_drewN _ _).mono HS5.out.1.size)⟩⟩
    · have hc1 : ((C : Int) == 0) = false := by simp; omega
      have hc2 : ((C : Int) != 0) = true := by simp; omega
      have HC0 := Lib.hid hc0
      clear hc0
      go_wp2_with fail
      refine bodyPost_ret (v := .tuple #[.int .i64 0, .int .i64 0, .slice none 0 0, .int .i64 5]) (by simp [results, Try.results39]) rfl ⟨fun _ => ⟨rfl, HS5.out.1⟩, fun h => absurd (HC.out.trans h) HC0.out⟩

end Go.Proofs.Ytnckmaieghlpmaa
